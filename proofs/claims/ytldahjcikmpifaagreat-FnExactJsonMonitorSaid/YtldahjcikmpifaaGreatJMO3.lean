import Derived.Test.YtldahjcikmpifaaGreatJMO2
set_option linter.all false
namespace Go.R
open Go Go.Proofs
set_option maxHeartbeats 8000000
def c124:a0q :=
 (.seq (.reg (tq 1 (.box 5 (.t 0)) (tm 2 (.c (.bool false)) .done)))
 (.seq (.reg (tq 3 (.box 1 (.c (.int .i64 0))) (.q ⟨none,none,.store 1 (.t 3) (.c (.int .i64 400))⟩
 .done)))
 (.seq (.reg (tq 4 (.load 5 true (.t 1)) (tq 5 (.call 224 [(.t 4),(.c (.int .i64 0)),(.t 3)]) (tm 2 (.t 5) .done))))
 .ret)))
theorem e8c:a1b Tryz.prog Tryz.f124 = some (c124.erase,[.mov (.t 2)],6):=by kernel_rfl
def b2x (A:y8):Option Bool :=
    (a4r FUEL A 0 400).bind fun B =>
    some B.1
theorem c8s (A:y8) (r:Bool) (hf:b2x A = some r):a0a Tryz.prog 124 .flat [(l9 A)] (.bool r):=by
 refine a0a.of_awp mixed Tryz.func124 e8c nle ?_;rw [a0l];rw [o9 A];unfold b2x at hf;unfold c124;refine (show awp Tryz.prog false 0 _ (ofL [(0,(.agg [(.I A.Kind),(.I A.N),(.str A.T),(.lst 1 (A.Keys.map AV.str)),(.lst 5 (A.Items.map l9))]))]) [] _ from ?_);refine sr<|y7 (a1i (j:=0) (c:=(.agg [(.I A.Kind),(.I A.N),(.str A.T),(.lst 1 (A.Keys.map AV.str)),(.lst 5 (A.Items.map l9))])) rfl tr rfl rfl)<|l7 (.bool false) rfl<|dk<|sr<|y7 (a1i (j:=1) (c:=(.I 0)) rfl tr rfl rfl)<|a1k (a0i (v:=(.I 400)) (y':=(.I 400)) rfl rfl rfl tr ⟨rfl,rfl,rfl⟩ ⟨⟨rfl,tr⟩,tr⟩ rfl)<|?_
 refine dk<|sr<|?_
 obtain ⟨B,er3,hf⟩:=ob hf
 refine o7 (.agg [(.I A.Kind),(.I A.N),(.str A.T),(.lst 1 (A.Keys.map AV.str)),(.lst 5 (A.Items.map l9))]) rfl nle rfl ?_;refine y7 (b3q (v:=(.bool B.1)) (h2:=[.box 5 (.agg [(.I A.Kind),(.I A.N),(.str A.T),(.lst 1 (A.Keys.map AV.str)),(.lst 5 (A.Items.map l9))]),.box 1 (.I B.2)]) [] [1] (fun _ => rfl) (b3j FUEL _ _ _ _ er3) rfl (.cons (.of_eq (o9 A).symm) (.cons .r (.cons .r .nil))) .r rfl rfl) ?_;refine l7 (.bool B.1) rfl<|dk<|a0d<|?_;obtain rfl:=os hf;exact a0f ⟨tr,tr⟩ rfl .r
def e8d:a0q :=
 (.seq (.reg (tm 4 (.c (.int .i64 0)) .done))
 (.seq (.seq (.reg (tm 6 (.t 0) (tq 7 (.len (.t 6)) (tm 8 (.c (.int .i64 0)) .done))))
 (.block 0 (.loop (.seq (.reg (tq 9 (.bin .lss (.t 8) (.t 7)) .done))
 (.seq (.cond (.t 9) .skip
 (.exit 0))
 (.seq (.block 1 (.seq (.reg (tm 10 (.t 8) (tm 5 (.t 10) .done)))
 (.seq (.reg (tm 11 (.t 1) (tm 12 (.t 0) (tm 13 (.t 5) (tq 14 (.iaddr 1 (.t 12) (.t 13)) (tq 15 (.load 1 false (.t 14)) (tq 16 (.bin .eql (.t 11) (.t 15)) .done)))))))
 (.cond (.t 16) (.seq (.reg (tm 17 (.t 5) (tm 4 (.t 17) .done)))
 .ret)
 .skip))))
 (.reg (tq 18 (.bin .add (.t 8) (.c (.int .i64 1))) (tm 8 (.t 18) .done)))))))))
 (.cut (.seq (.reg (tq 4 (.mov (.c (.int .i64 (-1)))) .done))
 .ret))))
theorem e8e:a1b Tryz.prog Tryz.f239 = some (e8d.erase,[.mov (.t 4)],19):=by kernel_rfl
def a1e (D:Str):List Str → Nat → Option (Fl Int Unit)
  | [],A =>
    some (.go ())
  | E :: xs,A =>
    if (D == E) then
    some (.ret (A:Int))
    else
    a1e D xs (A + 1)
def a3k (B:(List Str)) (D:Str):Option Int :=
    (a1e D B 0).bind fun q => (match q with
    | .ret r => some r
    | .go _ =>
    some (-1))
theorem a8s (B:(List Str)) (D:Str) (r:Int) (hf:a3k B D = some r):a0a Tryz.prog 239 .flat [(.lst 1 (B.map AV.str)),(.str D)] (.I r):=by
 refine a0a.of_awp mixed Tryz.func239 e8e nle ?_;rw [a0l];unfold a3k at hf;unfold e8d;refine (show awp Tryz.prog false 0 _ (ofL [(0,(.lst 1 (B.map AV.str))),(1,(.str D))]) [] _ from ?_);refine sr<|l7 (.I 0) rfl<|dk<|o6<|sr<|l7 (.lst 1 (B.map AV.str)) rfl<|a1a (a1t (enc:=AV.str) rfl) fun hl3 => l7 (.I 0) rfl<|dk<|?_
 obtain ⟨p18,hb1,hf⟩:=ob hf
 refine a1u (X:={q:Unit // p18 = .go q}) (fun q => ([],[])) ?_ ?_
 ·refine a1h (X:={q:Nat // a1e D (B.drop q) q = some p18}) (fun q => ([(0,(.lst 1 (B.map AV.str))),(1,(.str D)),(7,(.I (B.length:Int))),(8,(.I (q.1:Int)))],[])) (fun q => B.length - q.1) ⟨0,hb1⟩ ⟨[],[],_,_,rfl,rfl,⟨.r,⟨.r,⟨.r,⟨.r,tr⟩⟩⟩⟩,.r⟩ ?_
  rintro ⟨A,hc1⟩
  have hc1:a1e D (B.drop A) A = some p18:=hc1
  refine (show awp Tryz.prog false 0 _ (ofL [(0,(.lst 1 (B.map AV.str))),(1,(.str D)),(7,(.I (B.length:Int))),(8,(.I (A:Int)))]) [] _ from ?_)
  rcases a5j B A with ⟨hie21,hd24⟩ | ⟨hlt19,E,hx20,hd24⟩
  ·rw [hd24,a1e.eq_1] at hc1
   have hq23:=dlf hie21
   refine sr<|o7 (.bool (decide ((A:Int) < (B.length:Int)))) rfl rfl rfl<|dk<|o6<|x8 rfl hq23<|a2o<|a2n<|a1s<|a2m<|?_;obtain rfl:=os hc1;exact a2s ⟨_,rfl⟩ ⟨[],[],_,_,rfl,rfl,tr,.r⟩
  ·rw [hd24,a1e.eq_2] at hc1
   have hq23:=dlt hlt19
   refine sr<|o7 (.bool (decide ((A:Int) < (B.length:Int)))) rfl rfl rfl<|dk<|o6<|x9 rfl hq23<|a0h<|a0j<|o6<|a2y<|sr<|l7 (.I (A:Int)) rfl<|l7 (.I (A:Int)) rfl<|dk<|sr<|l7 (.str D) rfl<|l7 (.lst 1 (B.map AV.str)) rfl<|l7 (.I (A:Int)) rfl<|y7 (a1m (enc:=AV.str) rfl rfl hx20)<|o7 (.str E) rfl ⟨rfl,rfl⟩ rfl<|o7 (.bool (D == E)) rfl tr rfl<|dk<|?_
   rcases oi hc1 with ⟨c26,hc1⟩ | ⟨c26,hc1⟩
   ·refine x9 rfl c26<|sr<|l7 (.I (A:Int)) rfl<|l7 (.I (A:Int)) rfl<|dk<|a0d<|?_;obtain rfl:=os hc1;obtain rfl:=os hf;exact a0f ⟨tr,tr⟩ rfl .r
   ·refine x8 rfl (bf c26)<|a0h<|a1v<|a0j<|a0t<|o7 (.I (w64 ((A:Int) + 1))) rfl rfl rfl<|l7 (.I (w64 ((A:Int) + 1))) rfl<|a0e<|?_;exact a1p ⟨(A + 1),hc1⟩ (mul hlt19) ⟨[],[],_,_,rfl,rfl,⟨.r,⟨.r,⟨.r,⟨.of_eq (congrArg (AV.int _) (a1r hlt19 hl3)),tr⟩⟩⟩⟩,.r⟩
 ·rintro ⟨_,rfl⟩
  refine sr<|l7 (.I (-1)) rfl<|dk<|a0d<|?_;obtain rfl:=os hf;exact a0f ⟨tr,tr⟩ rfl .r
def e8f:a0q :=
 (.seq (.reg (tq 2 (.box 5 (.t 0)) (tq 4 (.box 5 (.c (.agg [(.int .i64 0),(.int .i64 0),(.str []),.nil,.nil]))) (tm 5 (.c (.bool false)) .done))))
 (.seq (.reg (tq 7 (.faddr 3 (.t 2)) (tq 8 (.load 1 false (.t 7)) (tm 9 (.t 1) (tq 10 (.call 239 [(.t 8),(.t 9)]) (tm 6 (.t 10) .done))))))
 (.seq (.seq (.reg (tq 11 (.faddr 0 (.t 2)) (tq 12 (.load 1 false (.t 11)) (tq 13 (.bin .neq (.t 12) (.c (.int .i64 5))) (tm 14 (.t 13) (tg 15 14 false (.mov (.t 6)) (tg 16 14 false (.bin .lss (.t 15) (.c (.int .i64 0))) (tq 17 (.pick (.t 14) (.c (.bool true)) (.t 16)) .done))))))))
 (.cut (.cond (.t 17) (.seq (.reg (tq 18 (.build [(.int .i64 0),(.int .i64 0),(.str []),.nil,.nil] []) (.q ⟨none,none,.store 5 (.t 4) (.t 18)⟩
 (tm 5 (.c (.bool false)) .done))))
 .ret)
 .skip)))
 (.seq (.reg (tq 19 (.faddr 4 (.t 2)) (tq 20 (.load 1 false (.t 19)) (tm 21 (.t 6) (tq 22 (.iaddr 5 (.t 20) (.t 21)) (tq 23 (.load 5 true (.t 22)) (.q ⟨none,none,.store 5 (.t 4) (.t 23)⟩
 (tm 5 (.c (.bool true)) .done))))))))
 .ret))))
theorem e8g:a1b Tryz.prog Tryz.f140 = some (e8f.erase,[.load 5 true (.t 4),.mov (.t 5)],24):=by kernel_rfl
def a6l (A:y8) (D:Str):Option (y8 × Bool) :=
    (a3k A.Keys D).bind fun E =>
    ((if (A.Kind != 5) then
    some true
    else
    some (decide (E < 0)):Option Bool)).bind fun F =>
    if F then
    some ((⟨0,0,[],[],[]⟩:y8),false)
    else
    (idx A.Items E).bind fun B =>
    some (B,true)
theorem c1t (A:y8) (D:Str) (r:(y8 × Bool)) (hf:a6l A D = some r):a0a Tryz.prog 140 .weak [(l9 A),(.str D)] (.tup [(l9 r.1),(.bool r.2)]):=by
 refine a0a.of_awp mixed Tryz.func140 e8g nle ?_;rw [a0l];rw [o9 A];unfold a6l at hf;unfold e8f;refine (show awp Tryz.prog false 0 _ (ofL [(0,(.agg [(.I A.Kind),(.I A.N),(.str A.T),(.lst 1 (A.Keys.map AV.str)),(.lst 5 (A.Items.map l9))])),(1,(.str D))]) [] _ from ?_);refine sr<|y7 (a1i (j:=0) (c:=(.agg [(.I A.Kind),(.I A.N),(.str A.T),(.lst 1 (A.Keys.map AV.str)),(.lst 5 (A.Items.map l9))])) rfl tr rfl rfl)<|y7 (a1i (j:=1) (c:=(.agg [(.I 0),(.I 0),(.str []),.nil,.nil])) rfl tr rfl rfl)<|l7 (.bool false) rfl<|dk<|sr<|?_
 obtain ⟨E,er4,hf⟩:=ob hf
 refine o7 (.ptr 0 0 3) rfl tr rfl<|o7 (.lst 1 (A.Keys.map AV.str)) rfl nle rfl<|l7 (.str D) rfl<|y7 (a0p (a8s _ _ _ er4) rfl .r rfl)<|l7 (.I E) rfl<|dk<|o6<|o6<|?_
 obtain ⟨F,hb1,hf⟩:=ob hf
 refine a2d ([(2,(.ptr 0 0 0)),(4,(.ptr 1 0 0)),(6,(.I E)),(17,(.bool F))],[.box 5 (.agg [(.I A.Kind),(.I A.N),(.str A.T),(.lst 1 (A.Keys.map AV.str)),(.lst 5 (A.Items.map l9))]),.box 5 (.agg [(.I 0),(.I 0),(.str []),.nil,.nil])]) ?_ ?_
 ·refine a0t ?_
  rcases oi hb1 with ⟨c8,hb1⟩ | ⟨c8,hb1⟩
  ·refine o7 (.ptr 0 0 0) rfl tr rfl<|o7 (.I A.Kind) rfl nle rfl<|o7 (.bool (A.Kind != 5)) rfl rfl rfl<|l7 (.bool (A.Kind != 5)) rfl<|a0x (s:=14) (b:=true) rfl c8<|y5 rfl rfl<|y5 rfl rfl<|o7 (.bool true) rfl tr rfl<|a0e<|?_;obtain rfl:=os hb1;exact ⟨[],[0,1],_,_,rfl,rfl,⟨.r,⟨.r,⟨.r,⟨.r,tr⟩⟩⟩⟩,.r⟩
  ·refine o7 (.ptr 0 0 0) rfl tr rfl<|o7 (.I A.Kind) rfl nle rfl<|o7 (.bool (A.Kind != 5)) rfl rfl rfl<|l7 (.bool (A.Kind != 5)) rfl<|a0x (s:=14) (b:=false) rfl (bf c8)<|s_on rfl<|l7 (.I E) rfl<|s_on rfl<|o7 (.bool (decide (E < 0))) rfl rfl rfl<|o7 (.bool (decide (E < 0))) rfl tr rfl<|a0e<|?_;obtain rfl:=os hb1;exact ⟨[],[0,1],_,_,rfl,rfl,⟨.r,⟨.r,⟨.r,⟨.r,tr⟩⟩⟩⟩,.r⟩
 ·rcases oi hf with ⟨c9,hf⟩ | ⟨c9,hf⟩
  ·refine x9 rfl c9<|sr<|o7 (.agg [(.I 0),(.I 0),(.str []),.nil,.nil]) rfl tr rfl<|a1k (a0i (v:=(.agg [(.I 0),(.I 0),(.str []),.nil,.nil])) (y':=(.agg [(.I 0),(.I 0),(.str []),.nil,.nil])) rfl rfl rfl tr ⟨rfl,nle⟩ ⟨⟨rfl,tr⟩,⟨⟨rfl,tr⟩,⟨⟨rfl,tr⟩,⟨⟨rfl,tr⟩,⟨⟨rfl,tr⟩,tr⟩⟩⟩⟩⟩ rfl)<|l7 (.bool false) rfl<|dk<|a0d<|?_;obtain rfl:=os hf;exact b7l ⟨nle,⟨tr,tr⟩⟩ rfl (.tup (.cons (leJ (x:=(⟨0,0,[],[],[]⟩:y8)) (.agg (.cons .r (.cons .r (.cons .r (.cons (.nil _) (.cons (.nil _) .nil))))))) (.cons .r .nil)))
  ·refine x8 rfl (bf c9)<|a0h<|a0j<|sr<|?_
   obtain ⟨B,ex11,hf⟩:=ob hf
   refine o7 (.ptr 0 0 4) rfl tr rfl<|o7 (.lst 5 (A.Items.map l9)) rfl nle rfl<|l7 (.I E) rfl<|y7 (a3d (enc:=l9) rfl rfl (b0a ex11) (b0b ex11))<|y7 (a2l (v:=(.agg [(.I B.Kind),(.I B.N),(.str B.T),(.lst 1 (B.Keys.map AV.str)),(.lst 5 (B.Items.map l9))])) rfl (o9 _) nle rfl)<|a1k (a0i (v:=(.agg [(.I B.Kind),(.I B.N),(.str B.T),(.lst 1 (B.Keys.map AV.str)),(.lst 5 (B.Items.map l9))])) (y':=(.agg [(.I B.Kind),(.I B.N),(.str B.T),(.lst 1 (B.Keys.map AV.str)),(.lst 5 (B.Items.map l9))])) rfl rfl rfl tr ⟨rfl,nle⟩ ⟨⟨rfl,tr⟩,⟨⟨rfl,tr⟩,⟨⟨rfl,tr⟩,⟨⟨rfl,tr⟩,⟨⟨rfl,tr⟩,tr⟩⟩⟩⟩⟩ rfl)<|?_
   refine l7 (.bool true) rfl<|dk<|a0d<|?_;obtain rfl:=os hf;exact b7l ⟨nle,⟨tr,tr⟩⟩ rfl (.tup (.cons (.of_eq (o9 B).symm) (.cons .r .nil)))
def e8h:a0q :=
 (.seq (.reg (tq 1 (.box 5 (.t 0)) (tm 2 (.c .nil) (tm 3 (.c (.bool false)) .done))))
 (.seq (.reg (tq 7 (.bslice 1 []) (tm 4 (.t 7) .done)))
 (.seq (.seq (.reg (tq 8 (.faddr 4 (.t 1)) (tq 9 (.load 1 false (.t 8)) (tq 10 (.len (.t 9)) (tm 11 (.c (.int .i64 0)) .done)))))
 (.block 0 (.loop (.seq (.reg (tq 12 (.bin .lss (.t 11) (.t 10)) .done))
 (.seq (.cond (.t 12) .skip
 (.exit 0))
 (.seq (.block 1 (.seq (.reg (tq 13 (.iaddr 5 (.t 9) (.t 11)) (tq 14 (.load 5 true (.t 13)) (tq 6 (.box 5 (.c (.agg [(.int .i64 0),(.int .i64 0),(.str []),.nil,.nil]))) (.q ⟨none,none,.store 5 (.t 6) (.t 14)⟩
 .done)))))
 (.seq (.seq (.reg (tq 15 (.faddr 0 (.t 6)) (tq 16 (.load 1 false (.t 15)) (tq 17 (.bin .neq (.t 16) (.c (.int .i64 3))) .done))))
 (.cond (.t 17) (.seq (.reg (tm 2 (.c .nil) (tm 3 (.c (.bool false)) .done)))
 .ret)
 .skip))
 (.reg (tm 18 (.t 4) (tq 19 (.faddr 2 (.t 6)) (tq 20 (.load 1 false (.t 19)) (tq 21 (.bslice 1 [(.t 20)]) (tq 22 (.append 1 16 (.t 18) (.t 21)) (tm 4 (.t 22) .done))))))))))
 (.reg (tq 23 (.bin .add (.t 11) (.c (.int .i64 1))) (tm 11 (.t 23) .done)))))))))
 (.cut (.seq (.reg (tm 24 (.t 4) (tq 25 (.faddr 0 (.t 1)) (tq 26 (.load 1 false (.t 25)) (tq 27 (.bin .eql (.t 26) (.c (.int .i64 4))) (tm 2 (.t 24) (tm 3 (.t 27) .done)))))))
 .ret)))))
theorem e8i:a1b Tryz.prog Tryz.f316 = some (e8h.erase,[.mov (.t 2),.mov (.t 3)],28):=by kernel_rfl
def a3c :List y8 → (List Str) → Option (Fl ((List Str) × Bool) (List Str))
  | [],D =>
    some (.go D)
  | B :: xs,D =>
    if (B.Kind != 3) then
    some (.ret ([],false))
    else
    if (D ++ [B.T]).length ≤ 2 ^ 30 then
    a3c xs  (D ++ [B.T])
    else none
def a8t (A:y8):Option ((List Str) × Bool) :=
    (a3c A.Items []).bind fun q => (match q with
    | .ret r => some r
    | .go F =>
    some (F,(A.Kind == 4)))
theorem c1u (A:y8) (r:((List Str) × Bool)) (hf:a8t A = some r):a0a Tryz.prog 316 .fresh [(l9 A)] (.tup [(.lst 1 (r.1.map AV.str)),(.bool r.2)]):=by
 refine a0a.of_awp mixed Tryz.func316 e8i nle ?_;rw [a0l];rw [o9 A];unfold a8t at hf;unfold e8h;refine (show awp Tryz.prog true 0 _ (ofL [(0,(.agg [(.I A.Kind),(.I A.N),(.str A.T),(.lst 1 (A.Keys.map AV.str)),(.lst 5 (A.Items.map l9))]))]) [] _ from ?_);refine sr<|y7 (a1i (j:=0) (c:=(.agg [(.I A.Kind),(.I A.N),(.str A.T),(.lst 1 (A.Keys.map AV.str)),(.lst 5 (A.Items.map l9))])) rfl tr rfl rfl)<|l7 .nil rfl<|l7 (.bool false) rfl<|dk<|sr<|?_;refine y7 (a1o (j:=1) (as':=[]) rfl (fun _ => by decide) tr .r rfl rfl rfl) ?_;refine l7 (.own 1 0 0) rfl ?_
 refine dk<|o6<|sr<|o7 (.ptr 0 0 4) rfl tr rfl<|o7 (.lst 5 (A.Items.map l9)) rfl nle rfl<|a1a (a1t (enc:=l9) rfl) fun hl2 => l7 (.I 0) rfl<|dk<|?_
 obtain ⟨p23,hb1,hf⟩:=ob hf
 refine a1u (X:={q:(List Str) // p23 = .go q}) (fun q => ([(1,(.ptr 0 0 0)),(4,(.own 1 0 q.1.length))],[.box 5 (.agg [(.I A.Kind),(.I A.N),(.str A.T),(.lst 1 (A.Keys.map AV.str)),(.lst 5 (A.Items.map l9))]),.row 1 (q.1.map AV.str)])) ?_ ?_
 ·refine a1h (X:={q:(Nat × (List Str)) // a3c (A.Items.drop q.1) q.2 = some p23}) (fun q => ([(1,(.ptr 0 0 0)),(4,(.own 1 0 q.1.2.length)),(9,(.lst 5 (A.Items.map l9))),(10,(.I (A.Items.length:Int))),(11,(.I (q.1.1:Int)))],[.box 5 (.agg [(.I A.Kind),(.I A.N),(.str A.T),(.lst 1 (A.Keys.map AV.str)),(.lst 5 (A.Items.map l9))]),.row 1 (q.1.2.map AV.str)])) (fun q => A.Items.length - q.1.1) ⟨(0,[]),hb1⟩ ⟨[],[0,1],_,_,rfl,rfl,⟨.r,⟨.of_eq (congrArg (AV.own _ 0) (by simp)),⟨.r,⟨.r,⟨.r,tr⟩⟩⟩⟩⟩,.r⟩ ?_
  rintro ⟨⟨E,D⟩,hc1⟩
  have hc1:a3c (A.Items.drop E) D = some p23:=hc1
  refine (show awp Tryz.prog true 0 _ (ofL [(1,(.ptr 0 0 0)),(4,(.own 1 0 D.length)),(9,(.lst 5 (A.Items.map l9))),(10,(.I (A.Items.length:Int))),(11,(.I (E:Int)))]) [.box 5 (.agg [(.I A.Kind),(.I A.N),(.str A.T),(.lst 1 (A.Keys.map AV.str)),(.lst 5 (A.Items.map l9))]),.row 1 (D.map AV.str)] _ from ?_)
  rcases a5j A.Items E with ⟨hie26,hd29⟩ | ⟨hlt24,B,hx25,hd29⟩
  ·rw [hd29,a3c.eq_1] at hc1
   have hq28:=dlf hie26
   refine sr<|o7 (.bool (decide ((E:Int) < (A.Items.length:Int)))) rfl rfl rfl<|dk<|o6<|x8 rfl hq28<|a2o<|a2n<|a1s<|a2m<|?_;obtain rfl:=os hc1;exact a2s ⟨_,rfl⟩ ⟨[],[0,1],_,_,rfl,rfl,⟨.r,⟨.r,tr⟩⟩,.r⟩
  ·rw [hd29,a3c.eq_2] at hc1
   have hq28:=dlt hlt24
   refine sr<|o7 (.bool (decide ((E:Int) < (A.Items.length:Int)))) rfl rfl rfl<|dk<|o6<|x9 rfl hq28<|a0h<|a0j<|o6<|a2y<|sr<|y7 (a1m (enc:=l9) rfl rfl hx25)<|y7 (a2l (v:=(.agg [(.I B.Kind),(.I B.N),(.str B.T),(.lst 1 (B.Keys.map AV.str)),(.lst 5 (B.Items.map l9))])) rfl (o9 _) nle rfl)<|y7 (a1i (j:=2) (c:=(.agg [(.I 0),(.I 0),(.str []),.nil,.nil])) rfl tr rfl rfl)<|a1k (a0i (v:=(.agg [(.I B.Kind),(.I B.N),(.str B.T),(.lst 1 (B.Keys.map AV.str)),(.lst 5 (B.Items.map l9))])) (y':=(.agg [(.I B.Kind),(.I B.N),(.str B.T),(.lst 1 (B.Keys.map AV.str)),(.lst 5 (B.Items.map l9))])) rfl rfl rfl tr ⟨rfl,nle⟩ ⟨⟨rfl,tr⟩,⟨⟨rfl,tr⟩,⟨⟨rfl,tr⟩,⟨⟨rfl,tr⟩,⟨⟨rfl,tr⟩,tr⟩⟩⟩⟩⟩ rfl)<|?_
   refine dk<|o6<|sr<|o7 (.ptr 2 0 0) rfl tr rfl<|o7 (.I B.Kind) rfl nle rfl<|o7 (.bool (B.Kind != 3)) rfl rfl rfl<|dk<|?_
   rcases oi hc1 with ⟨c31,hc1⟩ | ⟨c31,hc1⟩
   ·refine x9 rfl c31<|sr<|l7 .nil rfl<|l7 (.bool false) rfl<|dk<|a0d<|?_;obtain rfl:=os hc1;obtain rfl:=os hf;exact a1x ⟨tr,⟨tr,tr⟩⟩ rfl (by decide) (.tup (.cons (.nil _) (.cons .r .nil)))
   ·refine x8 rfl (bf c31)<|a0h<|a0j<|a0t<|?_
    obtain ⟨g32,hc1⟩:=og hc1
    refine l7 (.own 1 0 D.length) rfl<|o7 (.ptr 2 0 2) rfl tr rfl<|o7 (.str B.T) rfl nle rfl<|?_;refine y7 (a1o (j:=3) (as':=[(.str B.T)]) rfl (fun _ => by decide) ⟨rfl,tr⟩ .r rfl rfl rfl) ?_
    refine y7 (a4k (j:=4) (L:=((D ++ [B.T]).map AV.str)) (len:=(D ++ [B.T]).length) rfl false rfl rfl (fun _ => flo (enc:=AV.str) (fun _ => rfl) [B.T] _) (fun _ _ h => (b8y (show AV.own _ _ _ = AV.lst _ _ from h)).elim) (by decide) (d1o (enc:=AV.str) D [B.T] _ (by rfl)) (by simp <;> omega) g32 rfl rfl) ?_
    refine l7 (.own 4 0 ((D ++ [B.T]).length)) rfl<|a0e<|a1v<|a0j<|a0t<|o7 (.I (w64 ((E:Int) + 1))) rfl rfl rfl<|l7 (.I (w64 ((E:Int) + 1))) rfl<|a0e<|?_;exact a1p ⟨((E + 1),D ++ [B.T]),hc1⟩ (mul hlt24) ⟨[],[0,4],_,_,rfl,rfl,⟨.r,⟨.r,⟨.r,⟨.r,⟨.of_eq (congrArg (AV.int _) (a1r hlt24 hl2)),tr⟩⟩⟩⟩⟩,.r⟩
 ·rintro ⟨F,rfl⟩
  refine sr<|l7 (.own 1 0 F.length) rfl<|o7 (.ptr 0 0 0) rfl tr rfl<|o7 (.I A.Kind) rfl nle rfl<|o7 (.bool (A.Kind == 4)) rfl rfl rfl<|l7 (.own 1 0 F.length) rfl<|l7 (.bool (A.Kind == 4)) rfl<|dk<|a0d<|?_;obtain rfl:=os hf;exact a1x ⟨tr,⟨tr,tr⟩⟩ rfl (by decide) (.tup (.cons (.of_eq (congrArg (AV.lst _) (tk (enc:=AV.str) F))) (.cons .r .nil)))
def c236:a0q :=
 (.seq (.reg (tq 2 (.box 5 (.t 0)) (tq 4 (.box 5 (.c (.agg [(.int .i64 0),(.int .i64 0),(.str []),.nil,.nil]))) (tm 5 (.c (.bool false)) .done))))
 (.seq (.seq (.reg (tq 6 (.faddr 0 (.t 2)) (tq 7 (.load 1 false (.t 6)) (tq 8 (.bin .neq (.t 7) (.c (.int .i64 4))) (tm 9 (.t 8) (tg 10 9 false (.faddr 4 (.t 2)) (tg 11 9 false (.load 1 false (.t 10)) (tg 12 9 false (.len (.t 11)) (tg 13 9 false (.bin .neq (.t 12) (.c (.int .i64 2))) (tq 14 (.pick (.t 9) (.c (.bool true)) (.t 13)) (tm 15 (.t 14) (tg 16 15 false (.faddr 4 (.t 2)) (tg 17 15 false (.load 1 false (.t 16)) (tg 18 15 false (.iaddr 5 (.t 17) (.c (.int .i64 0))) (tg 19 15 false (.faddr 0 (.t 18)) (tg 20 15 false (.load 1 false (.t 19)) (tg 21 15 false (.bin .neq (.t 20) (.c (.int .i64 3))) (tq 22 (.pick (.t 15) (.c (.bool true)) (.t 21)) (tm 23 (.t 22) (tg 24 23 false (.faddr 4 (.t 2)) (tg 25 23 false (.load 1 false (.t 24)) (tg 26 23 false (.iaddr 5 (.t 25) (.c (.int .i64 0))) (tg 27 23 false (.faddr 2 (.t 26)) (tg 28 23 false (.load 1 false (.t 27)) (tg 29 23 false (.mov (.t 1)) (tg 30 23 false (.bin .neq (.t 28) (.t 29)) (tq 31 (.pick (.t 23) (.c (.bool true)) (.t 30)) .done)))))))))))))))))))))))))))
 (.cut (.cond (.t 31) (.seq (.reg (tq 32 (.build [(.int .i64 0),(.int .i64 0),(.str []),.nil,.nil] []) (.q ⟨none,none,.store 5 (.t 4) (.t 32)⟩
 (tm 5 (.c (.bool false)) .done))))
 .ret)
 .skip)))
 (.seq (.reg (tq 33 (.faddr 4 (.t 2)) (tq 34 (.load 1 false (.t 33)) (tq 35 (.iaddr 5 (.t 34) (.c (.int .i64 1))) (tq 36 (.load 5 true (.t 35)) (.q ⟨none,none,.store 5 (.t 4) (.t 36)⟩
 (tm 5 (.c (.bool true)) .done)))))))
 .ret)))
theorem e8j:a1b Tryz.prog Tryz.f236 = some (c236.erase,[.load 5 true (.t 4),.mov (.t 5)],37):=by kernel_rfl
def a6z (A:y8) (D:Str):Option (y8 × Bool) :=
    ((if (bif (A.Kind != 4) then true else ((A.Items.length:Int) != 2)) then
    some true
    else
    (idx A.Items 0).bind fun E =>
    if (E.Kind != 3) then
    some true
    else
    (idx A.Items 0).bind fun F =>
    some (!(F.T == D)):Option Bool)).bind fun G =>
    if G then
    some ((⟨0,0,[],[],[]⟩:y8),false)
    else
    (idx A.Items 1).bind fun B =>
    some (B,true)
theorem b4j (A:y8) (D:Str) (r:(y8 × Bool)) (hf:a6z A D = some r):a0a Tryz.prog 236 .weak [(l9 A),(.str D)] (.tup [(l9 r.1),(.bool r.2)]):=by
 refine a0a.of_awp mixed Tryz.func236 e8j nle ?_;rw [a0l];rw [o9 A];unfold a6z at hf;unfold c236;refine (show awp Tryz.prog false 0 _ (ofL [(0,(.agg [(.I A.Kind),(.I A.N),(.str A.T),(.lst 1 (A.Keys.map AV.str)),(.lst 5 (A.Items.map l9))])),(1,(.str D))]) [] _ from ?_);refine sr<|y7 (a1i (j:=0) (c:=(.agg [(.I A.Kind),(.I A.N),(.str A.T),(.lst 1 (A.Keys.map AV.str)),(.lst 5 (A.Items.map l9))])) rfl tr rfl rfl)<|y7 (a1i (j:=1) (c:=(.agg [(.I 0),(.I 0),(.str []),.nil,.nil])) rfl tr rfl rfl)<|l7 (.bool false) rfl<|dk<|o6<|o6<|?_
 obtain ⟨G,hb1,hf⟩:=ob hf
 refine a2d ([(2,(.ptr 0 0 0)),(4,(.ptr 1 0 0)),(31,(.bool G))],[.box 5 (.agg [(.I A.Kind),(.I A.N),(.str A.T),(.lst 1 (A.Keys.map AV.str)),(.lst 5 (A.Items.map l9))]),.box 5 (.agg [(.I 0),(.I 0),(.str []),.nil,.nil])]) ?_ ?_
 ·refine a0t<|o7 (.ptr 0 0 0) rfl tr rfl<|o7 (.I A.Kind) rfl nle rfl<|o7 (.bool (A.Kind != 4)) rfl rfl rfl<|l7 (.bool (A.Kind != 4)) rfl<|?_;refine s_g (v:=(A.Kind != 4)) (.ptr 0 0 4) rfl (fun hv => by (try simp only [a0c hv]);exact ⟨rfl,tr,rfl⟩) ?_;refine s_g (v:=(A.Kind != 4)) (.lst 5 (A.Items.map l9)) rfl (fun hv => by (try simp only [a0c hv]);exact ⟨rfl,nle,rfl⟩) ?_;refine s_g (v:=(A.Kind != 4)) (.I (A.Items.length:Int)) rfl (fun hv => by (try simp only [a0c hv]);exact ⟨rfl,tr,lenV _ _⟩) ?_;refine s_g (v:=(A.Kind != 4)) (.bool ((A.Items.length:Int) != 2)) rfl (fun hv => by (try simp only [a0c hv]);exact ⟨rfl,rfl,rfl⟩) ?_
  refine a3a (x:=true) (y:=((A.Items.length:Int) != 2)) rfl (fun hv => by (try simp only [a0c hv]);rfl) (fun hv => by (try simp only [a0c hv]);rfl) ?_;refine l7 (.bool (bif (A.Kind != 4) then true else ((A.Items.length:Int) != 2))) rfl ?_
  rcases oi hb1 with ⟨c13,hb1⟩ | ⟨c13,hb1⟩
  ·refine a0x (s:=15) (b:=true) rfl c13<|y5 rfl rfl<|y5 rfl rfl<|y5 rfl rfl<|y5 rfl rfl<|y5 rfl rfl<|y5 rfl rfl<|o7 (.bool true) rfl tr rfl<|l7 (.bool true) rfl<|y5 rfl rfl<|y5 rfl rfl<|y5 rfl rfl<|y5 rfl rfl<|y5 rfl rfl<|y5 rfl rfl<|y5 rfl rfl<|o7 (.bool true) rfl tr rfl<|a0e<|?_;obtain rfl:=os hb1;exact ⟨[],[0,1],_,_,rfl,rfl,⟨.r,⟨.r,⟨.r,tr⟩⟩⟩,.r⟩
  ·refine a0x (s:=15) (b:=false) rfl (bf c13)<|s_on rfl<|o7 (.ptr 0 0 4) rfl tr rfl<|s_on rfl<|o7 (.lst 5 (A.Items.map l9)) rfl nle rfl<|s_on rfl<|?_
   obtain ⟨E,ex15,hb1⟩:=ob hb1
   refine y7 (a3d (enc:=l9) rfl rfl (b0a ex15) (b0b ex15))<|s_on rfl<|o7 (.iptr (l9 E) 0) rfl tr rfl<|s_on rfl<|y7 (a2l (v:=(.I E.Kind)) rfl (o9 _) nle rfl)<|s_on rfl<|o7 (.bool (E.Kind != 3)) rfl rfl rfl<|o7 (.bool (E.Kind != 3)) rfl tr rfl<|l7 (.bool (E.Kind != 3)) rfl<|?_
   rcases oi hb1 with ⟨c16,hb1⟩ | ⟨c16,hb1⟩
   ·refine a0x (s:=23) (b:=true) rfl c16<|y5 rfl rfl<|y5 rfl rfl<|y5 rfl rfl<|y5 rfl rfl<|y5 rfl rfl<|y5 rfl rfl<|y5 rfl rfl<|o7 (.bool true) rfl tr rfl<|a0e<|?_;obtain rfl:=os hb1;exact ⟨[],[0,1],_,_,rfl,rfl,⟨.r,⟨.r,⟨.r,tr⟩⟩⟩,.r⟩
   ·refine a0x (s:=23) (b:=false) rfl (bf c16)<|s_on rfl<|o7 (.ptr 0 0 4) rfl tr rfl<|s_on rfl<|o7 (.lst 5 (A.Items.map l9)) rfl nle rfl<|s_on rfl<|?_
    obtain ⟨F,ex18,hb1⟩:=ob hb1
    refine y7 (a3d (enc:=l9) rfl rfl (b0a ex18) (b0b ex18))<|s_on rfl<|o7 (.iptr (l9 F) 2) rfl tr rfl<|s_on rfl<|y7 (a2l (v:=(.str F.T)) rfl (o9 _) nle rfl)<|s_on rfl<|l7 (.str D) rfl<|s_on rfl<|o7 (.bool (!(F.T == D))) rfl tr rfl<|o7 (.bool (!(F.T == D))) rfl tr rfl<|a0e<|?_;obtain rfl:=os hb1;exact ⟨[],[0,1],_,_,rfl,rfl,⟨.r,⟨.r,⟨.r,tr⟩⟩⟩,.r⟩
 ·rcases oi hf with ⟨c19,hf⟩ | ⟨c19,hf⟩
  ·refine x9 rfl c19<|sr<|o7 (.agg [(.I 0),(.I 0),(.str []),.nil,.nil]) rfl tr rfl<|a1k (a0i (v:=(.agg [(.I 0),(.I 0),(.str []),.nil,.nil])) (y':=(.agg [(.I 0),(.I 0),(.str []),.nil,.nil])) rfl rfl rfl tr ⟨rfl,nle⟩ ⟨⟨rfl,tr⟩,⟨⟨rfl,tr⟩,⟨⟨rfl,tr⟩,⟨⟨rfl,tr⟩,⟨⟨rfl,tr⟩,tr⟩⟩⟩⟩⟩ rfl)<|l7 (.bool false) rfl<|dk<|a0d<|?_;obtain rfl:=os hf;exact b7l ⟨nle,⟨tr,tr⟩⟩ rfl (.tup (.cons (leJ (x:=(⟨0,0,[],[],[]⟩:y8)) (.agg (.cons .r (.cons .r (.cons .r (.cons (.nil _) (.cons (.nil _) .nil))))))) (.cons .r .nil)))
  ·refine x8 rfl (bf c19)<|a0h<|a0j<|sr<|?_
   obtain ⟨B,ex21,hf⟩:=ob hf
   refine o7 (.ptr 0 0 4) rfl tr rfl<|o7 (.lst 5 (A.Items.map l9)) rfl nle rfl<|y7 (a3d (enc:=l9) rfl rfl (b0a ex21) (b0b ex21))<|y7 (a2l (v:=(.agg [(.I B.Kind),(.I B.N),(.str B.T),(.lst 1 (B.Keys.map AV.str)),(.lst 5 (B.Items.map l9))])) rfl (o9 _) nle rfl)<|a1k (a0i (v:=(.agg [(.I B.Kind),(.I B.N),(.str B.T),(.lst 1 (B.Keys.map AV.str)),(.lst 5 (B.Items.map l9))])) (y':=(.agg [(.I B.Kind),(.I B.N),(.str B.T),(.lst 1 (B.Keys.map AV.str)),(.lst 5 (B.Items.map l9))])) rfl rfl rfl tr ⟨rfl,nle⟩ ⟨⟨rfl,tr⟩,⟨⟨rfl,tr⟩,⟨⟨rfl,tr⟩,⟨⟨rfl,tr⟩,⟨⟨rfl,tr⟩,tr⟩⟩⟩⟩⟩ rfl)<|?_
   refine l7 (.bool true) rfl<|dk<|a0d<|?_;obtain rfl:=os hf;exact b7l ⟨nle,⟨tr,tr⟩⟩ rfl (.tup (.cons (.of_eq (o9 B).symm) (.cons .r .nil)))
def e8k:a0q :=
 (.seq (.reg (tq 1 (.box 5 (.t 0)) (tm 2 (.c .nil) (tm 3 (.c (.bool false)) .done))))
 (.seq (.reg (tq 7 (.load 5 true (.t 1)) (tq 8 (.call 236 [(.t 7),(.c (.str [115,101,116]))]) (tm 6 (.t 8) (tq 9 (.extract 0 (.t 6)) (tq 10 (.extract 1 (.t 6)) (tq 4 (.box 5 (.c (.agg [(.int .i64 0),(.int .i64 0),(.str []),.nil,.nil]))) (.q ⟨none,none,.store 5 (.t 4) (.t 9)⟩
 (tm 5 (.t 10) .done)))))))))
 (.seq (.reg (tq 11 (.faddr 4 (.t 4)) (tq 12 (.load 1 false (.t 11)) (tm 13 (.t 5) (tm 14 (.t 13) (tg 15 14 true (.faddr 0 (.t 4)) (tg 16 14 true (.load 1 false (.t 15)) (tg 17 14 true (.bin .eql (.t 16) (.c (.int .i64 4))) (tq 18 (.pick (.t 14) (.t 17) (.c (.bool false))) (tm 2 (.t 12) (tm 3 (.t 18) .done)))))))))))
 .ret)))
theorem e8l:a1b Tryz.prog Tryz.f231 = some (e8k.erase,[.mov (.t 2),.mov (.t 3)],19):=by kernel_rfl
def a9f (B:y8):Option ((List y8) × Bool) :=
    (a6z B [115,101,116]).bind fun A =>
    if A.2 then
    some (A.1.Items,(A.1.Kind == 4))
    else
    some (A.1.Items,false)
theorem b8z (B:y8) (r:((List y8) × Bool)) (hf:a9f B = some r):a0a Tryz.prog 231 .weak [(l9 B)] (.tup [(.lst 5 (r.1.map l9)),(.bool r.2)]):=by
 refine a0a.of_awp mixed Tryz.func231 e8l nle ?_;rw [a0l];rw [o9 B];unfold a9f at hf;unfold e8k;refine (show awp Tryz.prog false 0 _ (ofL [(0,(.agg [(.I B.Kind),(.I B.N),(.str B.T),(.lst 1 (B.Keys.map AV.str)),(.lst 5 (B.Items.map l9))]))]) [] _ from ?_);refine sr<|y7 (a1i (j:=0) (c:=(.agg [(.I B.Kind),(.I B.N),(.str B.T),(.lst 1 (B.Keys.map AV.str)),(.lst 5 (B.Items.map l9))])) rfl tr rfl rfl)<|l7 .nil rfl<|l7 (.bool false) rfl<|dk<|sr<|?_
 obtain ⟨A,er3,hf⟩:=ob hf
 refine o7 (.agg [(.I B.Kind),(.I B.N),(.str B.T),(.lst 1 (B.Keys.map AV.str)),(.lst 5 (B.Items.map l9))]) rfl nle rfl<|y7 (b8p (v:=(.tup [(.agg [(.I A.1.Kind),(.I A.1.N),(.str A.1.T),(.lst 1 (A.1.Keys.map AV.str)),(.lst 5 (A.1.Items.map l9))]),(.bool A.2)])) rfl (b4j _ _ _ er3) rfl (.cons (.of_eq (o9 B).symm) (.cons .r .nil)) (by simp only [o9]) rfl)<|l7 (.tup [(.agg [(.I A.1.Kind),(.I A.1.N),(.str A.1.T),(.lst 1 (A.1.Keys.map AV.str)),(.lst 5 (A.1.Items.map l9))]),(.bool A.2)]) rfl<|o7 (.agg [(.I A.1.Kind),(.I A.1.N),(.str A.1.T),(.lst 1 (A.1.Keys.map AV.str)),(.lst 5 (A.1.Items.map l9))]) rfl nle rfl<|?_
 refine o7 (.bool A.2) rfl nle rfl<|y7 (a1i (j:=1) (c:=(.agg [(.I 0),(.I 0),(.str []),.nil,.nil])) rfl tr rfl rfl)<|a1k (a0i (v:=(.agg [(.I A.1.Kind),(.I A.1.N),(.str A.1.T),(.lst 1 (A.1.Keys.map AV.str)),(.lst 5 (A.1.Items.map l9))])) (y':=(.agg [(.I A.1.Kind),(.I A.1.N),(.str A.1.T),(.lst 1 (A.1.Keys.map AV.str)),(.lst 5 (A.1.Items.map l9))])) rfl rfl rfl tr ⟨rfl,nle⟩ ⟨⟨rfl,tr⟩,⟨⟨rfl,tr⟩,⟨⟨rfl,tr⟩,⟨⟨rfl,tr⟩,⟨⟨rfl,tr⟩,tr⟩⟩⟩⟩⟩ rfl)<|l7 (.bool A.2) rfl<|dk<|sr<|?_
 rcases oi hf with ⟨c4,hf⟩ | ⟨c4,hf⟩
 ·refine o7 (.ptr 1 0 4) rfl tr rfl<|o7 (.lst 5 (A.1.Items.map l9)) rfl nle rfl<|l7 (.bool A.2) rfl<|l7 (.bool A.2) rfl<|a0x (s:=14) (b:=true) rfl c4<|s_on rfl<|o7 (.ptr 1 0 0) rfl tr rfl<|s_on rfl<|o7 (.I A.1.Kind) rfl nle rfl<|s_on rfl<|o7 (.bool (A.1.Kind == 4)) rfl rfl rfl<|o7 (.bool (A.1.Kind == 4)) rfl tr rfl<|l7 (.lst 5 (A.1.Items.map l9)) rfl<|l7 (.bool (A.1.Kind == 4)) rfl<|dk<|a0d<|?_;obtain rfl:=os hf;exact b7l ⟨tr,⟨tr,tr⟩⟩ rfl .r
 ·refine o7 (.ptr 1 0 4) rfl tr rfl<|o7 (.lst 5 (A.1.Items.map l9)) rfl nle rfl<|l7 (.bool A.2) rfl<|l7 (.bool A.2) rfl<|a0x (s:=14) (b:=false) rfl (bf c4)<|y5 rfl rfl<|y5 rfl rfl<|y5 rfl rfl<|o7 (.bool false) rfl tr rfl<|l7 (.lst 5 (A.1.Items.map l9)) rfl<|l7 (.bool false) rfl<|dk<|a0d<|?_;obtain rfl:=os hf;exact b7l ⟨tr,⟨tr,tr⟩⟩ rfl .r
def c89:a0q :=
 (.seq (.reg (tm 2 (.c (.bool false)) .done))
 (.seq (.reg (tm 3 (.t 0) (tq 4 (.call 81 [(.t 3),(.c (.int .i64 1)),(.c (.int .i64 1000000))]) (tm 2 (.t 4) .done))))
 .ret))
theorem f1y:a1b Tryz.prog Tryz.f89 = some (c89.erase,[.mov (.t 2)],5):=by kernel_rfl
def b8s (A:Int):Option Bool :=
    (a6v A 1 1000000).bind fun B =>
    some B
theorem c4g (A:Int) (r:Bool) (hf:b8s A = some r):a0a Tryz.prog 89 .flat [(.I A)] (.bool r):=by
  refine a0a.of_awp mixed Tryz.func89 f1y nle ?_
  rw [a0l]
  unfold b8s at hf
  unfold c89
  refine (show awp Tryz.prog false 0 _ (ofL [(0,(.I A))]) [] _ from ?_)
  refine o6 ?_
  refine a0t ?_
  refine y7 (a4c (.bool false) rfl) ?_
  refine a0e ?_
  refine a0j ?_
  refine o6 ?_
  refine a0t ?_
  obtain ⟨B,er3,hf⟩:=ob hf
  refine y7 (a4c (.I A) rfl) ?_
  refine y7 (a0p (a7r _ _ _ _ er3) rfl .r rfl) ?_
  refine y7 (a4c (.bool B) rfl) ?_
  refine a0e ?_
  refine a0j ?_
  refine a0d ?_
  obtain rfl:=os hf
  exact a0f ⟨tr,tr⟩ rfl .r
def d8x:a0q :=
 (.seq (.reg (tq 1 (.box 3 (.t 0)) (tm 2 (.c (.bool false)) .done)))
 (.seq (.seq (.reg (tq 3 (.faddr 0 (.t 1)) (tq 4 (.load 1 false (.t 3)) .done)))
 (.block 0 (.seq (.reg (tq 6 (.bin .eql (.t 4) (.c (.int .i64 1))) (tm 5 (.t 6) .done)))
 (.cond (.t 5) (.seq (.reg (tq 7 (.faddr 1 (.t 1)) (tq 8 (.load 1 false (.t 7)) (tq 9 (.call 233 [(.t 8)]) (tm 10 (.t 9) (tg 11 10 true (.faddr 2 (.t 1)) (tg 12 10 true (.load 1 false (.t 11)) (tg 13 10 true (.bin .eql (.t 12) (.c (.str []))) (tq 14 (.pick (.t 10) (.t 13) (.c (.bool false))) (tm 2 (.t 14) .done))))))))))
 .ret)
 (.seq (.reg (tq 16 (.bin .eql (.t 4) (.c (.int .i64 2))) (tm 15 (.t 16) .done)))
 (.cond (.t 15) (.seq (.reg (tq 17 (.faddr 1 (.t 1)) (tq 18 (.load 1 false (.t 17)) (tq 19 (.bin .eql (.t 18) (.c (.int .i64 0))) (tm 20 (.t 19) (tg 21 20 true (.faddr 2 (.t 1)) (tg 22 20 true (.load 1 false (.t 21)) (tg 23 20 true (.call 234 [(.t 22)]) (tq 24 (.pick (.t 20) (.t 23) (.c (.bool false))) (tm 2 (.t 24) .done))))))))))
 .ret)
 (.seq (.reg (tq 26 (.bin .eql (.t 4) (.c (.int .i64 3))) (tm 25 (.t 26) .done)))
 (.cond (.t 25) (.seq (.reg (tq 27 (.faddr 1 (.t 1)) (tq 28 (.load 1 false (.t 27)) (tq 29 (.call 81 [(.t 28),(.c (.int .i64 0)),(.c (.int .i64 1))]) (tm 30 (.t 29) (tg 31 30 true (.faddr 2 (.t 1)) (tg 32 30 true (.load 1 false (.t 31)) (tg 33 30 true (.bin .eql (.t 32) (.c (.str []))) (tq 34 (.pick (.t 30) (.t 33) (.c (.bool false))) (tm 2 (.t 34) .done))))))))))
 .ret)
 (.seq (.reg (tq 36 (.bin .eql (.t 4) (.c (.int .i64 4))) (tm 35 (.t 36) .done)))
 (.cond (.t 35) (.seq (.reg (tq 37 (.faddr 1 (.t 1)) (tq 38 (.load 1 false (.t 37)) (tq 39 (.call 89 [(.t 38)]) (tm 40 (.t 39) (tg 41 40 true (.faddr 2 (.t 1)) (tg 42 40 true (.load 1 false (.t 41)) (tg 43 40 true (.bin .eql (.t 42) (.c (.str []))) (tq 44 (.pick (.t 40) (.t 43) (.c (.bool false))) (tm 2 (.t 44) .done))))))))))
 .ret)
 .skip))))))))))
 (.seq (.reg (tm 2 (.c (.bool false)) .done))
 .ret)))
theorem e8m:a1b Tryz.prog Tryz.f135 = some (d8x.erase,[.mov (.t 2)],45):=by kernel_rfl
def a7k (A:a0g):Option Bool :=
    if (A.Kind == 1) then
    (a9a A.N).bind fun E =>
    if E then
    some (A.T == [])
    else
    some false
    else
    if (A.Kind == 2) then
    if (A.N == 0) then
    (a8l A.T).bind fun F =>
    some F
    else
    some false
    else
    if (A.Kind == 3) then
    (a6v A.N 0 1).bind fun B =>
    if B then
    some (A.T == [])
    else
    some false
    else
    if (A.Kind == 4) then
    (b8s A.N).bind fun D =>
    if D then
    some (A.T == [])
    else
    some false
    else
    some false
theorem b5e (A:a0g) (r:Bool) (hf:a7k A = some r):a0a Tryz.prog 135 .flat [(o5 A)] (.bool r):=by
 refine a0a.of_awp mixed Tryz.func135 e8m nle ?_;rw [a0l];unfold a7k at hf;unfold d8x;refine (show awp Tryz.prog false 0 _ (ofL [(0,(o5 A))]) [] _ from ?_);refine sr<|y7 (a1i (j:=0) (c:=(.agg [(.I A.Kind),(.I A.N),(.str A.T)])) rfl tr rfl rfl)<|l7 (.bool false) rfl<|dk<|o6<|sr<|o7 (.ptr 0 0 0) rfl tr rfl<|o7 (.I A.Kind) rfl nle rfl<|dk<|a2y<|sr<|o7 (.bool (A.Kind == 1)) rfl rfl rfl<|l7 (.bool (A.Kind == 1)) rfl<|dk<|?_
 rcases oi hf with ⟨c2,hf⟩ | ⟨c2,hf⟩
 ·refine x9 rfl c2<|sr<|?_
  obtain ⟨E,er4,hf⟩:=ob hf
  rcases oi hf with ⟨c5,hf⟩ | ⟨c5,hf⟩
  ·refine o7 (.ptr 0 0 1) rfl tr rfl<|o7 (.I A.N) rfl nle rfl<|y7 (a0p (b3g _ _ er4) rfl .r rfl)<|l7 (.bool E) rfl<|a0x (s:=10) (b:=true) rfl c5<|s_on rfl<|o7 (.ptr 0 0 2) rfl tr rfl<|s_on rfl<|o7 (.str A.T) rfl nle rfl<|s_on rfl<|o7 (.bool (A.T == [])) rfl tr rfl<|o7 (.bool (A.T == [])) rfl tr rfl<|l7 (.bool (A.T == [])) rfl<|dk<|a0d<|?_;obtain rfl:=os hf;exact a0f ⟨tr,tr⟩ rfl .r
  ·refine o7 (.ptr 0 0 1) rfl tr rfl<|o7 (.I A.N) rfl nle rfl<|y7 (a0p (b3g _ _ er4) rfl .r rfl)<|l7 (.bool E) rfl<|a0x (s:=10) (b:=false) rfl (bf c5)<|y5 rfl rfl<|y5 rfl rfl<|y5 rfl rfl<|o7 (.bool false) rfl tr rfl<|l7 (.bool false) rfl<|dk<|a0d<|?_;obtain rfl:=os hf;exact a0f ⟨tr,tr⟩ rfl .r
 ·refine x8 rfl (bf c2)<|sr<|o7 (.bool (A.Kind == 2)) rfl rfl rfl<|l7 (.bool (A.Kind == 2)) rfl<|dk<|?_
  rcases oi hf with ⟨c6,hf⟩ | ⟨c6,hf⟩
  ·refine x9 rfl c6<|sr<|?_
   rcases oi hf with ⟨c7,hf⟩ | ⟨c7,hf⟩
   ·obtain ⟨F,er9,hf⟩:=ob hf
    refine o7 (.ptr 0 0 1) rfl tr rfl<|o7 (.I A.N) rfl nle rfl<|o7 (.bool (A.N == 0)) rfl rfl rfl<|l7 (.bool (A.N == 0)) rfl<|a0x (s:=20) (b:=true) rfl c7<|s_on rfl<|o7 (.ptr 0 0 2) rfl tr rfl<|s_on rfl<|o7 (.str A.T) rfl nle rfl<|s_on rfl<|y7 (a0p (b4i _ _ er9) rfl .r rfl)<|o7 (.bool F) rfl tr rfl<|l7 (.bool F) rfl<|dk<|a0d<|?_;obtain rfl:=os hf;exact a0f ⟨tr,tr⟩ rfl .r
   ·refine o7 (.ptr 0 0 1) rfl tr rfl<|o7 (.I A.N) rfl nle rfl<|o7 (.bool (A.N == 0)) rfl rfl rfl<|l7 (.bool (A.N == 0)) rfl<|a0x (s:=20) (b:=false) rfl (bf c7)<|y5 rfl rfl<|y5 rfl rfl<|y5 rfl rfl<|o7 (.bool false) rfl tr rfl<|l7 (.bool false) rfl<|dk<|a0d<|?_;obtain rfl:=os hf;exact a0f ⟨tr,tr⟩ rfl .r
  ·refine x8 rfl (bf c6)<|sr<|o7 (.bool (A.Kind == 3)) rfl rfl rfl<|l7 (.bool (A.Kind == 3)) rfl<|dk<|?_
   rcases oi hf with ⟨c10,hf⟩ | ⟨c10,hf⟩
   ·refine x9 rfl c10<|sr<|?_
    obtain ⟨B,er12,hf⟩:=ob hf
    rcases oi hf with ⟨c13,hf⟩ | ⟨c13,hf⟩
    ·refine o7 (.ptr 0 0 1) rfl tr rfl<|o7 (.I A.N) rfl nle rfl<|y7 (a0p (a7r _ _ _ _ er12) rfl .r rfl)<|l7 (.bool B) rfl<|a0x (s:=30) (b:=true) rfl c13<|s_on rfl<|o7 (.ptr 0 0 2) rfl tr rfl<|s_on rfl<|o7 (.str A.T) rfl nle rfl<|s_on rfl<|o7 (.bool (A.T == [])) rfl tr rfl<|o7 (.bool (A.T == [])) rfl tr rfl<|l7 (.bool (A.T == [])) rfl<|dk<|a0d<|?_;obtain rfl:=os hf;exact a0f ⟨tr,tr⟩ rfl .r
    ·refine o7 (.ptr 0 0 1) rfl tr rfl<|o7 (.I A.N) rfl nle rfl<|y7 (a0p (a7r _ _ _ _ er12) rfl .r rfl)<|l7 (.bool B) rfl<|a0x (s:=30) (b:=false) rfl (bf c13)<|y5 rfl rfl<|y5 rfl rfl<|y5 rfl rfl<|o7 (.bool false) rfl tr rfl<|l7 (.bool false) rfl<|dk<|a0d<|?_;obtain rfl:=os hf;exact a0f ⟨tr,tr⟩ rfl .r
   ·refine x8 rfl (bf c10)<|sr<|o7 (.bool (A.Kind == 4)) rfl rfl rfl<|l7 (.bool (A.Kind == 4)) rfl<|dk<|?_
    rcases oi hf with ⟨c14,hf⟩ | ⟨c14,hf⟩
    ·refine x9 rfl c14<|sr<|?_
     obtain ⟨D,er16,hf⟩:=ob hf
     rcases oi hf with ⟨c17,hf⟩ | ⟨c17,hf⟩
     ·refine o7 (.ptr 0 0 1) rfl tr rfl<|o7 (.I A.N) rfl nle rfl<|y7 (a0p (c4g _ _ er16) rfl .r rfl)<|l7 (.bool D) rfl<|a0x (s:=40) (b:=true) rfl c17<|s_on rfl<|o7 (.ptr 0 0 2) rfl tr rfl<|s_on rfl<|o7 (.str A.T) rfl nle rfl<|s_on rfl<|o7 (.bool (A.T == [])) rfl tr rfl<|o7 (.bool (A.T == [])) rfl tr rfl<|l7 (.bool (A.T == [])) rfl<|dk<|a0d<|?_;obtain rfl:=os hf;exact a0f ⟨tr,tr⟩ rfl .r
     ·refine o7 (.ptr 0 0 1) rfl tr rfl<|o7 (.I A.N) rfl nle rfl<|y7 (a0p (c4g _ _ er16) rfl .r rfl)<|l7 (.bool D) rfl<|a0x (s:=40) (b:=false) rfl (bf c17)<|y5 rfl rfl<|y5 rfl rfl<|y5 rfl rfl<|o7 (.bool false) rfl tr rfl<|l7 (.bool false) rfl<|dk<|a0d<|?_;obtain rfl:=os hf;exact a0f ⟨tr,tr⟩ rfl .r
    ·refine x8 rfl (bf c14)<|a0h<|a1v<|a0j<|sr<|l7 (.bool false) rfl<|dk<|a0d<|?_;obtain rfl:=os hf;exact a0f ⟨tr,tr⟩ rfl .r
def e8n:a0q :=
 (.seq (.reg (tq 1 (.box 5 (.t 0)) (tq 2 (.box 3 (.c (.agg [(.int .i64 0),(.int .i64 0),(.str [])]))) (tm 3 (.c (.bool false)) .done))))
 (.seq (.reg (tq 7 (.build [(.int .i64 0),(.int .i64 0),(.str [])] []) (tq 4 (.box 3 (.c (.agg [(.int .i64 0),(.int .i64 0),(.str [])]))) (.q ⟨none,none,.store 3 (.t 4) (.t 7)⟩
 .done))))
 (.seq (.seq (.reg (tq 8 (.faddr 0 (.t 1)) (tq 9 (.load 1 false (.t 8)) .done)))
 (.block 0 (.seq (.reg (tq 11 (.bin .eql (.t 9) (.c (.int .i64 2))) (tm 10 (.t 11) .done)))
 (.cond (.t 10) (.reg (tq 12 (.faddr 1 (.t 1)) (tq 13 (.load 1 false (.t 12)) (tq 14 (.build [(.int .i64 0),(.int .i64 0),(.str [])] [(0,1,(.c (.int .i64 1))),(1,1,(.t 13))]) (.q ⟨none,none,.store 3 (.t 4) (.t 14)⟩
 .done)))))
 (.seq (.reg (tq 16 (.bin .eql (.t 9) (.c (.int .i64 3))) (tm 15 (.t 16) .done)))
 (.cond (.t 15) (.reg (tq 17 (.faddr 2 (.t 1)) (tq 18 (.load 1 false (.t 17)) (tq 19 (.build [(.int .i64 0),(.int .i64 0),(.str [])] [(0,1,(.c (.int .i64 2))),(2,1,(.t 18))]) (.q ⟨none,none,.store 3 (.t 4) (.t 19)⟩
 .done)))))
 (.seq (.reg (tq 21 (.bin .eql (.t 9) (.c (.int .i64 1))) (tm 20 (.t 21) .done)))
 (.cond (.t 20) (.reg (tq 22 (.faddr 1 (.t 1)) (tq 23 (.load 1 false (.t 22)) (tq 24 (.build [(.int .i64 0),(.int .i64 0),(.str [])] [(0,1,(.c (.int .i64 3))),(1,1,(.t 23))]) (.q ⟨none,none,.store 3 (.t 4) (.t 24)⟩
 .done)))))
 (.seq (.reg (tq 26 (.bin .eql (.t 9) (.c (.int .i64 4))) (tm 25 (.t 26) .done)))
 (.cond (.t 25) (.seq (.reg (tq 28 (.load 5 true (.t 1)) (tq 29 (.call 236 [(.t 28),(.c (.str [117,117,105,100]))]) (tm 27 (.t 29) (tq 30 (.extract 0 (.t 27)) (tq 31 (.extract 1 (.t 27)) (tq 5 (.box 5 (.c (.agg [(.int .i64 0),(.int .i64 0),(.str []),.nil,.nil]))) (.q ⟨none,none,.store 5 (.t 5) (.t 30)⟩
 (tm 6 (.t 31) .done)))))))))
 (.seq (.seq (.reg (tm 32 (.t 6) (tq 33 (.not (.t 32)) (tm 34 (.t 33) (tg 35 34 false (.faddr 0 (.t 5)) (tg 36 34 false (.load 1 false (.t 35)) (tg 37 34 false (.bin .neq (.t 36) (.c (.int .i64 2))) (tq 38 (.pick (.t 34) (.c (.bool true)) (.t 37)) .done))))))))
 (.cut (.cond (.t 38) (.seq (.reg (tq 39 (.build [(.int .i64 0),(.int .i64 0),(.str [])] []) (.q ⟨none,none,.store 3 (.t 2) (.t 39)⟩
 (tm 3 (.c (.bool false)) .done))))
 .ret)
 .skip)))
 (.reg (tq 40 (.faddr 1 (.t 5)) (tq 41 (.load 1 false (.t 40)) (tq 42 (.build [(.int .i64 0),(.int .i64 0),(.str [])] [(0,1,(.c (.int .i64 4))),(1,1,(.t 41))]) (.q ⟨none,none,.store 3 (.t 4) (.t 42)⟩
 .done)))))))
 .skip))))))))))
 (.cut (.seq (.reg (tq 43 (.load 3 true (.t 4)) (tq 44 (.load 3 true (.t 4)) (.l ⟨(some 45),none,.call 135 [(.t 44)]⟩ [⟨(some 43),none,.load 3 true (.t 4)⟩]
 (.l ⟨none,none,.store 3 (.t 2) (.t 43)⟩ []
 (tm 3 (.t 45) .done) .non) .non))))
 .ret)))))
theorem e8o:a1b Tryz.prog Tryz.f137 = some (e8n.erase,[.load 3 true (.t 2),.mov (.t 3)],46):=by kernel_rfl
def a6w (B:y8):Option (a0g × Bool) :=
    ((if (B.Kind == 2) then
    some (.go (1,B.N,[]))
    else
    if (B.Kind == 3) then
    some (.go (2,0,B.T))
    else
    if (B.Kind == 1) then
    some (.go (3,B.N,[]))
    else
    if (B.Kind == 4) then
    (a6z B [117,117,105,100]).bind fun A =>
    ((if (!A.2) then
    some true
    else
    some (A.1.Kind != 2):Option Bool)).bind fun G =>
    if G then
    some (.ret ((⟨0,0,[]⟩:a0g),false))
    else
    some (.go (4,A.1.N,[]))
    else
    some (.go (0,0,[])):Option (Fl (a0g × Bool) (Int × Int × Str)))).bind fun q => (match q with
    | .ret r => some r
    | .go (D,E,F) =>
    (a7k (⟨D,E,F⟩:a0g)).bind fun H =>
    some ((⟨D,E,F⟩:a0g),H))
theorem c5f (B:y8) (r:(a0g × Bool)) (hf:a6w B = some r):a0a Tryz.prog 137 .flat [(l9 B)] (.tup [(o5 r.1),(.bool r.2)]):=by
 refine a0a.of_awp mixed Tryz.func137 e8o nle ?_;rw [a0l];rw [o9 B];unfold a6w at hf;unfold e8n;refine (show awp Tryz.prog false 0 _ (ofL [(0,(.agg [(.I B.Kind),(.I B.N),(.str B.T),(.lst 1 (B.Keys.map AV.str)),(.lst 5 (B.Items.map l9))]))]) [] _ from ?_);refine sr<|y7 (a1i (j:=0) (c:=(.agg [(.I B.Kind),(.I B.N),(.str B.T),(.lst 1 (B.Keys.map AV.str)),(.lst 5 (B.Items.map l9))])) rfl tr rfl rfl)<|y7 (a1i (j:=1) (c:=(.agg [(.I 0),(.I 0),(.str [])])) rfl tr rfl rfl)<|l7 (.bool false) rfl<|dk<|sr<|o7 (.agg [(.I 0),(.I 0),(.str [])]) rfl tr rfl<|?_
 refine y7 (a1i (j:=2) (c:=(.agg [(.I 0),(.I 0),(.str [])])) rfl tr rfl rfl)<|a1k (a0i (v:=(.agg [(.I 0),(.I 0),(.str [])])) (y':=(.agg [(.I 0),(.I 0),(.str [])])) rfl rfl rfl tr ⟨rfl,nle⟩ ⟨⟨rfl,tr⟩,⟨⟨rfl,tr⟩,⟨⟨rfl,tr⟩,tr⟩⟩⟩ rfl)<|dk<|o6<|?_
 obtain ⟨p16,hb1,hf⟩:=ob hf
 refine a1u (X:={q:(Int × Int × Str) // p16 = .go q}) (fun q => ([(2,(.ptr 0 0 0)),(4,(.ptr 1 0 0))],[.box 3 (.agg [(.I 0),(.I 0),(.str [])]),.box 3 (.agg [(.I q.1.1),(.I q.1.2.1),(.str q.1.2.2)])])) ?_ ?_
 ·refine sr<|o7 (.ptr 0 0 0) rfl tr rfl<|o7 (.I B.Kind) rfl nle rfl<|dk<|a2y<|sr<|o7 (.bool (B.Kind == 2)) rfl rfl rfl<|l7 (.bool (B.Kind == 2)) rfl<|dk<|?_
  rcases oi hb1 with ⟨c17,hb1⟩ | ⟨c17,hb1⟩
  ·refine x9 rfl c17<|a0t<|o7 (.ptr 0 0 1) rfl tr rfl<|o7 (.I B.N) rfl nle rfl<|o7 (.agg [(.I 1),(.I B.N),(.str [])]) rfl ⟨⟨rfl,nle,tr⟩,⟨⟨rfl,nle,tr⟩,tr⟩⟩ rfl<|a1k (a0i (v:=(.agg [(.I 1),(.I B.N),(.str [])])) (y':=(.agg [(.I 1),(.I B.N),(.str [])])) rfl rfl rfl tr ⟨rfl,nle⟩ ⟨⟨rfl,tr⟩,⟨⟨rfl,tr⟩,⟨⟨rfl,tr⟩,tr⟩⟩⟩ rfl)<|a0e<|a1v<|?_;obtain rfl:=os hb1;exact a2s ⟨_,rfl⟩ ⟨[],[1,2],_,_,rfl,rfl,⟨.r,⟨.r,tr⟩⟩,.r⟩
  ·refine x8 rfl (bf c17)<|sr<|o7 (.bool (B.Kind == 3)) rfl rfl rfl<|l7 (.bool (B.Kind == 3)) rfl<|dk<|?_
   rcases oi hb1 with ⟨c18,hb1⟩ | ⟨c18,hb1⟩
   ·refine x9 rfl c18<|a0t<|o7 (.ptr 0 0 2) rfl tr rfl<|o7 (.str B.T) rfl nle rfl<|o7 (.agg [(.I 2),(.I 0),(.str B.T)]) rfl ⟨⟨rfl,nle,tr⟩,⟨⟨rfl,nle,tr⟩,tr⟩⟩ rfl<|a1k (a0i (v:=(.agg [(.I 2),(.I 0),(.str B.T)])) (y':=(.agg [(.I 2),(.I 0),(.str B.T)])) rfl rfl rfl tr ⟨rfl,nle⟩ ⟨⟨rfl,tr⟩,⟨⟨rfl,tr⟩,⟨⟨rfl,tr⟩,tr⟩⟩⟩ rfl)<|a0e<|a1v<|?_;obtain rfl:=os hb1;exact a2s ⟨_,rfl⟩ ⟨[],[1,2],_,_,rfl,rfl,⟨.r,⟨.r,tr⟩⟩,.r⟩
   ·refine x8 rfl (bf c18)<|sr<|o7 (.bool (B.Kind == 1)) rfl rfl rfl<|l7 (.bool (B.Kind == 1)) rfl<|dk<|?_
    rcases oi hb1 with ⟨c19,hb1⟩ | ⟨c19,hb1⟩
    ·refine x9 rfl c19<|a0t<|o7 (.ptr 0 0 1) rfl tr rfl<|o7 (.I B.N) rfl nle rfl<|o7 (.agg [(.I 3),(.I B.N),(.str [])]) rfl ⟨⟨rfl,nle,tr⟩,⟨⟨rfl,nle,tr⟩,tr⟩⟩ rfl<|a1k (a0i (v:=(.agg [(.I 3),(.I B.N),(.str [])])) (y':=(.agg [(.I 3),(.I B.N),(.str [])])) rfl rfl rfl tr ⟨rfl,nle⟩ ⟨⟨rfl,tr⟩,⟨⟨rfl,tr⟩,⟨⟨rfl,tr⟩,tr⟩⟩⟩ rfl)<|a0e<|a1v<|?_;obtain rfl:=os hb1;exact a2s ⟨_,rfl⟩ ⟨[],[1,2],_,_,rfl,rfl,⟨.r,⟨.r,tr⟩⟩,.r⟩
    ·refine x8 rfl (bf c19)<|sr<|o7 (.bool (B.Kind == 4)) rfl rfl rfl<|l7 (.bool (B.Kind == 4)) rfl<|dk<|?_
     rcases oi hb1 with ⟨c20,hb1⟩ | ⟨c20,hb1⟩
     ·refine x9 rfl c20<|sr<|?_
      obtain ⟨A,er22,hb1⟩:=ob hb1
      refine o7 (.agg [(.I B.Kind),(.I B.N),(.str B.T),(.lst 1 (B.Keys.map AV.str)),(.lst 5 (B.Items.map l9))]) rfl nle rfl<|y7 (b8p (v:=(.tup [(.agg [(.I A.1.Kind),(.I A.1.N),(.str A.1.T),(.lst 1 (A.1.Keys.map AV.str)),(.lst 5 (A.1.Items.map l9))]),(.bool A.2)])) rfl (b4j _ _ _ er22) rfl (.cons (.of_eq (o9 B).symm) (.cons .r .nil)) (by simp only [o9]) rfl)<|l7 (.tup [(.agg [(.I A.1.Kind),(.I A.1.N),(.str A.1.T),(.lst 1 (A.1.Keys.map AV.str)),(.lst 5 (A.1.Items.map l9))]),(.bool A.2)]) rfl<|o7 (.agg [(.I A.1.Kind),(.I A.1.N),(.str A.1.T),(.lst 1 (A.1.Keys.map AV.str)),(.lst 5 (A.1.Items.map l9))]) rfl nle rfl<|?_
      refine o7 (.bool A.2) rfl nle rfl<|y7 (a1i (j:=3) (c:=(.agg [(.I 0),(.I 0),(.str []),.nil,.nil])) rfl tr rfl rfl)<|a1k (a0i (v:=(.agg [(.I A.1.Kind),(.I A.1.N),(.str A.1.T),(.lst 1 (A.1.Keys.map AV.str)),(.lst 5 (A.1.Items.map l9))])) (y':=(.agg [(.I A.1.Kind),(.I A.1.N),(.str A.1.T),(.lst 1 (A.1.Keys.map AV.str)),(.lst 5 (A.1.Items.map l9))])) rfl rfl rfl tr ⟨rfl,nle⟩ ⟨⟨rfl,tr⟩,⟨⟨rfl,tr⟩,⟨⟨rfl,tr⟩,⟨⟨rfl,tr⟩,⟨⟨rfl,tr⟩,tr⟩⟩⟩⟩⟩ rfl)<|l7 (.bool A.2) rfl<|dk<|o6<|o6<|?_
      obtain ⟨G,hb2,hb1⟩:=ob hb1
      refine a2d ([(2,(.ptr 0 0 0)),(4,(.ptr 1 0 0)),(5,(.ptr 2 0 0)),(38,(.bool G))],[.box 3 (.agg [(.I 0),(.I 0),(.str [])]),.box 3 (.agg [(.I 0),(.I 0),(.str [])]),.box 5 (.agg [(.I A.1.Kind),(.I A.1.N),(.str A.1.T),(.lst 1 (A.1.Keys.map AV.str)),(.lst 5 (A.1.Items.map l9))])]) ?_ ?_
      ·refine a0t ?_
       rcases oi hb2 with ⟨c26,hb2⟩ | ⟨c26,hb2⟩
       ·refine l7 (.bool A.2) rfl<|o7 (.bool (!A.2)) rfl tr rfl<|l7 (.bool (!A.2)) rfl<|a0x (s:=34) (b:=true) rfl c26<|y5 rfl rfl<|y5 rfl rfl<|y5 rfl rfl<|o7 (.bool true) rfl tr rfl<|a0e<|?_;obtain rfl:=os hb2;exact ⟨[],[1,2,3],_,_,rfl,rfl,⟨.r,⟨.r,⟨.r,⟨.r,tr⟩⟩⟩⟩,.r⟩
       ·refine l7 (.bool A.2) rfl<|o7 (.bool (!A.2)) rfl tr rfl<|l7 (.bool (!A.2)) rfl<|a0x (s:=34) (b:=false) rfl (bf c26)<|s_on rfl<|o7 (.ptr 3 0 0) rfl tr rfl<|s_on rfl<|o7 (.I A.1.Kind) rfl nle rfl<|s_on rfl<|o7 (.bool (A.1.Kind != 2)) rfl rfl rfl<|o7 (.bool (A.1.Kind != 2)) rfl tr rfl<|a0e<|?_;obtain rfl:=os hb2;exact ⟨[],[1,2,3],_,_,rfl,rfl,⟨.r,⟨.r,⟨.r,⟨.r,tr⟩⟩⟩⟩,.r⟩
      ·rcases oi hb1 with ⟨c27,hb1⟩ | ⟨c27,hb1⟩
       ·refine x9 rfl c27<|sr<|o7 (.agg [(.I 0),(.I 0),(.str [])]) rfl tr rfl<|a1k (a0i (v:=(.agg [(.I 0),(.I 0),(.str [])])) (y':=(.agg [(.I 0),(.I 0),(.str [])])) rfl rfl rfl tr ⟨rfl,nle⟩ ⟨⟨rfl,tr⟩,⟨⟨rfl,tr⟩,⟨⟨rfl,tr⟩,tr⟩⟩⟩ rfl)<|l7 (.bool false) rfl<|dk<|a0d<|?_;obtain rfl:=os hb1;obtain rfl:=os hf;exact a0f ⟨nle,⟨tr,tr⟩⟩ rfl .r
       ·refine x8 rfl (bf c27)<|a0h<|a0j<|a0t<|o7 (.ptr 2 0 1) rfl tr rfl<|o7 (.I A.1.N) rfl nle rfl<|o7 (.agg [(.I 4),(.I A.1.N),(.str [])]) rfl ⟨⟨rfl,nle,tr⟩,⟨⟨rfl,nle,tr⟩,tr⟩⟩ rfl<|a1k (a0i (v:=(.agg [(.I 4),(.I A.1.N),(.str [])])) (y':=(.agg [(.I 4),(.I A.1.N),(.str [])])) rfl rfl rfl tr ⟨rfl,nle⟩ ⟨⟨rfl,tr⟩,⟨⟨rfl,tr⟩,⟨⟨rfl,tr⟩,tr⟩⟩⟩ rfl)<|a0e<|a1v<|?_;obtain rfl:=os hb1;exact a2s ⟨_,rfl⟩ ⟨[],[0,1],_,_,rfl,rfl,⟨.r,⟨.r,tr⟩⟩,.r⟩
     ·refine x8 rfl (bf c20)<|a0h<|a1v<|?_;obtain rfl:=os hb1;exact a2s ⟨_,rfl⟩ ⟨[],[1,2],_,_,rfl,rfl,⟨.r,⟨.r,tr⟩⟩,.r⟩
 ·rintro ⟨⟨D,E,F⟩,rfl⟩
  refine sr<|?_
  obtain ⟨H,er29,hf⟩:=ob hf
  refine o7 (.agg [(.I D),(.I E),(.str F)]) rfl nle rfl<|o7 (.agg [(.I D),(.I E),(.str F)]) rfl nle rfl<|a2e (a0p (b5e _ _ er29) rfl .r rfl) a2j tr<|a1j (a0i (v:=(.agg [(.I D),(.I E),(.str F)])) (y':=(.agg [(.I D),(.I E),(.str F)])) rfl rfl rfl tr ⟨rfl,nle⟩ ⟨⟨rfl,tr⟩,⟨⟨rfl,tr⟩,⟨⟨rfl,tr⟩,tr⟩⟩⟩ rfl) tr tr<|l7 (.bool H) rfl<|dk<|a0d<|?_;obtain rfl:=os hf;exact a0f ⟨nle,⟨tr,tr⟩⟩ rfl .r
def e8p:a0q :=
 (.seq (.reg (tm 2 (.c .nil) .done))
 (.seq (.seq (.reg (tm 3 (.t 0) (tq 4 (.isnil false (.t 3)) .done)))
 (.cond (.t 4) (.seq (.reg (tm 2 (.c .nil) .done))
 .ret)
 .skip))
 (.seq (.reg (tq 5 (.bslice 3 []) (tm 6 (.t 0) (tq 7 (.append 3 32 (.t 5) (.t 6)) (tm 2 (.t 7) .done)))))
 .ret)))
theorem e8q:a1b Tryz.prog Tryz.f244 = some (e8p.erase,[.mov (.t 2)],8):=by kernel_rfl
def a3v (A:(List a0g)):Option (List a0g) :=
    if ([] ++ A).length ≤ 2 ^ 30 then
    some ([] ++ A)
    else none
theorem b0s (A:(List a0g)) (r:(List a0g)) (hf:a3v A = some r):a0a Tryz.prog 244 .fresh [(.lst 3 (A.map o5))] (.lst 3 (r.map o5)):=by
 refine a0a.of_awp mixed Tryz.func244 e8q nle ?_;rw [a0l];unfold a3v at hf;unfold e8p;refine (show awp Tryz.prog true 0 _ (ofL [(0,(.lst 3 (A.map o5)))]) [] _ from ?_);refine sr<|l7 .nil rfl<|dk<|o6<|sr<|l7 (.lst 3 (A.map o5)) rfl<|e5s (l:=A.map o5) rfl<|?_
 intro b hb3
 rcases b with _ | _
 ·refine dk<|x8 rfl rfl<|a0h<|a0j<|sr<|?_
  obtain ⟨g2,hf⟩:=og hf
  refine y7 (a1o (j:=0) (as':=[]) rfl (fun _ => by decide) tr .r rfl rfl rfl) ?_;refine l7 (.lst 3 (A.map o5)) rfl ?_
  refine y7 (a4k (j:=1) (L:=(([] ++ A).map o5)) (len:=([] ++ A).length) rfl false rfl rfl (fun _ => flm (fun _ => rfl) _) (fun _ _ _ => flm (fun _ => rfl) _) (by decide) ((by simp)) (by simp <;> omega) g2 rfl rfl) ?_
  refine l7 (.own 1 0 (([] ++ A).length)) rfl<|dk<|a0d<|?_;obtain rfl:=os hf;exact a1x ⟨tr,tr⟩ rfl (by decide) (.of_eq (congrArg (AV.lst _) (tk (enc:=o5) ([] ++ A))))
 ·have he4:A = []:=e4u (hb3 rfl)
  have hE:(if ([] ++ A).length ≤ 2 ^ 30 then some ([] ++ A) else none) = (some []):=by simp [he4]
  rw [hE] at hf;refine dk<|x9 rfl rfl<|sr<|l7 .nil rfl<|dk<|a0d<|?_;obtain rfl:=os hf;exact a1x ⟨tr,tr⟩ rfl (by decide) (.nil _)
def a2b (a0:List a0g):Option (List a0g) :=
    if a0.length ≤ 2 ^ 30 then
    some (a0.mergeSort fun x y => !(Go.Proofs.ltOf cfA) (y.Kind,y.N,y.T) (x.Kind,x.N,x.T))
    else none
theorem a9c (a0:List a0g) (r:List a0g) (hf:a2b a0 = some r):a0z Tryz.prog true 352 [.own 0 0 a0.length,.fn 227 []] [.row 3 (a0.map o5)] (.tup []) [.row 3 (r.map o5)]:=by
  unfold a2b at hf
  split at hf
  · rename_i h
    obtain rfl:=os hf
    have:=e0w f1p f1q true (a0.map fun x => (x.Kind,x.N,x.T)) (by rw [List.length_map];exact h)
    rw [List.length_map,← List.map_mergeSort (r:=fun x y => !(Go.Proofs.ltOf cfA) (y.Kind,y.N,y.T) (x.Kind,x.N,x.T)) (fun _ _ _ _ => rfl),List.map_map,List.map_map] at this
    exact this
  · cases hf
def d7k:a0q :=
 (.seq (.reg (tm 2 (.c .nil) .done))
 (.seq (.seq (.reg (tm 6 (.t 0) (tq 7 (.len (.t 6)) (tq 8 (.bin .lss (.t 7) (.c (.int .i64 2))) .done))))
 (.cond (.t 8) (.seq (.reg (tm 9 (.t 0) (tm 2 (.t 9) .done)))
 .ret)
 .skip))
 (.seq (.seq (.reg (tm 3 (.c (.int .i64 1)) .done))
 (.block 0 (.loop (.seq (.seq (.reg (tm 10 (.t 3) (tm 11 (.t 0) (tq 12 (.len (.t 11)) (tq 13 (.bin .lss (.t 10) (.t 12)) .done)))))
 (.cond (.t 13) .skip
 (.exit 0)))
 (.seq (.block 1 (.seq (.reg (tm 16 (.t 0) (tm 17 (.t 3) (tq 18 (.iaddr 3 (.t 16) (.t 17)) (tq 19 (.load 3 true (.t 18)) (tm 20 (.t 0) (tm 21 (.t 3) (tq 22 (.bin .sub (.t 21) (.c (.int .i64 1))) (tq 23 (.iaddr 3 (.t 20) (.t 22)) (tq 24 (.load 3 true (.t 23)) (tq 25 (.eqs false [0,0,2] (.t 19) (.t 24)) .done)))))))))))
 (.cond (.t 25) (.seq (.reg (tm 26 (.t 0) (tm 27 (.t 3) (tq 28 (.slice 3 (.t 26) (some (.t 27)) none) (tm 4 (.t 28) .done)))))
 (.seq (.seq (.reg (tm 5 (.c (.int .i64 1)) .done))
 (.block 2 (.loop (.seq (.seq (.reg (tm 29 (.t 5) (tm 30 (.t 4) (tq 31 (.len (.t 30)) (tq 32 (.bin .lss (.t 29) (.t 31)) .done)))))
 (.cond (.t 32) .skip
 (.exit 2)))
 (.seq (.block 3 (.seq (.reg (tm 35 (.t 4) (tm 36 (.t 5) (tq 37 (.iaddr 3 (.t 35) (.t 36)) (tq 38 (.load 3 true (.t 37)) (tm 39 (.t 4) (tm 40 (.t 5) (tq 41 (.bin .sub (.t 40) (.c (.int .i64 1))) (tq 42 (.iaddr 3 (.t 39) (.t 41)) (tq 43 (.load 3 true (.t 42)) (tq 44 (.eqs true [0,0,2] (.t 38) (.t 43)) .done)))))))))))
 (.cond (.t 44) (.seq (.reg (tm 45 (.t 0) (tm 46 (.t 3) (tm 47 (.t 4) (tm 48 (.t 5) (tq 49 (.iaddr 3 (.t 47) (.t 48)) (tq 50 (.load 3 true (.t 49)) (tq 51 (.iaddr 3 (.t 45) (.t 46)) (.q ⟨none,none,.store 3 (.t 51) (.t 50)⟩
 .done)))))))))
 (.reg (tm 52 (.t 3) (tq 53 (.bin .add (.t 52) (.c (.int .i64 1))) (tm 3 (.t 53) .done)))))
 .skip)))
 (.reg (tm 33 (.t 5) (tq 34 (.bin .add (.t 33) (.c (.int .i64 1))) (tm 5 (.t 34) .done)))))))))
 (.cut (.seq (.reg (tm 54 (.t 0) (tm 55 (.t 3) (tq 56 (.slice 3 (.t 54) (some (.t 55)) none) (.q ⟨none,none,.clr 3 (.agg [(.int .i64 0),(.int .i64 0),(.str [])]) (.t 56)⟩
 .done)))))
 (.seq (.reg (tm 57 (.t 0) (tm 58 (.t 3) (tq 59 (.slice 3 (.t 57) none (some (.t 58))) (tm 2 (.t 59) .done)))))
 .ret)))))
 .skip)))
 (.reg (tm 14 (.t 3) (tq 15 (.bin .add (.t 14) (.c (.int .i64 1))) (tm 3 (.t 15) .done)))))))))
 (.cut (.seq (.reg (tm 60 (.t 0) (tm 2 (.t 60) .done)))
 .ret)))))
theorem e1d:a1b Tryz.prog Tryz.f353 = some (d7k.erase,[.mov (.t 2)],61):=by kernel_rfl
def a0r (B:(List a0g)) (A:Nat):Nat → Int → Int → (List a0g) → Option (Int × (List a0g))
  | 0,_,_,_ => none
  | k + 1,E,D,G =>
    if (decide (D < (((B.length - A):Nat):Int))) then
    if (0:Int) ≤ D ∧ D < (((B.length - A):Nat):Int) then
    (G[(A + D.toNat)]?).bind fun H =>
    if (0:Int) ≤ w64 (D - 1) ∧ w64 (D - 1) < (((B.length - A):Nat):Int) then
    (G[(A + (w64 (D - 1)).toNat)]?).bind fun K =>
    if (!(H.Kind == K.Kind && (H.N == K.N && (H.T == K.T && true)))) then
    if (0:Int) ≤ D ∧ D < (((B.length - A):Nat):Int) then
    if (0:Int) ≤ E ∧ E < (G.length:Int) then
    (G[(0 + E.toNat)]?).bind fun O =>
    a0r B A k (w64 (E + 1)) (w64 (D + 1)) (G.set (0 + E.toNat) H)
    else none
    else none
    else
    a0r B A k E (w64 (D + 1)) G
    else none
    else none
    else
    some (E,G)
def a0w (B:(List a0g)):List a0g → Nat → Option (Fl (List a0g) Unit)
  | [],A =>
    some (.go ())
  | L :: xs,A =>
    if A < B.length then
    if (0:Int) ≤ w64 ((A:Int) - 1) ∧ w64 ((A:Int) - 1) < (B.length:Int) then
    (B[(0 + (w64 ((A:Int) - 1)).toNat)]?).bind fun M =>
    if (L.Kind == M.Kind && (L.N == M.N && (L.T == M.T && true))) then
    if (0:Int) ≤ (A:Int) ∧ (A:Int) ≤ (B.length:Int) then
    (a0r B A FUEL (A:Int) 1 B).bind fun p457 =>
    (match p457 with
    | (F,J) =>
    if (0:Int) ≤ F ∧ F ≤ (J.length:Int) then
    if (0:Int) ≤ F ∧ F ≤ (J.length:Int) then
    some (.ret ((J.take F.toNat ++ List.replicate (J.length - F.toNat) (⟨0,0,[]⟩:a0g) ++ J.drop (F.toNat + (J.length - F.toNat))).take F.toNat))
    else none
    else none)
    else none
    else
    a0w B xs (A + 1)
    else none
    else none
def a2f (B:(List a0g)):Option (List a0g) :=
    if (decide ((B.length:Int) < 2)) then
    some B
    else
    (a0w B (B.drop 1) 1).bind fun q => (match q with
    | .ret r => some r
    | .go _ =>
    some B)
theorem a9j (B:(List a0g)) (r:(List a0g)) (hf:a2f B = some r):a0z Tryz.prog true 353 [(.own 0 0 B.length)] [.row 3 (B.map o5)] (.own 1 0 r.length) [.dead,.row 3 (r.map o5)]:=by
 refine a0z.of_awp mixed Tryz.func353 e1d nle ?_;rw [a0l];unfold a2f at hf;unfold d7k;refine (show awp Tryz.prog true 1 _ (ofL [(0,(.own 0 0 B.length))]) [.row 3 (B.map o5)] _ from ?_);refine sr<|l7 .nil rfl<|dk<|o6<|sr<|l7 (.own 0 0 B.length) rfl<|a1a (a8p rfl rfl) fun hl2 => o7 (.bool (decide ((B.length:Int) < 2))) rfl rfl rfl<|dk<|?_
 rcases oi hf with ⟨c3,hf⟩ | ⟨c3,hf⟩
 ·refine x9 rfl c3<|sr<|l7 (.own 0 0 B.length) rfl<|l7 (.own 0 0 B.length) rfl<|dk<|a0d<|?_;obtain rfl:=os hf;exact a4p [.mv 0] [0,1] rfl ⟨tr,tr⟩ rfl .r .r
 ·refine x8 rfl (bf c3)<|a0h<|a0j<|o6<|sr<|l7 (.I 1) rfl<|dk<|?_
  obtain ⟨p352,hb1,hf⟩:=ob hf
  refine a1u (X:={q:Unit // p352 = .go q}) (fun q => ([(0,(.own 0 0 B.length))],[.row 3 (B.map o5)])) ?_ ?_
  ·refine a1h (X:={q:Nat // a0w B (B.drop q) q = some p352}) (fun q => ([(0,(.own 0 0 B.length)),(3,(.I (q.1:Int)))],[.row 3 (B.map o5)])) (fun q => B.length - q.1) ⟨1,hb1⟩ ⟨[],[0],_,_,rfl,rfl,⟨.r,⟨.r,tr⟩⟩,.r⟩ ?_
   rintro ⟨A,hc1⟩
   have hc1:a0w B (B.drop A) A = some p352:=hc1
   refine (show awp Tryz.prog true 1 _ (ofL [(0,(.own 0 0 B.length)),(3,(.I (A:Int)))]) [.row 3 (B.map o5)] _ from ?_)
   rcases a5j B A with ⟨hie355,hd358⟩ | ⟨hlt353,L,hx354,hd358⟩
   ·rw [hd358,a0w.eq_1] at hc1
    have hq357:=dlf hie355
    refine o6<|sr<|l7 (.I (A:Int)) rfl<|l7 (.own 0 0 B.length) rfl<|a1a (a8p rfl rfl) fun hl360 => o7 (.bool (decide ((A:Int) < (B.length:Int)))) rfl rfl rfl<|dk<|x8 rfl hq357<|a2o<|a2n<|a1s<|a2m<|?_;obtain rfl:=os hc1;exact a2s ⟨_,rfl⟩ ⟨[],[0],_,_,rfl,rfl,⟨.r,tr⟩,.r⟩
   ·rw [hd358,a0w.eq_2] at hc1
    have hq357:=dlt hlt353
    refine o6<|sr<|l7 (.I (A:Int)) rfl<|l7 (.own 0 0 B.length) rfl<|a1a (a8p rfl rfl) fun hl361 => o7 (.bool (decide ((A:Int) < (B.length:Int)))) rfl rfl rfl<|dk<|x9 rfl hq357<|a0h<|a0j<|o6<|a2y<|sr<|?_
    obtain ⟨g362,hc1⟩:=og hc1
    obtain ⟨g363,hc1⟩:=og hc1
    obtain ⟨M,ex365,hc1⟩:=ob hc1
    refine l7 (.own 0 0 B.length) rfl<|l7 (.I (A:Int)) rfl<|y7 (b7m rfl rfl g362 rfl rfl)<|y7 (b2c (enc:=o5) (v:=(o5 L)) rfl rfl hx354 nle rfl)<|l7 (.own 0 0 B.length) rfl<|l7 (.I (A:Int)) rfl<|o7 (.I (w64 ((A:Int) - 1))) rfl rfl rfl<|y7 (a2x rfl rfl g363.1 g363.2 rfl rfl)<|y7 (b2c (enc:=o5) (v:=(o5 M)) rfl rfl ex365 nle rfl)<|o7 (.bool (L.Kind == M.Kind && (L.N == M.N && (L.T == M.T && true)))) rfl ⟨⟨rfl,rfl⟩,⟨⟨rfl,rfl⟩,⟨rfl,tr⟩⟩⟩ rfl<|dk<|?_
    rcases oi hc1 with ⟨c366,hc1⟩ | ⟨c366,hc1⟩
    ·refine x9 rfl c366<|sr<|?_
     obtain ⟨g367,hc1⟩:=og hc1
     refine l7 (.own 0 0 B.length) rfl<|l7 (.I (A:Int)) rfl<|y7 (d1l rfl rfl rfl g367.1 g367.2)<|l7 (.own 0 A (B.length - A)) rfl<|dk<|o6<|sr<|l7 (.I 1) rfl<|dk<|?_
     obtain ⟨p457,hb2,hc1⟩:=ob hc1
     refine a2d ([(0,(.own 0 0 p457.2.length)),(3,(.I p457.1))],[.row 3 (p457.2.map o5)]) ?_ ?_
     ·refine a1h (X:={q:(Nat × Int × Int × (List a0g)) // a0r B A q.1 q.2.1 q.2.2.1 q.2.2.2 = some p457}) (fun q => ([(0,(.own 0 0 q.1.2.2.2.length)),(3,(.I q.1.2.1)),(4,(.own 0 A (B.length - A))),(5,(.I q.1.2.2.1))],[.row 3 (q.1.2.2.2.map o5)])) (fun q => q.1.1) ⟨(FUEL,(A:Int),1,B),hb2⟩ ⟨[],[0],_,_,rfl,rfl,⟨.r,⟨.r,⟨.r,⟨.r,tr⟩⟩⟩⟩,.r⟩ ?_
      rintro ⟨⟨k,E,D,G⟩,hc2⟩
      have hc2:a0r B A k E D G = some p457:=hc2
      refine (show awp Tryz.prog true 1 _ (ofL [(0,(.own 0 0 G.length)),(3,(.I E)),(4,(.own 0 A (B.length - A))),(5,(.I D))]) [.row 3 (G.map o5)] _ from ?_)
      rcases k with _ | k
      ·rw [a0r.eq_1] at hc2
       cases hc2
      ·rw [a0r.eq_2] at hc2;refine o6<|sr<|l7 (.I D) rfl<|l7 (.own 0 A (B.length - A)) rfl<|a1a (a8p rfl rfl) fun hl458 => o7 (.bool (decide (D < (((B.length - A):Nat):Int)))) rfl rfl rfl<|dk<|?_
       rcases oi hc2 with ⟨c459,hc2⟩ | ⟨c459,hc2⟩
       ·refine x9 rfl c459<|a0h<|a0j<|o6<|a2y<|sr<|?_
        obtain ⟨g460,hc2⟩:=og hc2
        obtain ⟨H,ex462,hc2⟩:=ob hc2
        obtain ⟨g463,hc2⟩:=og hc2
        obtain ⟨K,ex465,hc2⟩:=ob hc2
        refine l7 (.own 0 A (B.length - A)) rfl<|l7 (.I D) rfl<|y7 (a2x rfl rfl g460.1 g460.2 rfl rfl)<|y7 (b2c (enc:=o5) (v:=(o5 H)) rfl rfl ex462 nle rfl)<|l7 (.own 0 A (B.length - A)) rfl<|l7 (.I D) rfl<|o7 (.I (w64 (D - 1))) rfl rfl rfl<|y7 (a2x rfl rfl g463.1 g463.2 rfl rfl)<|y7 (b2c (enc:=o5) (v:=(o5 K)) rfl rfl ex465 nle rfl)<|o7 (.bool (!(H.Kind == K.Kind && (H.N == K.N && (H.T == K.T && true))))) rfl ⟨⟨rfl,rfl⟩,⟨⟨rfl,rfl⟩,⟨rfl,tr⟩⟩⟩ rfl<|dk<|?_
        rcases oi hc2 with ⟨c466,hc2⟩ | ⟨c466,hc2⟩
        ·refine x9 rfl c466<|sr<|?_
         obtain ⟨g467,hc2⟩:=og hc2
         obtain ⟨g468,hc2⟩:=og hc2
         obtain ⟨O,ex470,hc2⟩:=ob hc2
         refine l7 (.own 0 0 G.length) rfl<|l7 (.I E) rfl<|l7 (.own 0 A (B.length - A)) rfl<|l7 (.I D) rfl<|y7 (a2x rfl rfl g467.1 g467.2 rfl rfl)<|y7 (b2c (enc:=o5) (v:=(o5 H)) rfl rfl ex462 nle rfl)<|y7 (a2x rfl rfl g468.1 g468.2 rfl rfl)<|?_;refine a1k (a7n (v':=(o5 H)) (e':=H) rfl rfl ex470 rfl rfl rfl (by decide) (fun _ => by decide) ⟨rfl,nle⟩ .r rfl) ?_;refine dk<|a0t<|l7 (.I E) rfl<|o7 (.I (w64 (E + 1))) rfl rfl rfl<|l7 (.I (w64 (E + 1))) rfl<|a0e<|a1v<|a0j<|a0t<|l7 (.I D) rfl<|o7 (.I (w64 (D + 1))) rfl rfl rfl<|?_
         refine l7 (.I (w64 (D + 1))) rfl<|a0e<|?_;exact a1p ⟨(k,w64 (E + 1),w64 (D + 1),G.set (0 + E.toNat) H),hc2⟩ (Nat.lt_succ_self _) ⟨[],[0],_,_,rfl,rfl,⟨.of_eq (congrArg (AV.own _ 0) (by simp)),⟨.r,⟨.r,⟨.r,tr⟩⟩⟩⟩,.r⟩
        ·refine x8 rfl (bf c466)<|a0h<|a1v<|a0j<|a0t<|l7 (.I D) rfl<|o7 (.I (w64 (D + 1))) rfl rfl rfl<|l7 (.I (w64 (D + 1))) rfl<|a0e<|?_;exact a1p ⟨(k,E,w64 (D + 1),G),hc2⟩ (Nat.lt_succ_self _) ⟨[],[0],_,_,rfl,rfl,⟨.r,⟨.r,⟨.r,⟨.r,tr⟩⟩⟩⟩,.r⟩
       ·refine x8 rfl (bf c459)<|a2o<|a2n<|a1s<|a2m<|?_;obtain rfl:=os hc2;exact ⟨[],[0],_,_,rfl,rfl,⟨.r,⟨.r,tr⟩⟩,.r⟩
     ·obtain ⟨F,J⟩:=p457
      refine sr<|?_
      obtain ⟨g471,hc1⟩:=og hc1
      refine l7 (.own 0 0 J.length) rfl<|l7 (.I F) rfl<|y7 (d1l rfl rfl rfl g471.1 g471.2)<|a1k (e5t (enc:=o5) (y:=(⟨0,0,[]⟩:a0g)) rfl rfl .r rfl)<|dk<|sr<|?_
      obtain ⟨g472,hc1⟩:=og hc1
      refine l7 (.own 0 0 J.length) rfl<|l7 (.I F) rfl<|y7 (d5w rfl rfl rfl g472.1 g472.2)<|l7 (.own 0 0 F.toNat) rfl<|dk<|a0d<|?_;obtain rfl:=os hc1;obtain rfl:=os hf;exact a4p [.trim 2] [0,1] rfl ⟨tr,tr⟩ rfl ((.cons .r (.cons ((LeO.tk (enc:=o5) (J.take F.toNat ++ List.replicate (J.length - F.toNat) (⟨0,0,[]⟩:a0g) ++ J.drop (F.toNat + (J.length - F.toNat))) _)) .nil))) (.of_eq (congrArg (AV.own _ 0) (by simp)))
    ·refine x8 rfl (bf c366)<|a0h<|a1v<|a0j<|a0t<|l7 (.I (A:Int)) rfl<|o7 (.I (w64 ((A:Int) + 1))) rfl rfl rfl<|l7 (.I (w64 ((A:Int) + 1))) rfl<|a0e<|?_;exact a1p ⟨(A + 1),hc1⟩ (mul hlt353) ⟨[],[0],_,_,rfl,rfl,⟨.r,⟨.of_eq (congrArg (AV.int _) (a1r hlt353 hl361)),tr⟩⟩,.r⟩
  ·rintro ⟨_,rfl⟩
   refine sr<|l7 (.own 0 0 B.length) rfl<|l7 (.own 0 0 B.length) rfl<|dk<|a0d<|?_;obtain rfl:=os hf;exact a4p [.mv 0] [0,1] rfl ⟨tr,tr⟩ rfl .r .r
def e8r:a0q :=
 (.seq (.reg (tm 2 (.c .nil) .done))
 (.seq (.reg (tm 4 (.t 0) (tq 5 (.call 244 [(.t 4)]) (tm 3 (.t 5) .done))))
 (.seq (.reg (tm 6 (.t 3) (tq 7 (.call 352 [(.t 6),(.c (.fn 227 []))]) .done)))
 (.seq (.reg (tm 8 (.t 3) (tq 9 (.call 353 [(.t 8)]) (tm 2 (.t 9) .done))))
 .ret))))
theorem e8s:a1b Tryz.prog Tryz.f307 = some (e8r.erase,[.mov (.t 2)],10):=by kernel_rfl
def b4k (A:(List a0g)):Option (List a0g) :=
    (a3v A).bind fun B =>
    (a2b B).bind fun E =>
    (a2f E).bind fun D =>
    some D
theorem d1r (A:(List a0g)) (r:(List a0g)) (hf:b4k A = some r):a0a Tryz.prog 307 .fresh [(.lst 3 (A.map o5))] (.lst 3 (r.map o5)):=by
 refine a0a.of_awp mixed Tryz.func307 e8s nle ?_;rw [a0l];unfold b4k at hf;unfold e8r;refine (show awp Tryz.prog true 0 _ (ofL [(0,(.lst 3 (A.map o5)))]) [] _ from ?_);refine sr<|l7 .nil rfl<|dk<|sr<|?_
 obtain ⟨B,er3,hf⟩:=ob hf
 refine l7 (.lst 3 (A.map o5)) rfl<|y7 (a5i (v:=(.own 0 0 B.length)) (h':=[.row 3 (B.map o5)]) (b0s _ _ er3) rfl .r (by simp only [a2r,a2z,List.length_map,List.nil_append,List.append_nil,List.cons_append];rfl))<|l7 (.own 0 0 B.length) rfl<|dk<|sr<|?_
 obtain ⟨E,er5,hf⟩:=ob hf
 refine l7 (.own 0 0 B.length) rfl ?_;refine a1a (b4f (v:=(.tup [])) (h2:=[.row 3 (E.map o5)]) [] [0] (fun _ => rfl) (a9c _ _ er5) rfl .r .r rfl rfl) fun hl6 => ?_;refine dk<|sr<|?_
 obtain ⟨D,er8,hf⟩:=ob hf
 refine l7 (.own 0 0 B.length) rfl ?_;refine y7 (b3q (v:=(.own 1 0 D.length)) (h2:=[.dead,.row 3 (D.map o5)]) [] [0] (fun _ => rfl) (a9j _ _ er8) rfl (.cons (.of_eq (congrArg (AV.own _ 0) (by have h:=(hl6 0 _ _ _ _ rfl rfl);simpa using h.symm))) .nil) .r rfl rfl) ?_;refine l7 (.own 1 0 D.length) rfl<|dk<|a0d<|?_;obtain rfl:=os hf;exact a1x ⟨tr,tr⟩ rfl (by decide) (.of_eq (congrArg (AV.lst _) (tk (enc:=o5) D)))
def c232:a0q :=
 (.seq (.reg (tm 2 (.c .nil) (tm 3 (.c (.int .i64 0)) .done)))
 (.seq (.seq (.reg (tm 7 (.t 0) (tq 8 (.len (.t 7)) (tm 9 (.c (.int .i64 0)) .done))))
 (.block 0 (.loop (.seq (.reg (tq 10 (.bin .lss (.t 9) (.t 8)) .done))
 (.seq (.cond (.t 10) .skip
 (.exit 0))
 (.seq (.block 1 (.seq (.reg (tq 11 (.iaddr 3 (.t 7) (.t 9)) (tq 12 (.load 3 true (.t 11)) (tq 5 (.box 3 (.c (.agg [(.int .i64 0),(.int .i64 0),(.str [])]))) (.q ⟨none,none,.store 3 (.t 5) (.t 12)⟩
 .done)))))
 (.block 2 (.seq (.reg (tq 14 (.load 3 true (.t 5)) (tq 15 (.call 135 [(.t 14)]) (tq 16 (.not (.t 15)) (tm 13 (.t 16) .done)))))
 (.cond (.t 13) (.seq (.reg (tm 2 (.c .nil) (tm 3 (.c (.int .i64 1)) .done)))
 .ret)
 (.seq (.reg (tq 18 (.faddr 0 (.t 5)) (tq 19 (.load 1 false (.t 18)) (tm 20 (.t 0) (tq 21 (.iaddr 3 (.t 20) (.c (.int .i64 0))) (tq 22 (.faddr 0 (.t 21)) (tq 23 (.load 1 false (.t 22)) (tq 24 (.bin .neq (.t 19) (.t 23)) (tm 17 (.t 24) .done)))))))))
 (.cond (.t 17) (.seq (.reg (tm 2 (.c .nil) (tm 3 (.c (.int .i64 9)) .done)))
 .ret)
 .skip)))))))
 (.reg (tq 25 (.bin .add (.t 9) (.c (.int .i64 1))) (tm 9 (.t 25) .done)))))))))
 (.cut (.seq (.reg (tm 26 (.t 0) (tq 27 (.call 307 [(.t 26)]) (tm 6 (.t 27) .done))))
 (.seq (.seq (.reg (tm 28 (.t 6) (tq 29 (.len (.t 28)) (tq 30 (.bin .gtr (.t 29) (.c (.int .i64 8))) .done))))
 (.cond (.t 30) (.seq (.reg (tm 2 (.c .nil) (tm 3 (.c (.int .i64 6)) .done)))
 .ret)
 .skip))
 (.seq (.reg (tm 31 (.t 6) (tm 2 (.t 31) (tm 3 (.c (.int .i64 0)) .done))))
 .ret))))))
theorem e8t:a1b Tryz.prog Tryz.f232 = some (c232.erase,[.mov (.t 2),.mov (.t 3)],32):=by kernel_rfl
def a3i (A:(List a0g)):List a0g → Option (Fl ((List a0g) × Int) Unit)
  | [] =>
    some (.go ())
  | B :: xs =>
    (a7k B).bind fun G =>
    if (!G) then
    some (.ret ([],1))
    else
    (idx A 0).bind fun F =>
    if (B.Kind != F.Kind) then
    some (.ret ([],9))
    else
    a3i A xs 
def a6t (A:(List a0g)):Option ((List a0g) × Int) :=
    (a3i A A ).bind fun q => (match q with
    | .ret r => some r
    | .go _ =>
    (b4k A).bind fun D =>
    if (decide ((D.length:Int) > 8)) then
    some ([],6)
    else
    some (D,0))
theorem c7f (A:(List a0g)) (r:((List a0g) × Int)) (hf:a6t A = some r):a0a Tryz.prog 232 .fresh [(.lst 3 (A.map o5))] (.tup [(.lst 3 (r.1.map o5)),(.I r.2)]):=by
 refine a0a.of_awp mixed Tryz.func232 e8t nle ?_;rw [a0l];unfold a6t at hf;unfold c232;refine (show awp Tryz.prog true 0 _ (ofL [(0,(.lst 3 (A.map o5)))]) [] _ from ?_);refine sr<|l7 .nil rfl<|l7 (.I 0) rfl<|dk<|o6<|sr<|l7 (.lst 3 (A.map o5)) rfl<|a1a (a1t (enc:=o5) rfl) fun hl2 => l7 (.I 0) rfl<|dk<|?_
 obtain ⟨p32,hb1,hf⟩:=ob hf
 refine a1u (X:={q:Unit // p32 = .go q}) (fun q => ([(0,(.lst 3 (A.map o5)))],[])) ?_ ?_
 ·refine a1h (X:={q:Nat // a3i A (A.drop q)  = some p32}) (fun q => ([(0,(.lst 3 (A.map o5))),(7,(.lst 3 (A.map o5))),(8,(.I (A.length:Int))),(9,(.I (q.1:Int)))],[])) (fun q => A.length - q.1) ⟨0,hb1⟩ ⟨[],[],_,_,rfl,rfl,⟨.r,⟨.r,⟨.r,⟨.r,tr⟩⟩⟩⟩,.r⟩ ?_
  rintro ⟨E,hc1⟩
  have hc1:a3i A (A.drop E)  = some p32:=hc1
  refine (show awp Tryz.prog true 0 _ (ofL [(0,(.lst 3 (A.map o5))),(7,(.lst 3 (A.map o5))),(8,(.I (A.length:Int))),(9,(.I (E:Int)))]) [] _ from ?_)
  rcases a5j A E with ⟨hie35,hd38⟩ | ⟨hlt33,B,hx34,hd38⟩
  ·rw [hd38,a3i.eq_1] at hc1
   have hq37:=dlf hie35
   refine sr<|o7 (.bool (decide ((E:Int) < (A.length:Int)))) rfl rfl rfl<|dk<|o6<|x8 rfl hq37<|a2o<|a2n<|a1s<|a2m<|?_;obtain rfl:=os hc1;exact a2s ⟨_,rfl⟩ ⟨[],[],_,_,rfl,rfl,⟨.r,tr⟩,.r⟩
  ·rw [hd38,a3i.eq_2] at hc1
   have hq37:=dlt hlt33
   refine sr<|o7 (.bool (decide ((E:Int) < (A.length:Int)))) rfl rfl rfl<|dk<|o6<|x9 rfl hq37<|a0h<|a0j<|o6<|a2y<|sr<|y7 (a1m (enc:=o5) rfl rfl hx34)<|o7 (o5 B) rfl nle rfl<|y7 (a1i (j:=0) (c:=(.agg [(.I 0),(.I 0),(.str [])])) rfl tr rfl rfl)<|a1k (a0i (v:=(.agg [(.I B.Kind),(.I B.N),(.str B.T)])) (y':=(.agg [(.I B.Kind),(.I B.N),(.str B.T)])) rfl rfl rfl tr ⟨rfl,nle⟩ ⟨⟨rfl,tr⟩,⟨⟨rfl,tr⟩,⟨⟨rfl,tr⟩,tr⟩⟩⟩ rfl)<|dk<|a2y<|sr<|?_
   obtain ⟨G,er41,hc1⟩:=ob hc1
   refine o7 (.agg [(.I B.Kind),(.I B.N),(.str B.T)]) rfl nle rfl<|y7 (a0p (b5e _ _ er41) rfl .r rfl)<|o7 (.bool (!G)) rfl tr rfl<|l7 (.bool (!G)) rfl<|dk<|?_
   rcases oi hc1 with ⟨c42,hc1⟩ | ⟨c42,hc1⟩
   ·refine x9 rfl c42<|sr<|l7 .nil rfl<|l7 (.I 1) rfl<|dk<|a0d<|?_;obtain rfl:=os hc1;obtain rfl:=os hf;exact a1x ⟨tr,⟨tr,tr⟩⟩ rfl (by decide) (.tup (.cons (.nil _) (.cons .r .nil)))
   ·refine x8 rfl (bf c42)<|sr<|?_
    obtain ⟨F,ex44,hc1⟩:=ob hc1
    refine o7 (.ptr 0 0 0) rfl tr rfl<|o7 (.I B.Kind) rfl nle rfl<|l7 (.lst 3 (A.map o5)) rfl<|y7 (a3d (enc:=o5) rfl rfl (b0a ex44) (b0b ex44))<|o7 (.iptr (o5 F) 0) rfl tr rfl<|o7 (.I F.Kind) rfl nle rfl<|o7 (.bool (B.Kind != F.Kind)) rfl rfl rfl<|l7 (.bool (B.Kind != F.Kind)) rfl<|dk<|?_
    rcases oi hc1 with ⟨c45,hc1⟩ | ⟨c45,hc1⟩
    ·refine x9 rfl c45<|sr<|l7 .nil rfl<|l7 (.I 9) rfl<|dk<|a0d<|?_;obtain rfl:=os hc1;obtain rfl:=os hf;exact a1x ⟨tr,⟨tr,tr⟩⟩ rfl (by decide) (.tup (.cons (.nil _) (.cons .r .nil)))
    ·refine x8 rfl (bf c45)<|a0h<|a1v<|a1v<|a0j<|a0t<|o7 (.I (w64 ((E:Int) + 1))) rfl rfl rfl<|l7 (.I (w64 ((E:Int) + 1))) rfl<|a0e<|?_;exact a1p ⟨(E + 1),hc1⟩ (mul hlt33) ⟨[],[],_,_,rfl,rfl,⟨.r,⟨.r,⟨.r,⟨.of_eq (congrArg (AV.int _) (a1r hlt33 hl2)),tr⟩⟩⟩⟩,.r⟩
 ·rintro ⟨_,rfl⟩
  refine sr<|?_
  obtain ⟨D,er47,hf⟩:=ob hf
  refine l7 (.lst 3 (A.map o5)) rfl<|y7 (a5i (v:=(.own 0 0 D.length)) (h':=[.row 3 (D.map o5)]) (d1r _ _ er47) rfl .r (by simp only [a2r,a2z,List.length_map,List.nil_append,List.append_nil,List.cons_append];rfl))<|l7 (.own 0 0 D.length) rfl<|dk<|o6<|sr<|l7 (.own 0 0 D.length) rfl<|a1a (a8p rfl rfl) fun hl48 => o7 (.bool (decide ((D.length:Int) > 8))) rfl rfl rfl<|dk<|?_
  rcases oi hf with ⟨c49,hf⟩ | ⟨c49,hf⟩
  ·refine x9 rfl c49<|sr<|l7 .nil rfl<|l7 (.I 6) rfl<|dk<|a0d<|?_;obtain rfl:=os hf;exact a1x ⟨tr,⟨tr,tr⟩⟩ rfl (by decide) (.tup (.cons (.nil _) (.cons .r .nil)))
  ·refine x8 rfl (bf c49)<|a0h<|a0j<|sr<|l7 (.own 0 0 D.length) rfl<|l7 (.own 0 0 D.length) rfl<|l7 (.I 0) rfl<|dk<|a0d<|?_;obtain rfl:=os hf;exact a1x ⟨tr,⟨tr,tr⟩⟩ rfl (by decide) (.tup (.cons (.of_eq (congrArg (AV.lst _) (tk (enc:=o5) D))) (.cons .r .nil)))
def e8u:a0q :=
 (.seq (.reg (tq 1 (.box 5 (.t 0)) (tm 2 (.c .nil) (tm 3 (.c (.bool false)) .done))))
 (.seq (.reg (tq 14 (.load 5 true (.t 1)) (tq 15 (.call 231 [(.t 14)]) (tm 13 (.t 15) (tq 16 (.extract 0 (.t 13)) (tq 17 (.extract 1 (.t 13)) (tm 4 (.t 16) (tm 5 (.t 17) .done))))))))
 (.seq (.seq (.reg (tm 18 (.t 5) (tq 19 (.not (.t 18)) .done)))
 (.cond (.t 19) (.reg (tq 20 (.load 5 true (.t 1)) (tq 21 (.bslice 5 [(.t 20)]) (tm 4 (.t 21) .done))))
 .skip))
 (.cut (.seq (.reg (tq 22 (.bslice 3 []) (tm 6 (.t 22) .done)))
 (.seq (.seq (.reg (tm 23 (.t 4) (tq 24 (.len (.t 23)) (tm 25 (.c (.int .i64 0)) .done))))
 (.block 0 (.loop (.seq (.reg (tq 26 (.bin .lss (.t 25) (.t 24)) .done))
 (.seq (.cond (.t 26) .skip
 (.exit 0))
 (.seq (.block 1 (.seq (.reg (tq 27 (.iaddr 5 (.t 23) (.t 25)) (tq 28 (.load 5 true (.t 27)) (tq 8 (.box 5 (.c (.agg [(.int .i64 0),(.int .i64 0),(.str []),.nil,.nil]))) (.q ⟨none,none,.store 5 (.t 8) (.t 28)⟩
 .done)))))
 (.seq (.reg (tq 30 (.load 5 true (.t 8)) (tq 31 (.call 137 [(.t 30)]) (tm 29 (.t 31) (tq 32 (.extract 0 (.t 29)) (tq 33 (.extract 1 (.t 29)) (tq 9 (.box 3 (.c (.agg [(.int .i64 0),(.int .i64 0),(.str [])]))) (.q ⟨none,none,.store 3 (.t 9) (.t 32)⟩
 (tm 10 (.t 33) .done)))))))))
 (.seq (.seq (.reg (tm 34 (.t 10) (tq 35 (.not (.t 34)) .done)))
 (.cond (.t 35) (.seq (.reg (tm 2 (.c .nil) (tm 3 (.c (.bool false)) .done)))
 .ret)
 .skip))
 (.reg (tm 36 (.t 6) (tq 37 (.load 3 true (.t 9)) (tq 38 (.bslice 3 [(.t 37)]) (tq 39 (.append 3 32 (.t 36) (.t 38)) (tm 6 (.t 39) .done))))))))))
 (.reg (tq 40 (.bin .add (.t 25) (.c (.int .i64 1))) (tm 25 (.t 40) .done)))))))))
 (.cut (.seq (.reg (tm 42 (.t 6) (tq 43 (.call 232 [(.t 42)]) (tm 41 (.t 43) (tq 44 (.extract 0 (.t 41)) (tq 45 (.extract 1 (.t 41)) (tm 11 (.t 44) (tm 12 (.t 45) .done))))))))
 (.seq (.reg (tm 46 (.t 11) (tm 47 (.t 12) (tq 48 (.bin .eql (.t 47) (.c (.int .i64 0))) (tm 2 (.t 46) (tm 3 (.t 48) .done))))))
 .ret)))))))))
theorem e8v:a1b Tryz.prog Tryz.f133 = some (e8u.erase,[.mov (.t 2),.mov (.t 3)],49):=by kernel_rfl
def a1y :List y8 → (List a0g) → Option (Fl ((List a0g) × Bool) (List a0g))
  | [],B =>
    some (.go B)
  | E :: xs,B =>
    (a6w E).bind fun A =>
    if (!A.2) then
    some (.ret ([],false))
    else
    if (B ++ [A.1]).length ≤ 2 ^ 30 then
    a1y xs  (B ++ [A.1])
    else none
def a9r (F:y8):Option ((List a0g) × Bool) :=
    (a9f F).bind fun J =>
    ((if (!J.2) then
    some [F]
    else
    some J.1:Option (List y8))).bind fun D =>
    (a1y D []).bind fun q => (match q with
    | .ret r => some r
    | .go K =>
    (a6t K).bind fun G =>
    some (G.1,(G.2 == 0)))
theorem c3l (F:y8) (r:((List a0g) × Bool)) (hf:a9r F = some r):a0a Tryz.prog 133 .fresh [(l9 F)] (.tup [(.lst 3 (r.1.map o5)),(.bool r.2)]):=by
 refine a0a.of_awpF mixed Tryz.func133 e8v nle ?_;rw [a0l];rw [o9 F];unfold a9r at hf;unfold e8u;refine (show awp Tryz.prog false 0 _ (ofL [(0,(.agg [(.I F.Kind),(.I F.N),(.str F.T),(.lst 1 (F.Keys.map AV.str)),(.lst 5 (F.Items.map l9))]))]) [] _ from ?_);refine sr<|y7 (a1i (j:=0) (c:=(.agg [(.I F.Kind),(.I F.N),(.str F.T),(.lst 1 (F.Keys.map AV.str)),(.lst 5 (F.Items.map l9))])) rfl tr rfl rfl)<|l7 .nil rfl<|l7 (.bool false) rfl<|dk<|sr<|?_
 obtain ⟨J,er3,hf⟩:=ob hf
 refine o7 (.agg [(.I F.Kind),(.I F.N),(.str F.T),(.lst 1 (F.Keys.map AV.str)),(.lst 5 (F.Items.map l9))]) rfl nle rfl<|y7 (b8p rfl (b8z _ _ er3) rfl (.cons (.of_eq (o9 F).symm) .nil) rfl rfl)<|l7 (.tup [(.lst 5 (J.1.map l9)),(.bool J.2)]) rfl<|o7 (.lst 5 (J.1.map l9)) rfl nle rfl<|o7 (.bool J.2) rfl nle rfl<|l7 (.lst 5 (J.1.map l9)) rfl<|l7 (.bool J.2) rfl<|dk<|o6<|?_
 obtain ⟨D,hb1,hf⟩:=ob hf
 refine a2d ([(4,(.lst 5 (D.map l9)))],[]) ?_ ?_
 ·refine sr<|l7 (.bool J.2) rfl<|o7 (.bool (!J.2)) rfl tr rfl<|dk<|?_
  rcases oi hb1 with ⟨c7,hb1⟩ | ⟨c7,hb1⟩
  ·refine x9 rfl c7<|a0t<|o7 (.agg [(.I F.Kind),(.I F.N),(.str F.T),(.lst 1 (F.Keys.map AV.str)),(.lst 5 (F.Items.map l9))]) rfl nle rfl<|?_;refine y7 (a1o (j:=1) (as':=[(l9 F)]) rfl (fun _ => by decide) ⟨rfl,tr⟩ (.cons (.of_eq (o9 F).symm) .nil) rfl rfl rfl) ?_;refine l7 (.own 1 0 1) rfl<|a0e<|?_;obtain rfl:=os hb1;exact ⟨[.frz 4],[],_,_,rfl,rfl,⟨.of_eq (congrArg (AV.lst _) (tko [F])),tr⟩,.r⟩
  ·refine x8 rfl (bf c7)<|a0h<|?_;obtain rfl:=os hb1;exact ⟨[],[],_,_,rfl,rfl,⟨.r,tr⟩,.r⟩
 ·refine sr<|?_;refine y7 (a1o (j:=0) (as':=[]) rfl (fun _ => by decide) tr .r rfl rfl rfl) ?_;refine l7 (.own 0 0 0) rfl<|dk<|o6<|sr<|l7 (.lst 5 (D.map l9)) rfl<|a1a (a1t (enc:=l9) rfl) fun hl8 => l7 (.I 0) rfl<|dk<|?_
  obtain ⟨p35,hb1,hf⟩:=ob hf
  refine a1u (X:={q:(List a0g) // p35 = .go q}) (fun q => ([(6,(.own 0 0 q.1.length))],[.row 3 (q.1.map o5)])) ?_ ?_
  ·refine a1h (X:={q:(Nat × (List a0g)) // a1y (D.drop q.1) q.2 = some p35}) (fun q => ([(6,(.own 0 0 q.1.2.length)),(23,(.lst 5 (D.map l9))),(24,(.I (D.length:Int))),(25,(.I (q.1.1:Int)))],[.row 3 (q.1.2.map o5)])) (fun q => D.length - q.1.1) ⟨(0,[]),hb1⟩ ⟨[],[0],_,_,rfl,rfl,⟨.of_eq (congrArg (AV.own _ 0) (by simp)),⟨.r,⟨.r,⟨.r,tr⟩⟩⟩⟩,.r⟩ ?_
   rintro ⟨⟨H,B⟩,hc1⟩
   have hc1:a1y (D.drop H) B = some p35:=hc1
   refine (show awp Tryz.prog false 0 _ (ofL [(6,(.own 0 0 B.length)),(23,(.lst 5 (D.map l9))),(24,(.I (D.length:Int))),(25,(.I (H:Int)))]) [.row 3 (B.map o5)] _ from ?_)
   rcases a5j D H with ⟨hie38,hd41⟩ | ⟨hlt36,E,hx37,hd41⟩
   ·rw [hd41,a1y.eq_1] at hc1
    have hq40:=dlf hie38
    refine sr<|o7 (.bool (decide ((H:Int) < (D.length:Int)))) rfl rfl rfl<|dk<|o6<|x8 rfl hq40<|a2o<|a2n<|a1s<|a2m<|?_;obtain rfl:=os hc1;exact a2s ⟨_,rfl⟩ ⟨[],[0],_,_,rfl,rfl,⟨.r,tr⟩,.r⟩
   ·rw [hd41,a1y.eq_2] at hc1
    have hq40:=dlt hlt36
    refine sr<|o7 (.bool (decide ((H:Int) < (D.length:Int)))) rfl rfl rfl<|dk<|o6<|x9 rfl hq40<|a0h<|a0j<|o6<|a2y<|sr<|y7 (a1m (enc:=l9) rfl rfl hx37)<|y7 (a2l (v:=(.agg [(.I E.Kind),(.I E.N),(.str E.T),(.lst 1 (E.Keys.map AV.str)),(.lst 5 (E.Items.map l9))])) rfl (o9 _) nle rfl)<|y7 (a1i (j:=1) (c:=(.agg [(.I 0),(.I 0),(.str []),.nil,.nil])) rfl tr rfl rfl)<|a1k (a0i (v:=(.agg [(.I E.Kind),(.I E.N),(.str E.T),(.lst 1 (E.Keys.map AV.str)),(.lst 5 (E.Items.map l9))])) (y':=(.agg [(.I E.Kind),(.I E.N),(.str E.T),(.lst 1 (E.Keys.map AV.str)),(.lst 5 (E.Items.map l9))])) rfl rfl rfl tr ⟨rfl,nle⟩ ⟨⟨rfl,tr⟩,⟨⟨rfl,tr⟩,⟨⟨rfl,tr⟩,⟨⟨rfl,tr⟩,⟨⟨rfl,tr⟩,tr⟩⟩⟩⟩⟩ rfl)<|?_
    refine dk<|sr<|?_
    obtain ⟨A,er44,hc1⟩:=ob hc1
    refine o7 (.agg [(.I E.Kind),(.I E.N),(.str E.T),(.lst 1 (E.Keys.map AV.str)),(.lst 5 (E.Items.map l9))]) rfl nle rfl<|y7 (a0p (c5f _ _ er44) rfl (.cons (.of_eq (o9 E).symm) .nil) rfl)<|l7 (.tup [(o5 A.1),(.bool A.2)]) rfl<|o7 (o5 A.1) rfl nle rfl<|o7 (.bool A.2) rfl nle rfl<|y7 (a1i (j:=2) (c:=(.agg [(.I 0),(.I 0),(.str [])])) rfl tr rfl rfl)<|a1k (a0i (v:=(.agg [(.I A.1.Kind),(.I A.1.N),(.str A.1.T)])) (y':=(.agg [(.I A.1.Kind),(.I A.1.N),(.str A.1.T)])) rfl rfl rfl tr ⟨rfl,nle⟩ ⟨⟨rfl,tr⟩,⟨⟨rfl,tr⟩,⟨⟨rfl,tr⟩,tr⟩⟩⟩ rfl)<|?_
    refine l7 (.bool A.2) rfl<|dk<|o6<|sr<|l7 (.bool A.2) rfl<|o7 (.bool (!A.2)) rfl tr rfl<|dk<|?_
    rcases oi hc1 with ⟨c45,hc1⟩ | ⟨c45,hc1⟩
    ·refine x9 rfl c45<|sr<|l7 .nil rfl<|l7 (.bool false) rfl<|dk<|a0d<|?_;obtain rfl:=os hc1;obtain rfl:=os hf;exact d3u ⟨tr,⟨tr,tr⟩⟩ rfl (by decide) tr (.tup (.cons (.nil _) (.cons .r .nil)))
    ·refine x8 rfl (bf c45)<|a0h<|a0j<|a0t<|?_
     obtain ⟨g46,hc1⟩:=og hc1
     refine l7 (.own 0 0 B.length) rfl<|o7 (.agg [(.I A.1.Kind),(.I A.1.N),(.str A.1.T)]) rfl nle rfl<|?_;refine y7 (a1o (j:=3) (as':=[(o5 A.1)]) rfl (fun _ => by decide) ⟨rfl,tr⟩ .r rfl rfl rfl) ?_
     refine y7 (d8r (j:=4) (L:=((B ++ [A.1]).map o5)) (len:=(B ++ [A.1]).length) rfl rfl (d1o (enc:=o5) B [A.1] _ (by rfl)) (by simp <;> omega) g46 rfl rfl) ?_
     refine l7 (.own 4 0 ((B ++ [A.1]).length)) rfl<|a0e<|a1v<|a0j<|a0t<|o7 (.I (w64 ((H:Int) + 1))) rfl rfl rfl<|l7 (.I (w64 ((H:Int) + 1))) rfl<|a0e<|?_;exact a1p ⟨((H + 1),B ++ [A.1]),hc1⟩ (mul hlt36) ⟨[],[4],_,_,rfl,rfl,⟨.r,⟨.r,⟨.r,⟨.of_eq (congrArg (AV.int _) (a1r hlt36 hl8)),tr⟩⟩⟩⟩,.r⟩
  ·rintro ⟨K,rfl⟩
   refine sr<|?_
   obtain ⟨G,er48,hf⟩:=ob hf
   refine l7 (.own 0 0 K.length) rfl<|y7 (a5i (v:=(.tup [(.own 1 0 G.1.length),(.I G.2)])) (h':=[.row 3 (G.1.map o5)]) (c7f _ _ er48) rfl (.cons (.of_eq (congrArg (AV.lst _) (tko K))) .nil) (by simp only [a2r,a2z,List.length_map,List.nil_append,List.append_nil,List.cons_append];rfl))<|l7 (.tup [(.own 1 0 G.1.length),(.I G.2)]) rfl<|o7 (.own 1 0 G.1.length) rfl nle rfl<|o7 (.I G.2) rfl nle rfl<|l7 (.own 1 0 G.1.length) rfl<|l7 (.I G.2) rfl<|dk<|sr<|l7 (.own 1 0 G.1.length) rfl<|l7 (.I G.2) rfl<|o7 (.bool (G.2 == 0)) rfl rfl rfl<|?_
   refine l7 (.own 1 0 G.1.length) rfl<|l7 (.bool (G.2 == 0)) rfl<|dk<|a0d<|?_;obtain rfl:=os hf;exact d3u ⟨tr,⟨tr,tr⟩⟩ rfl (by decide) ⟨⟨_,_,rfl,flm (fun _ => rfl) _⟩,tr⟩ (.tup (.cons (.of_eq (congrArg (AV.lst _) (tk (enc:=o5) G.1))) (.cons .r .nil)))
def e8w:a0q :=
 (.seq (.reg (tm 0 (.c .nil) .done))
 (.seq (.reg (tq 1 (.bslice 1 [(.c (.str [61,61])),(.c (.str [33,61])),(.c (.str [60])),(.c (.str [60,61])),(.c (.str [62])),(.c (.str [62,61])),(.c (.str [105,110,99,108,117,100,101,115])),(.c (.str [101,120,99,108,117,100,101,115]))]) (tm 0 (.t 1) .done)))
 .ret))
theorem e8x:a1b Tryz.prog Tryz.f391 = some (e8w.erase,[.mov (.t 0)],2):=by kernel_rfl
def b1p :Option (List Str) :=
    some [[61,61],[33,61],[60],[60,61],[62],[62,61],[105,110,99,108,117,100,101,115],[101,120,99,108,117,100,101,115]]
theorem c3n  (r:(List Str)) (hf:b1p = some r):a0a Tryz.prog 391 .fresh [] (.lst 1 (r.map AV.str)):=by
  refine a0a.of_awp mixed Tryz.func391 e8x nle ?_
  rw [a0l]
  unfold b1p at hf
  unfold e8w
  refine (show awp Tryz.prog true 0 _ (ofL []) [] _ from ?_)
  refine o6 ?_
  refine a0t ?_
  refine y7 (a4c .nil rfl) ?_
  refine a0e ?_
  refine a0j ?_
  refine o6 ?_
  refine a0t ?_
  refine y7 (a1o (j:=0) (as':=[(.str [61,61]),(.str [33,61]),(.str [60]),(.str [60,61]),(.str [62]),(.str [62,61]),(.str [105,110,99,108,117,100,101,115]),(.str [101,120,99,108,117,100,101,115])]) rfl (fun _ => by decide) ⟨rfl,⟨rfl,⟨rfl,⟨rfl,⟨rfl,⟨rfl,⟨rfl,⟨rfl,tr⟩⟩⟩⟩⟩⟩⟩⟩ .r rfl rfl rfl) ?_
  refine y7 (a4c (.own 0 0 8) rfl) ?_
  refine a0e ?_
  refine a0j ?_
  refine a0d ?_
  obtain rfl:=os hf
  exact a1x ⟨tr,tr⟩ rfl (by decide) .r
def e8y:a0q :=
 (.seq (.reg (tm 4 (.c (.int .i64 0)) .done))
 (.seq (.reg (tm 5 (.t 0) (tm 6 (.t 1) (tq 7 (.call 239 [(.t 5),(.t 6)]) (tq 8 (.bin .add (.t 7) (.c (.int .i64 1))) (tm 4 (.t 8) .done))))))
 .ret))
theorem e8z:a1b Tryz.prog Tryz.f390 = some (e8y.erase,[.mov (.t 4)],9):=by kernel_rfl
def b3t (A:(List Str)) (B:Str):Option Int :=
    (a3k A B).bind fun D =>
    some (w64 (D + 1))
theorem c7g (A:(List Str)) (B:Str) (r:Int) (hf:b3t A B = some r):a0a Tryz.prog 390 .flat [(.lst 1 (A.map AV.str)),(.str B)] (.I r):=by
  refine a0a.of_awp mixed Tryz.func390 e8z nle ?_
  rw [a0l]
  unfold b3t at hf
  unfold e8y
  refine (show awp Tryz.prog false 0 _ (ofL [(0,(.lst 1 (A.map AV.str))),(1,(.str B))]) [] _ from ?_)
  refine o6 ?_
  refine a0t ?_
  refine y7 (a4c (.I 0) rfl) ?_
  refine a0e ?_
  refine a0j ?_
  refine o6 ?_
  refine a0t ?_
  obtain ⟨D,er4,hf⟩:=ob hf
  refine y7 (a4c (.lst 1 (A.map AV.str)) rfl) ?_
  refine y7 (a4c (.str B) rfl) ?_
  refine y7 (a0p (a8s _ _ _ er4) rfl .r rfl) ?_
  refine y7 (o_q (.I (w64 (D + 1))) rfl rfl rfl) ?_
  refine y7 (a4c (.I (w64 (D + 1))) rfl) ?_
  refine a0e ?_
  refine a0j ?_
  refine a0d ?_
  obtain rfl:=os hf
  exact a0f ⟨tr,tr⟩ rfl .r
def e9a:a0q :=
 (.seq (.reg (tm 2 (.c (.int .i64 0)) .done))
 (.seq (.reg (tq 3 (.call 391 []) (tm 4 (.t 0) (tq 5 (.call 390 [(.t 3),(.t 4)]) (tm 2 (.t 5) .done)))))
 .ret))
theorem e9b:a1b Tryz.prog Tryz.f360 = some (e9a.erase,[.mov (.t 2)],6):=by kernel_rfl
def b0z (A:Str):Option Int :=
    (b1p).bind fun D =>
    (b3t D A).bind fun B =>
    some B
theorem c8t (A:Str) (r:Int) (hf:b0z A = some r):a0a Tryz.prog 360 .flat [(.str A)] (.I r):=by
  refine a0a.of_awp mixed Tryz.func360 e9b nle ?_
  rw [a0l]
  unfold b0z at hf
  unfold e9a
  refine (show awp Tryz.prog false 0 _ (ofL [(0,(.str A))]) [] _ from ?_)
  refine o6 ?_
  refine a0t ?_
  refine y7 (a4c (.I 0) rfl) ?_
  refine a0e ?_
  refine a0j ?_
  refine o6 ?_
  refine a0t ?_
  obtain ⟨D,er3,hf⟩:=ob hf
  obtain ⟨B,er5,hf⟩:=ob hf
  refine y7 (d6y rfl (c3n _ er3) rfl .r rfl) ?_
  refine y7 (a4c (.str A) rfl) ?_
  refine y7 (a0p (c7g _ _ _ er5) rfl .r rfl) ?_
  refine y7 (a4c (.I B) rfl) ?_
  refine a0e ?_
  refine a0j ?_
  refine a0d ?_
  obtain rfl:=os hf
  exact a0f ⟨tr,tr⟩ rfl .r
abbrev wz4:List a4q:=[⟨(some 7),none,.load 1 false (.t 3)⟩]
def d7l:a0q :=
 (.reg (tq 7 (.load 1 false (.t 3)) (tm 8 (.t 0) (tm 9 (.t 1) (tm 11 (.t 2) (.l ⟨(some 10),none,.call 360 [(.t 9)]⟩ wz4
 (tq 12 (.build [(.str []),(.int .i64 0),.nil] [(0,1,(.t 8)),(1,1,(.t 10)),(2,1,(.t 11))]) (.l ⟨(some 13),none,.bslice 3 [(.t 12)]⟩ wz4
 (.l ⟨(some 14),none,.append 3 48 (.t 7) (.t 13)⟩ []
 (.l ⟨none,none,.store 1 (.t 3) (.t 14)⟩ []
 .done .non) .non) .non)) .non))))))
theorem e1e:a1b Tryz.prog Tryz.f359 = some (d7l.erase,[],15):=by kernel_rfl
def a6b (B:Str) (E:Str) (A:(List a0g)) (D:(List a0m)):Option (List a0m) :=
    (b0z E).bind fun F =>
    if (D ++ [(⟨B,F,A⟩:a0m)]).length ≤ 2 ^ 30 then
    some (D ++ [(⟨B,F,A⟩:a0m)])
    else none
theorem b6f (B:Str) (E:Str) (A:(List a0g)) (D:(List a0m)) (r:(List a0m)) (hf:a6b B E A D = some r):a0z Tryz.prog true 359 [(.str B),(.str E),(.own 0 0 A.length),(.ptr 1 0 0)] [.row 3 (A.map o5),.box 1 (.own 2 0 D.length),.row 3 (D.map o8)] (.tup []) [.dead,.box 1 (.own 3 0 r.length),.dead,.row 3 (r.map o8)]:=by
 refine a0z.of_awp mixed Tryz.func359 e1e nle ?_;rw [a0l];unfold a6b at hf;unfold d7l;refine (show awp Tryz.prog true 3 _ (ofL [(0,(.str B)),(1,(.str E)),(2,(.own 0 0 A.length)),(3,(.ptr 1 0 0))]) [.row 3 (A.map o5),.box 1 (.own 2 0 D.length),.row 3 (D.map o8)] _ from ?_);refine a0t ?_
 obtain ⟨F,er6,hf⟩:=ob hf
 obtain ⟨g7,hf⟩:=og hf
 refine o7 (.own 2 0 D.length) rfl ⟨rfl,rfl⟩ rfl<|l7 (.str B) rfl<|l7 (.str E) rfl<|l7 (.own 0 0 A.length) rfl<|a2e (a0p (c8t _ _ er6) rfl .r rfl) a2j tr<|o7 (.agg [(.str B),(.I F),(.own 0 0 A.length)]) rfl ⟨⟨rfl,nle,tr⟩,⟨⟨rfl,nle,tr⟩,⟨⟨rfl,nle,tr⟩,tr⟩⟩⟩ rfl<|?_;refine a2e (a1o (j:=3) (as':=[(o8 (⟨B,F,A⟩:a0m))]) rfl (fun _ => by decide) ⟨rfl,tr⟩ (.cons (.agg (.cons .r (.cons .r (.cons (.of_eq (congrArg (AV.lst _) (tk (enc:=o5) A))) .nil)))) .nil) rfl rfl rfl) (.inr ⟨⟨⟨rfl,rfl⟩,rfl⟩,tr⟩) tr ?_
 refine a2e (a4k (j:=4) (L:=((D ++ [(⟨B,F,A⟩:a0m)]).map o8)) (len:=(D ++ [(⟨B,F,A⟩:a0m)]).length) rfl true rfl rfl (fun h => Bool.noConfusion h) (fun _ _ h => (b8y (show AV.own _ _ _ = AV.lst _ _ from h)).elim) (by decide) (d1o (enc:=o8) D [(⟨B,F,A⟩:a0m)] _ (by rfl)) (by simp <;> omega) g7 rfl rfl) tr tr ?_
 refine a1j (a0i (v:=(.own 4 0 ((D ++ [(⟨B,F,A⟩:a0m)]).length))) (y':=(.own 4 0 ((D ++ [(⟨B,F,A⟩:a0m)]).length))) rfl rfl rfl tr ⟨rfl,rfl,rfl⟩ ⟨⟨rfl,tr⟩,tr⟩ rfl) tr tr<|a0e<|?_;obtain rfl:=os hf;exact a4p [] [0,1,2,4] rfl tr rfl .r .r
def d7m:a0q :=
 (.seq (.reg (tq 2 (.box 5 (.t 0)) (tm 4 (.c (.bool false)) .done)))
 (.seq (.seq (.reg (tq 9 (.faddr 4 (.t 2)) (tq 10 (.load 1 false (.t 9)) (tq 11 (.len (.t 10)) (tm 12 (.c (.int .i64 0)) .done)))))
 (.block 0 (.loop (.seq (.reg (tq 13 (.bin .lss (.t 12) (.t 11)) .done))
 (.seq (.cond (.t 13) .skip
 (.exit 0))
 (.seq (.block 1 (.seq (.reg (tq 14 (.iaddr 5 (.t 10) (.t 12)) (tq 15 (.load 5 true (.t 14)) (tq 6 (.box 5 (.c (.agg [(.int .i64 0),(.int .i64 0),(.str []),.nil,.nil]))) (.q ⟨none,none,.store 5 (.t 6) (.t 15)⟩
 .done)))))
 (.seq (.seq (.reg (tq 16 (.faddr 0 (.t 6)) (tq 17 (.load 1 false (.t 16)) (tq 18 (.bin .neq (.t 17) (.c (.int .i64 4))) (tm 19 (.t 18) (tg 20 19 false (.faddr 4 (.t 6)) (tg 21 19 false (.load 1 false (.t 20)) (tg 22 19 false (.len (.t 21)) (tg 23 19 false (.bin .neq (.t 22) (.c (.int .i64 3))) (tq 24 (.pick (.t 19) (.c (.bool true)) (.t 23)) (tm 25 (.t 24) (tg 26 25 false (.faddr 4 (.t 6)) (tg 27 25 false (.load 1 false (.t 26)) (tg 28 25 false (.iaddr 5 (.t 27) (.c (.int .i64 0))) (tg 29 25 false (.faddr 0 (.t 28)) (tg 30 25 false (.load 1 false (.t 29)) (tg 31 25 false (.bin .neq (.t 30) (.c (.int .i64 3))) (tq 32 (.pick (.t 25) (.c (.bool true)) (.t 31)) (tm 33 (.t 32) (tg 34 33 false (.faddr 4 (.t 6)) (tg 35 33 false (.load 1 false (.t 34)) (tg 36 33 false (.iaddr 5 (.t 35) (.c (.int .i64 1))) (tg 37 33 false (.faddr 0 (.t 36)) (tg 38 33 false (.load 1 false (.t 37)) (tg 39 33 false (.bin .neq (.t 38) (.c (.int .i64 3))) (tq 40 (.pick (.t 33) (.c (.bool true)) (.t 39)) .done))))))))))))))))))))))))))
 (.cut (.cond (.t 40) (.seq (.reg (tm 4 (.c (.bool false)) .done))
 .ret)
 .skip)))
 (.seq (.reg (tq 42 (.faddr 4 (.t 6)) (tq 43 (.load 1 false (.t 42)) (tq 44 (.iaddr 5 (.t 43) (.c (.int .i64 2))) (tq 45 (.load 5 true (.t 44)) (tq 46 (.call 133 [(.t 45)]) (tm 41 (.t 46) (tq 47 (.extract 0 (.t 41)) (tq 48 (.extract 1 (.t 41)) (tm 7 (.t 47) (tm 8 (.t 48) .done)))))))))))
 (.seq (.seq (.reg (tm 49 (.t 8) (tq 50 (.not (.t 49)) .done)))
 (.cond (.t 50) (.seq (.reg (tm 4 (.c (.bool false)) .done))
 .ret)
 .skip))
 (.reg (tm 51 (.t 1) (tq 52 (.faddr 4 (.t 6)) (tq 53 (.load 1 false (.t 52)) (tq 54 (.iaddr 5 (.t 53) (.c (.int .i64 0))) (tq 55 (.faddr 2 (.t 54)) (tq 56 (.load 1 false (.t 55)) (tq 57 (.faddr 4 (.t 6)) (tq 58 (.load 1 false (.t 57)) (tq 59 (.iaddr 5 (.t 58) (.c (.int .i64 1))) (tq 60 (.faddr 2 (.t 59)) (tq 61 (.load 1 false (.t 60)) (tm 62 (.t 7) (.l ⟨(some 63),none,.calv (.t 51) [(.t 56),(.t 61),(.t 62)]⟩ []
 .done .non)))))))))))))))))))
 (.reg (tq 64 (.bin .add (.t 12) (.c (.int .i64 1))) (tm 12 (.t 64) .done)))))))))
 (.cut (.seq (.reg (tq 65 (.faddr 0 (.t 2)) (tq 66 (.load 1 false (.t 65)) (tq 67 (.bin .eql (.t 66) (.c (.int .i64 4))) (tm 4 (.t 67) .done)))))
 .ret))))
theorem e1f:a1b Tryz.prog Tryz.f358 = some (d7m.erase,[.mov (.t 4)],68):=by kernel_rfl
def a1c :List y8 → (List a0m) → Option (Fl (Bool × (List a0m)) (List a0m))
  | [],F =>
    some (.go F)
  | A :: xs,F =>
    ((if (bif (A.Kind != 4) then true else ((A.Items.length:Int) != 3)) then
    some true
    else
    (idx A.Items 0).bind fun H =>
    if (H.Kind != 3) then
    some true
    else
    (idx A.Items 1).bind fun J =>
    some (J.Kind != 3):Option Bool)).bind fun L =>
    if L then
    some (.ret (false,F))
    else
    (idx A.Items 2).bind fun G =>
    (a9r G).bind fun D =>
    if (!D.2) then
    some (.ret (false,F))
    else
    (idx A.Items 0).bind fun O =>
    (idx A.Items 1).bind fun P =>
    (a6b O.T P.T D.1 F).bind fun K =>
    a1c xs  K
def a7l (B:y8) (M:(List a0m)):Option (Bool × (List a0m)) :=
    (a1c B.Items M).bind fun q => (match q with
    | .ret r => some r
    | .go R =>
    some ((B.Kind == 4),R))
theorem b6g (B:y8) (M:(List a0m)) (r:(Bool × (List a0m))) (hf:a7l B M = some r):a0z Tryz.prog true 358 [(l9 B),(.fn 359 [(.ptr 0 0 0)])] [.box 1 (.own 1 0 M.length),.row 3 (M.map o8)] (.bool r.1) [.box 1 (.own 2 0 r.2.length),.dead,.row 3 (r.2.map o8)]:=by
 refine a0z.of_awp mixed Tryz.func358 e1f nle ?_;rw [a0l];rw [o9 B];unfold a7l at hf;unfold d7m;refine (show awp Tryz.prog true 2 _ (ofL [(0,(.agg [(.I B.Kind),(.I B.N),(.str B.T),(.lst 1 (B.Keys.map AV.str)),(.lst 5 (B.Items.map l9))])),(1,(.fn 359 [(.ptr 0 0 0)]))]) [.box 1 (.own 1 0 M.length),.row 3 (M.map o8)] _ from ?_);refine sr<|y7 (a1i (j:=2) (c:=(.agg [(.I B.Kind),(.I B.N),(.str B.T),(.lst 1 (B.Keys.map AV.str)),(.lst 5 (B.Items.map l9))])) rfl tr rfl rfl)<|l7 (.bool false) rfl<|dk<|o6<|sr<|o7 (.ptr 2 0 4) rfl tr rfl<|?_
 refine o7 (.lst 5 (B.Items.map l9)) rfl nle rfl<|a1a (a1t (enc:=l9) rfl) fun hl3 => l7 (.I 0) rfl<|dk<|?_
 obtain ⟨p102,hb1,hf⟩:=ob hf
 refine a1u (X:={q:(List a0m) // p102 = .go q}) (fun q => ([(2,(.ptr 2 0 0))],[.box 1 (.own 3 0 q.1.length),.dead,.box 5 (.agg [(.I B.Kind),(.I B.N),(.str B.T),(.lst 1 (B.Keys.map AV.str)),(.lst 5 (B.Items.map l9))]),.row 3 (q.1.map o8)])) ?_ ?_
 ·refine a1h (X:={q:(Nat × (List a0m)) // a1c (B.Items.drop q.1) q.2 = some p102}) (fun q => ([(1,(.fn 359 [(.ptr 0 0 0)])),(2,(.ptr 2 0 0)),(10,(.lst 5 (B.Items.map l9))),(11,(.I (B.Items.length:Int))),(12,(.I (q.1.1:Int)))],[.box 1 (.own 3 0 q.1.2.length),.dead,.box 5 (.agg [(.I B.Kind),(.I B.N),(.str B.T),(.lst 1 (B.Keys.map AV.str)),(.lst 5 (B.Items.map l9))]),.row 3 (q.1.2.map o8)])) (fun q => B.Items.length - q.1.1) ⟨(0,M),hb1⟩ ⟨[.mv 1],[0,1,2,3],_,_,rfl,rfl,⟨.r,⟨.r,⟨.r,⟨.r,⟨.r,tr⟩⟩⟩⟩⟩,.r⟩ ?_
  rintro ⟨⟨E,F⟩,hc1⟩
  have hc1:a1c (B.Items.drop E) F = some p102:=hc1
  refine (show awp Tryz.prog true 2 _ (ofL [(1,(.fn 359 [(.ptr 0 0 0)])),(2,(.ptr 2 0 0)),(10,(.lst 5 (B.Items.map l9))),(11,(.I (B.Items.length:Int))),(12,(.I (E:Int)))]) [.box 1 (.own 3 0 F.length),.dead,.box 5 (.agg [(.I B.Kind),(.I B.N),(.str B.T),(.lst 1 (B.Keys.map AV.str)),(.lst 5 (B.Items.map l9))]),.row 3 (F.map o8)] _ from ?_)
  rcases a5j B.Items E with ⟨hie105,hd108⟩ | ⟨hlt103,A,hx104,hd108⟩
  ·rw [hd108,a1c.eq_1] at hc1
   have hq107:=dlf hie105
   refine sr<|o7 (.bool (decide ((E:Int) < (B.Items.length:Int)))) rfl rfl rfl<|dk<|o6<|x8 rfl hq107<|a2o<|a2n<|a1s<|a2m<|?_;obtain rfl:=os hc1;exact a2s ⟨_,rfl⟩ ⟨[],[0,1,2,3],_,_,rfl,rfl,⟨.r,tr⟩,.r⟩
  ·rw [hd108,a1c.eq_2] at hc1
   have hq107:=dlt hlt103
   refine sr<|o7 (.bool (decide ((E:Int) < (B.Items.length:Int)))) rfl rfl rfl<|dk<|o6<|x9 rfl hq107<|a0h<|a0j<|o6<|a2y<|sr<|y7 (a1m (enc:=l9) rfl rfl hx104)<|y7 (a2l (v:=(.agg [(.I A.Kind),(.I A.N),(.str A.T),(.lst 1 (A.Keys.map AV.str)),(.lst 5 (A.Items.map l9))])) rfl (o9 _) nle rfl)<|y7 (a1i (j:=4) (c:=(.agg [(.I 0),(.I 0),(.str []),.nil,.nil])) rfl tr rfl rfl)<|a1k (a0i (v:=(.agg [(.I A.Kind),(.I A.N),(.str A.T),(.lst 1 (A.Keys.map AV.str)),(.lst 5 (A.Items.map l9))])) (y':=(.agg [(.I A.Kind),(.I A.N),(.str A.T),(.lst 1 (A.Keys.map AV.str)),(.lst 5 (A.Items.map l9))])) rfl rfl rfl tr ⟨rfl,nle⟩ ⟨⟨rfl,tr⟩,⟨⟨rfl,tr⟩,⟨⟨rfl,tr⟩,⟨⟨rfl,tr⟩,⟨⟨rfl,tr⟩,tr⟩⟩⟩⟩⟩ rfl)<|?_
   refine dk<|o6<|o6<|?_
   obtain ⟨L,hb2,hc1⟩:=ob hc1
   refine a2d ([(1,(.fn 359 [(.ptr 0 0 0)])),(2,(.ptr 2 0 0)),(6,(.ptr 3 0 0)),(10,(.lst 5 (B.Items.map l9))),(11,(.I (B.Items.length:Int))),(12,(.I (E:Int))),(40,(.bool L))],[.box 1 (.own 4 0 F.length),.dead,.box 5 (.agg [(.I B.Kind),(.I B.N),(.str B.T),(.lst 1 (B.Keys.map AV.str)),(.lst 5 (B.Items.map l9))]),.box 5 (.agg [(.I A.Kind),(.I A.N),(.str A.T),(.lst 1 (A.Keys.map AV.str)),(.lst 5 (A.Items.map l9))]),.row 3 (F.map o8)]) ?_ ?_
   ·refine a0t<|o7 (.ptr 4 0 0) rfl tr rfl<|o7 (.I A.Kind) rfl nle rfl<|o7 (.bool (A.Kind != 4)) rfl rfl rfl<|l7 (.bool (A.Kind != 4)) rfl<|?_;refine s_g (v:=(A.Kind != 4)) (.ptr 4 0 4) rfl (fun hv => by (try simp only [a0c hv]);exact ⟨rfl,tr,rfl⟩) ?_;refine s_g (v:=(A.Kind != 4)) (.lst 5 (A.Items.map l9)) rfl (fun hv => by (try simp only [a0c hv]);exact ⟨rfl,nle,rfl⟩) ?_;refine s_g (v:=(A.Kind != 4)) (.I (A.Items.length:Int)) rfl (fun hv => by (try simp only [a0c hv]);exact ⟨rfl,tr,lenV _ _⟩) ?_;refine s_g (v:=(A.Kind != 4)) (.bool ((A.Items.length:Int) != 3)) rfl (fun hv => by (try simp only [a0c hv]);exact ⟨rfl,rfl,rfl⟩) ?_
    refine a3a (x:=true) (y:=((A.Items.length:Int) != 3)) rfl (fun hv => by (try simp only [a0c hv]);rfl) (fun hv => by (try simp only [a0c hv]);rfl) ?_;refine l7 (.bool (bif (A.Kind != 4) then true else ((A.Items.length:Int) != 3))) rfl ?_
    rcases oi hb2 with ⟨d8v,hb2⟩ | ⟨d8v,hb2⟩
    ·refine a0x (s:=25) (b:=true) rfl d8v<|y5 rfl rfl<|y5 rfl rfl<|y5 rfl rfl<|y5 rfl rfl<|y5 rfl rfl<|y5 rfl rfl<|o7 (.bool true) rfl tr rfl<|l7 (.bool true) rfl<|y5 rfl rfl<|y5 rfl rfl<|y5 rfl rfl<|y5 rfl rfl<|y5 rfl rfl<|y5 rfl rfl<|o7 (.bool true) rfl tr rfl<|a0e<|?_;obtain rfl:=os hb2;exact ⟨[],[0,1,2,4,3],_,_,rfl,rfl,⟨.r,⟨.r,⟨.r,⟨.r,⟨.r,⟨.r,⟨.r,tr⟩⟩⟩⟩⟩⟩⟩,.r⟩
    ·refine a0x (s:=25) (b:=false) rfl (bf d8v)<|s_on rfl<|o7 (.ptr 4 0 4) rfl tr rfl<|s_on rfl<|o7 (.lst 5 (A.Items.map l9)) rfl nle rfl<|s_on rfl<|?_
     obtain ⟨H,ex122,hb2⟩:=ob hb2
     refine y7 (a3d (enc:=l9) rfl rfl (b0a ex122) (b0b ex122))<|s_on rfl<|o7 (.iptr (l9 H) 0) rfl tr rfl<|s_on rfl<|y7 (a2l (v:=(.I H.Kind)) rfl (o9 _) nle rfl)<|s_on rfl<|o7 (.bool (H.Kind != 3)) rfl rfl rfl<|o7 (.bool (H.Kind != 3)) rfl tr rfl<|l7 (.bool (H.Kind != 3)) rfl<|?_
     rcases oi hb2 with ⟨c123,hb2⟩ | ⟨c123,hb2⟩
     ·refine a0x (s:=33) (b:=true) rfl c123<|y5 rfl rfl<|y5 rfl rfl<|y5 rfl rfl<|y5 rfl rfl<|y5 rfl rfl<|y5 rfl rfl<|o7 (.bool true) rfl tr rfl<|a0e<|?_;obtain rfl:=os hb2;exact ⟨[],[0,1,2,4,3],_,_,rfl,rfl,⟨.r,⟨.r,⟨.r,⟨.r,⟨.r,⟨.r,⟨.r,tr⟩⟩⟩⟩⟩⟩⟩,.r⟩
     ·refine a0x (s:=33) (b:=false) rfl (bf c123)<|s_on rfl<|o7 (.ptr 4 0 4) rfl tr rfl<|s_on rfl<|o7 (.lst 5 (A.Items.map l9)) rfl nle rfl<|s_on rfl<|?_
      obtain ⟨J,ex125,hb2⟩:=ob hb2
      refine y7 (a3d (enc:=l9) rfl rfl (b0a ex125) (b0b ex125))<|s_on rfl<|o7 (.iptr (l9 J) 0) rfl tr rfl<|s_on rfl<|y7 (a2l (v:=(.I J.Kind)) rfl (o9 _) nle rfl)<|s_on rfl<|o7 (.bool (J.Kind != 3)) rfl rfl rfl<|o7 (.bool (J.Kind != 3)) rfl tr rfl<|a0e<|?_;obtain rfl:=os hb2;exact ⟨[],[0,1,2,4,3],_,_,rfl,rfl,⟨.r,⟨.r,⟨.r,⟨.r,⟨.r,⟨.r,⟨.r,tr⟩⟩⟩⟩⟩⟩⟩,.r⟩
   ·rcases oi hc1 with ⟨c126,hc1⟩ | ⟨c126,hc1⟩
    ·refine x9 rfl c126<|sr<|l7 (.bool false) rfl<|dk<|a0d<|?_;obtain rfl:=os hc1;obtain rfl:=os hf;exact a4p [] [0,1,4] rfl ⟨tr,tr⟩ rfl .r .r
    ·refine x8 rfl (bf c126)<|a0h<|a0j<|sr<|?_
     obtain ⟨G,ex128,hc1⟩:=ob hc1
     obtain ⟨D,er130,hc1⟩:=ob hc1
     refine o7 (.ptr 3 0 4) rfl tr rfl<|o7 (.lst 5 (A.Items.map l9)) rfl nle rfl<|y7 (a3d (enc:=l9) rfl rfl (b0a ex128) (b0b ex128))<|y7 (a2l (v:=(.agg [(.I G.Kind),(.I G.N),(.str G.T),(.lst 1 (G.Keys.map AV.str)),(.lst 5 (G.Items.map l9))])) rfl (o9 _) nle rfl)<|y7 (a5i (v:=(.tup [(.own 5 0 D.1.length),(.bool D.2)])) (h':=[.row 3 (D.1.map o5)]) (c3l _ _ er130) rfl (.cons (.of_eq (o9 G).symm) .nil) (by simp only [a2r,a2z,List.length_map,List.nil_append,List.append_nil,List.cons_append];rfl))<|l7 (.tup [(.own 5 0 D.1.length),(.bool D.2)]) rfl<|?_
     refine o7 (.own 5 0 D.1.length) rfl nle rfl<|o7 (.bool D.2) rfl nle rfl<|l7 (.own 5 0 D.1.length) rfl<|l7 (.bool D.2) rfl<|dk<|o6<|sr<|l7 (.bool D.2) rfl<|o7 (.bool (!D.2)) rfl tr rfl<|dk<|?_
     rcases oi hc1 with ⟨c131,hc1⟩ | ⟨c131,hc1⟩
     ·refine x9 rfl c131<|sr<|l7 (.bool false) rfl<|dk<|a0d<|?_;obtain rfl:=os hc1;obtain rfl:=os hf;exact a4p [] [0,1,4] rfl ⟨tr,tr⟩ rfl .r .r
     ·refine x8 rfl (bf c131)<|a0h<|a0j<|a0t<|l7 (.fn 359 [(.ptr 0 0 0)]) rfl<|o7 (.ptr 3 0 4) rfl tr rfl<|o7 (.lst 5 (A.Items.map l9)) rfl nle rfl<|?_
      obtain ⟨O,ex133,hc1⟩:=ob hc1
      refine y7 (a3d (enc:=l9) rfl rfl (b0a ex133) (b0b ex133))<|o7 (.iptr (l9 O) 2) rfl tr rfl<|y7 (a2l (v:=(.str O.T)) rfl (o9 _) nle rfl)<|o7 (.ptr 3 0 4) rfl tr rfl<|o7 (.lst 5 (A.Items.map l9)) rfl nle rfl<|?_
      obtain ⟨P,ex135,hc1⟩:=ob hc1
      refine y7 (a3d (enc:=l9) rfl rfl (b0a ex135) (b0b ex135))<|o7 (.iptr (l9 P) 2) rfl tr rfl<|y7 (a2l (v:=(.str P.T)) rfl (o9 _) nle rfl)<|l7 (.own 5 0 D.1.length) rfl<|?_
      obtain ⟨K,er137,hc1⟩:=ob hc1
      refine a2e (d6z (v:=(.tup [])) (h2:=[.box 1 (.own 6 0 K.length),.dead,.box 5 (.agg [(.I B.Kind),(.I B.N),(.str B.T),(.lst 1 (B.Keys.map AV.str)),(.lst 5 (B.Items.map l9))]),.box 5 (.agg [(.I A.Kind),(.I A.N),(.str A.T),(.lst 1 (A.Keys.map AV.str)),(.lst 5 (A.Items.map l9))]),.dead,.dead,.row 3 (K.map o8)]) [] [5,0,4] (fun _ => rfl) rfl (by kernel_rfl) (b6f _ _ _ _ _ er137) rfl rfl .r .r rfl rfl) tr tr ?_;refine a0e<|a1v<|a0j<|a0t<|o7 (.I (w64 ((E:Int) + 1))) rfl rfl rfl<|l7 (.I (w64 ((E:Int) + 1))) rfl<|?_
      refine a0e ?_;exact a1p ⟨((E + 1),K),hc1⟩ (mul hlt103) ⟨[],[0,1,2,6],_,_,rfl,rfl,⟨.r,⟨.r,⟨.r,⟨.r,⟨.of_eq (congrArg (AV.int _) (a1r hlt103 hl3)),tr⟩⟩⟩⟩⟩,.r⟩
 ·rintro ⟨R,rfl⟩
  refine sr<|o7 (.ptr 2 0 0) rfl tr rfl<|o7 (.I B.Kind) rfl nle rfl<|o7 (.bool (B.Kind == 4)) rfl rfl rfl<|l7 (.bool (B.Kind == 4)) rfl<|dk<|a0d<|?_;obtain rfl:=os hf;exact a4p [] [0,1,3] rfl ⟨tr,tr⟩ rfl .r .r
def e9c:a0q :=
 (.seq (.reg (tq 1 (.box 5 (.t 0)) (tm 2 (.c .nil) (tm 3 (.c (.bool false)) .done))))
 (.seq (.reg (tq 6 (.bslice 3 []) (tq 4 (.box 1 (.c .nil)) (.q ⟨none,none,.store 1 (.t 4) (.t 6)⟩
 .done))))
 (.seq (.reg (tq 7 (.load 5 true (.t 1)) (tq 8 (.mkfn 359 [(.t 4)]) (tq 9 (.call 358 [(.t 7),(.t 8)]) (tm 5 (.t 9) .done)))))
 (.seq (.reg (tq 10 (.load 1 false (.t 4)) (tm 11 (.t 5) (tm 2 (.t 10) (tm 3 (.t 11) .done)))))
 .ret))))
theorem e9d:a1b Tryz.prog Tryz.f317 = some (e9c.erase,[.mov (.t 2),.mov (.t 3)],12):=by kernel_rfl
def a8u (A:y8):Option ((List a0m) × Bool) :=
    (a7l A []).bind fun B =>
    some (B.2,B.1)
theorem c1w (A:y8) (r:((List a0m) × Bool)) (hf:a8u A = some r):a0a Tryz.prog 317 .fresh [(l9 A)] (.tup [(.lst 3 (r.1.map o8)),(.bool r.2)]):=by
 refine a0a.of_awp mixed Tryz.func317 e9d nle ?_;rw [a0l];rw [o9 A];unfold a8u at hf;unfold e9c;refine (show awp Tryz.prog true 0 _ (ofL [(0,(.agg [(.I A.Kind),(.I A.N),(.str A.T),(.lst 1 (A.Keys.map AV.str)),(.lst 5 (A.Items.map l9))]))]) [] _ from ?_);refine sr<|y7 (a1i (j:=0) (c:=(.agg [(.I A.Kind),(.I A.N),(.str A.T),(.lst 1 (A.Keys.map AV.str)),(.lst 5 (A.Items.map l9))])) rfl tr rfl rfl)<|l7 .nil rfl<|l7 (.bool false) rfl<|dk<|sr<|?_;refine y7 (a1o (j:=1) (as':=[]) rfl (fun _ => by decide) tr .r rfl rfl rfl) ?_;refine y7 (a1i (j:=2) (c:=.nil) rfl tr rfl rfl) ?_
 refine a1k (a0i (v:=(.own 1 0 0)) (y':=(.own 1 0 0)) rfl rfl rfl tr ⟨rfl,rfl,rfl⟩ ⟨⟨rfl,tr⟩,tr⟩ rfl)<|dk<|sr<|?_
 obtain ⟨B,er3,hf⟩:=ob hf
 refine o7 (.agg [(.I A.Kind),(.I A.N),(.str A.T),(.lst 1 (A.Keys.map AV.str)),(.lst 5 (A.Items.map l9))]) rfl nle rfl<|o7 (.fn 359 [(.ptr 2 0 0)]) rfl tr rfl<|?_;refine y7 (b3q (v:=(.bool B.1)) (h2:=[.box 5 (.agg [(.I A.Kind),(.I A.N),(.str A.T),(.lst 1 (A.Keys.map AV.str)),(.lst 5 (A.Items.map l9))]),.dead,.box 1 (.own 3 0 B.2.length),.row 3 (B.2.map o8)]) [] [2,1] (fun _ => rfl) (b6g _ _ _ er3) rfl (.cons (.of_eq (o9 A).symm) (.cons .r .nil)) (.cons (.box (.of_eq (congrArg (AV.own _ 0) (by simp)))) (.cons .r .nil)) rfl rfl) ?_;refine l7 (.bool B.1) rfl<|a0e<|?_
 refine a0j<|sr<|o7 (.own 3 0 B.2.length) rfl ⟨rfl,rfl⟩ rfl<|l7 (.bool B.1) rfl<|l7 (.own 3 0 B.2.length) rfl<|l7 (.bool B.1) rfl<|dk<|a0d<|?_;obtain rfl:=os hf;exact a1x ⟨tr,⟨tr,tr⟩⟩ rfl (by decide) (.tup (.cons (.of_eq (congrArg (AV.lst _) (tk (enc:=o8) B.2))) (.cons .r .nil)))
end Go.R
