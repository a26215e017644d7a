/- Walks. -/
import Derived.Test.YtldahjcikmpifaaGreatROJ2
set_option linter.all false
namespace Go.R
open Go Go.Proofs
set_option linter.unusedVariables false
set_option linter.unusedSimpArgs false
set_option maxHeartbeats 8000000
/- slices.Compact[[]string,string] -/
def d4b:a0m :=
 (.seq (.reg (tm 2 (.c .nil) .done))
 (.seq (.seq (.reg (tm 6 (.t 0) (tq 7 (.len (.t 6)) (tq 8 (.bin .lss (.t 7) (.c (.int .i64 2))) .done))))
 (.cond (.t 8) (.seq (.reg (tm 9 (.t 0) (tm 2 (.t 9) .done)))
 .ret)
 .skip))
 (.seq (.seq (.reg (tm 3 (.c (.int .i64 1)) .done))
 (.block 0 (.loop (.seq (.seq (.reg (tm 10 (.t 3) (tm 11 (.t 0) (tq 12 (.len (.t 11)) (tq 13 (.bin .lss (.t 10) (.t 12)) .done)))))
 (.cond (.t 13) .skip
 (.exit 0)))
 (.seq (.block 1 (.seq (.reg (tm 16 (.t 0) (tm 17 (.t 3) (tq 18 (.iaddr 1 (.t 16) (.t 17)) (tq 19 (.load 1 false (.t 18)) (tm 20 (.t 0) (tm 21 (.t 3) (tq 22 (.bin .sub (.t 21) (.c (.int .i64 1))) (tq 23 (.iaddr 1 (.t 20) (.t 22)) (tq 24 (.load 1 false (.t 23)) (tq 25 (.bin .eql (.t 19) (.t 24)) .done)))))))))))
 (.cond (.t 25) (.seq (.reg (tm 26 (.t 0) (tm 27 (.t 3) (tq 28 (.slice 1 (.t 26) (some (.t 27)) none) (tm 4 (.t 28) .done)))))
 (.seq (.seq (.reg (tm 5 (.c (.int .i64 1)) .done))
 (.block 2 (.loop (.seq (.seq (.reg (tm 29 (.t 5) (tm 30 (.t 4) (tq 31 (.len (.t 30)) (tq 32 (.bin .lss (.t 29) (.t 31)) .done)))))
 (.cond (.t 32) .skip
 (.exit 2)))
 (.seq (.block 3 (.seq (.reg (tm 35 (.t 4) (tm 36 (.t 5) (tq 37 (.iaddr 1 (.t 35) (.t 36)) (tq 38 (.load 1 false (.t 37)) (tm 39 (.t 4) (tm 40 (.t 5) (tq 41 (.bin .sub (.t 40) (.c (.int .i64 1))) (tq 42 (.iaddr 1 (.t 39) (.t 41)) (tq 43 (.load 1 false (.t 42)) (tq 44 (.bin .neq (.t 38) (.t 43)) .done)))))))))))
 (.cond (.t 44) (.seq (.reg (tm 45 (.t 0) (tm 46 (.t 3) (tm 47 (.t 4) (tm 48 (.t 5) (tq 49 (.iaddr 1 (.t 47) (.t 48)) (tq 50 (.load 1 false (.t 49)) (tq 51 (.iaddr 1 (.t 45) (.t 46)) (.q ⟨none,none,.store 1 (.t 51) (.t 50)⟩
 .done)))))))))
 (.reg (tm 52 (.t 3) (tq 53 (.bin .add (.t 52) (.c (.int .i64 1))) (tm 3 (.t 53) .done)))))
 .skip)))
 (.reg (tm 33 (.t 5) (tq 34 (.bin .add (.t 33) (.c (.int .i64 1))) (tm 5 (.t 34) .done)))))))))
 (.cut (.seq (.reg (tm 54 (.t 0) (tm 55 (.t 3) (tq 56 (.slice 1 (.t 54) (some (.t 55)) none) (.q ⟨none,none,.clr 1 (.str []) (.t 56)⟩
 .done)))))
 (.seq (.reg (tm 57 (.t 0) (tm 58 (.t 3) (tq 59 (.slice 1 (.t 57) none (some (.t 58))) (tm 2 (.t 59) .done)))))
 .ret)))))
 .skip)))
 (.reg (tm 14 (.t 3) (tq 15 (.bin .add (.t 14) (.c (.int .i64 1))) (tm 3 (.t 15) .done)))))))))
 (.cut (.seq (.reg (tm 60 (.t 0) (tm 2 (.t 60) .done)))
 .ret)))))
theorem d7s:a1a Tryz.prog Tryz.f199 = some (d4b.erase,[.mov (.t 2)],61):=by kernel_rfl
def a0o (s_1:(List Str)) (k_235:Nat):Nat → Int → Int → (List Str) → Option (Int × (List Str))
  | 0,_,_,_ => none
  | k + 1,k_439,k2_440,s_441 =>
    if (decide (k2_440 < (((s_1.length - k_235):Nat):Int))) then
    if (0:Int) ≤ k2_440 ∧ k2_440 < (((s_1.length - k_235):Nat):Int) then
    (s_441[(k_235 + k2_440.toNat)]?).bind fun x_461 =>
    if (0:Int) ≤ w64 (k2_440 - 1) ∧ w64 (k2_440 - 1) < (((s_1.length - k_235):Nat):Int) then
    (s_441[(k_235 + (w64 (k2_440 - 1)).toNat)]?).bind fun x_464 =>
    if (!(x_461 == x_464)) then
    if (0:Int) ≤ k2_440 ∧ k2_440 < (((s_1.length - k_235):Nat):Int) then
    if (0:Int) ≤ k_439 ∧ k_439 < (s_441.length:Int) then
    (s_441[(0 + k_439.toNat)]?).bind fun x_469 =>
    a0o s_1 k_235 k (w64 (k_439 + 1)) (w64 (k2_440 + 1)) (s_441.set (0 + k_439.toNat) x_461)
    else none
    else none
    else
    a0o s_1 k_235 k k_439 (w64 (k2_440 + 1)) s_441
    else none
    else none
    else
    some (k_439,s_441)

def a0u (s_1:(List Str)):List Str → Nat → Option (Fl (List Str) Unit)
  | [],k_235 =>
    some (.go ())
  | x_359 :: xs,k_235 =>
    if k_235 < s_1.length then
    if (0:Int) ≤ w64 ((k_235:Int) - 1) ∧ w64 ((k_235:Int) - 1) < (s_1.length:Int) then
    (s_1[(0 + (w64 ((k_235:Int) - 1)).toNat)]?).bind fun x_364 =>
    if (x_359 == x_364) then
    if (0:Int) ≤ (k_235:Int) ∧ (k_235:Int) ≤ (s_1.length:Int) then
    (a0o s_1 k_235 FUEL (k_235:Int) 1 s_1).bind fun p457 =>
    (match p457 with
    | (k_455,s_456) =>
    if (0:Int) ≤ k_455 ∧ k_455 ≤ (s_456.length:Int) then
    if (0:Int) ≤ k_455 ∧ k_455 ≤ (s_456.length:Int) then
    some (.ret ((s_456.take k_455.toNat ++ List.replicate (s_456.length - k_455.toNat) [] ++ s_456.drop (k_455.toNat + (s_456.length - k_455.toNat))).take k_455.toNat))
    else none
    else none)
    else none
    else
    a0u s_1 xs (k_235 + 1)
    else none
    else none

def a2j (s_1:(List Str)):Option (List Str) :=
    if (decide ((s_1.length:Int) < 2)) then
    some s_1
    else
    (a0u s_1 (s_1.drop 1) 1).bind fun q => (match q with
    | .ret r => some r
    | .go _ =>
    some s_1)
theorem a9s (s_1:(List Str)) (r:(List Str)) (hf:a2j s_1 = some r):a0z Tryz.prog true 199 [(.own 0 0 s_1.length)] [.row 1 (s_1.map AV.str)] (.own 1 0 r.length) [.dead,.row 1 (r.map AV.str)]:=by
 refine a0z.of_awp mixed Tryz.func199 d7s nle ?_;rw [a0j];unfold a2j at hf;unfold d4b;refine (show awp Tryz.prog true 1 _ (ofL [(0,(.own 0 0 s_1.length))]) [.row 1 (s_1.map AV.str)] _ from ?_);refine sr<|l7 .nil rfl<|dk<|o6<|sr<|l7 (.own 0 0 s_1.length) rfl<|a0w (a6s rfl rfl) fun hl2 => x8 (.bool (decide ((s_1.length:Int) < 2))) rfl rfl rfl<|dk<|?_
 rcases oi hf with ⟨c3,hf⟩ | ⟨c3,hf⟩
 ·refine y7 rfl c3<|sr<|l7 (.own 0 0 s_1.length) rfl<|l7 (.own 0 0 s_1.length) rfl<|dk<|a0d<|?_;obtain rfl:=os hf;exact a7t [.mv 0] [0,1] rfl ⟨trivial,trivial⟩ rfl (.refl _) (.refl _)
 ·refine y8 rfl (bf c3)<|a0h<|a0f<|o6<|sr<|l7 (.int .i64 1) rfl<|dk<|?_
  obtain ⟨p352,hb1,hf⟩:=ob hf
  refine a4n (X:={q:Unit // p352 = .go q}) (fun q => ([(0,(.own 0 0 s_1.length))],[.row 1 (s_1.map AV.str)])) ?_ ?_
  ·refine a1g (X:={q:Nat // a0u s_1 (s_1.drop q) q = some p352}) (fun q => ([(0,(.own 0 0 s_1.length)),(3,(.int .i64 (q.1:Int)))],[.row 1 (s_1.map AV.str)])) (fun q => s_1.length - q.1) ⟨1,hb1⟩ ⟨[],[0],_,_,rfl,rfl,⟨.refl _,⟨.refl _,trivial⟩⟩,(.refl _)⟩ ?_
   rintro ⟨k_235,hc1⟩
   have hc1:a0u s_1 (s_1.drop k_235) k_235 = some p352:=hc1
   refine (show awp Tryz.prog true 1 _ (ofL [(0,(.own 0 0 s_1.length)),(3,(.int .i64 (k_235:Int)))]) [.row 1 (s_1.map AV.str)] _ from ?_)
   rcases a5z s_1 k_235 with ⟨hie355,hd358⟩ | ⟨hlt353,x_359,hx354,hd358⟩
   ·rw [hd358,a0u.eq_1] at hc1
    have hq357:=dlf hie355
    refine o6<|sr<|l7 (.int .i64 (k_235:Int)) rfl<|l7 (.own 0 0 s_1.length) rfl<|a0w (a6s rfl rfl) fun hl360 => x8 (.bool (decide ((k_235:Int) < (s_1.length:Int)))) rfl rfl rfl<|dk<|y8 rfl hq357<|a2t<|a2s<|a1y<|a2r<|?_;obtain rfl:=os hc1;exact a6r ⟨_,rfl⟩ ⟨[],[0],_,_,rfl,rfl,⟨.refl _,trivial⟩,(.refl _)⟩
   ·rw [hd358,a0u.eq_2] at hc1
    have hq357:=dlt hlt353
    refine o6<|sr<|l7 (.int .i64 (k_235:Int)) rfl<|l7 (.own 0 0 s_1.length) rfl<|a0w (a6s rfl rfl) fun hl361 => x8 (.bool (decide ((k_235:Int) < (s_1.length:Int)))) rfl rfl rfl<|dk<|y7 rfl hq357<|a0h<|a0f<|o6<|a3g<|sr<|?_
    obtain ⟨g362,hc1⟩:=og hc1
    obtain ⟨g363,hc1⟩:=og hc1
    obtain ⟨x_364,ex365,hc1⟩:=ob hc1
    refine l7 (.own 0 0 s_1.length) rfl<|l7 (.int .i64 (k_235:Int)) rfl<|y5 (b1o rfl rfl g362 rfl rfl)<|y5 (a6c (enc:=AV.str) (v:=(.str x_359)) rfl rfl hx354 ⟨rfl,rfl⟩ rfl)<|l7 (.own 0 0 s_1.length) rfl<|l7 (.int .i64 (k_235:Int)) rfl<|x8 (.int .i64 (w64 ((k_235:Int) - 1))) rfl rfl rfl<|y5 (a1v rfl rfl g363.1 g363.2 rfl rfl)<|y5 (a6c (enc:=AV.str) (v:=(.str x_364)) rfl rfl ex365 ⟨rfl,rfl⟩ rfl)<|x8 (.bool (x_359 == x_364)) rfl trivial rfl<|dk<|?_
    rcases oi hc1 with ⟨c366,hc1⟩ | ⟨c366,hc1⟩
    ·refine y7 rfl c366<|sr<|?_
     obtain ⟨g367,hc1⟩:=og hc1
     refine l7 (.own 0 0 s_1.length) rfl<|l7 (.int .i64 (k_235:Int)) rfl<|y5 (c4m rfl rfl rfl g367.1 g367.2)<|l7 (.own 0 k_235 (s_1.length - k_235)) rfl<|dk<|o6<|sr<|l7 (.int .i64 1) rfl<|dk<|?_
     obtain ⟨p457,hb2,hc1⟩:=ob hc1
     refine a2a ([(0,(.own 0 0 p457.2.length)),(3,(.int .i64 p457.1))],[.row 1 (p457.2.map AV.str)]) ?_ ?_
     ·refine a1g (X:={q:(Nat × Int × Int × (List Str)) // a0o s_1 k_235 q.1 q.2.1 q.2.2.1 q.2.2.2 = some p457}) (fun q => ([(0,(.own 0 0 q.1.2.2.2.length)),(3,(.int .i64 q.1.2.1)),(4,(.own 0 k_235 (s_1.length - k_235))),(5,(.int .i64 q.1.2.2.1))],[.row 1 (q.1.2.2.2.map AV.str)])) (fun q => q.1.1) ⟨(FUEL,(k_235:Int),1,s_1),hb2⟩ ⟨[],[0],_,_,rfl,rfl,⟨.refl _,⟨.refl _,⟨.refl _,⟨.refl _,trivial⟩⟩⟩⟩,(.refl _)⟩ ?_
      rintro ⟨⟨k,k_439,k2_440,s_441⟩,hc2⟩
      have hc2:a0o s_1 k_235 k k_439 k2_440 s_441 = some p457:=hc2
      refine (show awp Tryz.prog true 1 _ (ofL [(0,(.own 0 0 s_441.length)),(3,(.int .i64 k_439)),(4,(.own 0 k_235 (s_1.length - k_235))),(5,(.int .i64 k2_440))]) [.row 1 (s_441.map AV.str)] _ from ?_)
      rcases k with _ | k
      ·rw [a0o.eq_1] at hc2
       cases hc2
      ·rw [a0o.eq_2] at hc2;refine o6<|sr<|l7 (.int .i64 k2_440) rfl<|l7 (.own 0 k_235 (s_1.length - k_235)) rfl<|a0w (a6s rfl rfl) fun hl458 => x8 (.bool (decide (k2_440 < (((s_1.length - k_235):Nat):Int)))) rfl rfl rfl<|dk<|?_
       rcases oi hc2 with ⟨c459,hc2⟩ | ⟨c459,hc2⟩
       ·refine y7 rfl c459<|a0h<|a0f<|o6<|a3g<|sr<|?_
        obtain ⟨g460,hc2⟩:=og hc2
        obtain ⟨x_461,ex462,hc2⟩:=ob hc2
        obtain ⟨g463,hc2⟩:=og hc2
        obtain ⟨x_464,ex465,hc2⟩:=ob hc2
        refine l7 (.own 0 k_235 (s_1.length - k_235)) rfl<|l7 (.int .i64 k2_440) rfl<|y5 (a1v rfl rfl g460.1 g460.2 rfl rfl)<|y5 (a6c (enc:=AV.str) (v:=(.str x_461)) rfl rfl ex462 ⟨rfl,rfl⟩ rfl)<|l7 (.own 0 k_235 (s_1.length - k_235)) rfl<|l7 (.int .i64 k2_440) rfl<|x8 (.int .i64 (w64 (k2_440 - 1))) rfl rfl rfl<|y5 (a1v rfl rfl g463.1 g463.2 rfl rfl)<|y5 (a6c (enc:=AV.str) (v:=(.str x_464)) rfl rfl ex465 ⟨rfl,rfl⟩ rfl)<|x8 (.bool (!(x_461 == x_464))) rfl trivial rfl<|dk<|?_
        rcases oi hc2 with ⟨c466,hc2⟩ | ⟨c466,hc2⟩
        ·refine y7 rfl c466<|sr<|?_
         obtain ⟨g467,hc2⟩:=og hc2
         obtain ⟨g468,hc2⟩:=og hc2
         obtain ⟨x_469,ex470,hc2⟩:=ob hc2
         refine l7 (.own 0 0 s_441.length) rfl<|l7 (.int .i64 k_439) rfl<|l7 (.own 0 k_235 (s_1.length - k_235)) rfl<|l7 (.int .i64 k2_440) rfl<|y5 (a1v rfl rfl g467.1 g467.2 rfl rfl)<|y5 (a6c (enc:=AV.str) (v:=(.str x_461)) rfl rfl ex462 ⟨rfl,rfl⟩ rfl)<|y5 (a1v rfl rfl g468.1 g468.2 rfl rfl)<|?_;refine a2i (a5y (v':=(.str x_461)) (e':=x_461) rfl rfl ex470 rfl rfl rfl (by decide) (fun _ => by decide) ⟨rfl,rfl,rfl⟩ (.refl _) rfl) ?_;refine dk<|a0s<|l7 (.int .i64 k_439) rfl<|x8 (.int .i64 (w64 (k_439 + 1))) rfl rfl rfl<|l7 (.int .i64 (w64 (k_439 + 1))) rfl<|a0b<|a3f<|a0f<|a0s<|l7 (.int .i64 k2_440) rfl<|?_
         refine x8 (.int .i64 (w64 (k2_440 + 1))) rfl rfl rfl<|l7 (.int .i64 (w64 (k2_440 + 1))) rfl<|a0b<|?_;exact a1q ⟨(k,w64 (k_439 + 1),w64 (k2_440 + 1),s_441.set (0 + k_439.toNat) x_461),hc2⟩ (Nat.lt_succ_self _) ⟨[],[0],_,_,rfl,rfl,⟨.of_eq (congrArg (AV.own _ 0) (by simp)),⟨.refl _,⟨.refl _,⟨.refl _,trivial⟩⟩⟩⟩,(.refl _)⟩
        ·refine y8 rfl (bf c466)<|a0h<|a3f<|a0f<|a0s<|l7 (.int .i64 k2_440) rfl<|x8 (.int .i64 (w64 (k2_440 + 1))) rfl rfl rfl<|l7 (.int .i64 (w64 (k2_440 + 1))) rfl<|a0b<|?_;exact a1q ⟨(k,k_439,w64 (k2_440 + 1),s_441),hc2⟩ (Nat.lt_succ_self _) ⟨[],[0],_,_,rfl,rfl,⟨.refl _,⟨.refl _,⟨.refl _,⟨.refl _,trivial⟩⟩⟩⟩,(.refl _)⟩
       ·refine y8 rfl (bf c459)<|a2t<|a2s<|a1y<|a2r<|?_;obtain rfl:=os hc2;exact ⟨[],[0],_,_,rfl,rfl,⟨.refl _,⟨.refl _,trivial⟩⟩,(.refl _)⟩
     ·obtain ⟨k_455,s_456⟩:=p457
      refine sr<|?_
      obtain ⟨g471,hc1⟩:=og hc1
      refine l7 (.own 0 0 s_456.length) rfl<|l7 (.int .i64 k_455) rfl<|y5 (c4m rfl rfl rfl g471.1 g471.2)<|a2i (e1u (enc:=AV.str) (y:=[]) rfl rfl (.refl _) rfl)<|dk<|sr<|?_
      obtain ⟨g472,hc1⟩:=og hc1
      refine l7 (.own 0 0 s_456.length) rfl<|l7 (.int .i64 k_455) rfl<|y5 (c9a rfl rfl rfl g472.1 g472.2)<|l7 (.own 0 0 k_455.toNat) rfl<|dk<|a0d<|?_;obtain rfl:=os hc1;obtain rfl:=os hf;exact a7t [.trim 2] [0,1] rfl ⟨trivial,trivial⟩ rfl ((.cons (.refl _) (.cons ((LeO.tk (enc:=AV.str) (s_456.take k_455.toNat ++ List.replicate (s_456.length - k_455.toNat) [] ++ s_456.drop (k_455.toNat + (s_456.length - k_455.toNat))) _)) .nil))) (.of_eq (congrArg (AV.own _ 0) (by simp)))
    ·refine y8 rfl (bf c366)<|a0h<|a3f<|a0f<|a0s<|l7 (.int .i64 (k_235:Int)) rfl<|x8 (.int .i64 (w64 ((k_235:Int) + 1))) rfl rfl rfl<|l7 (.int .i64 (w64 ((k_235:Int) + 1))) rfl<|a0b<|?_;exact a1q ⟨(k_235 + 1),hc1⟩ (mul hlt353) ⟨[],[0],_,_,rfl,rfl,⟨.refl _,⟨.of_eq (congrArg (AV.int _) (a1w hlt353 hl361)),trivial⟩⟩,(.refl _)⟩
  ·rintro ⟨_,rfl⟩
   refine sr<|l7 (.own 0 0 s_1.length) rfl<|l7 (.own 0 0 s_1.length) rfl<|dk<|a0d<|?_;obtain rfl:=os hf;exact a7t [.mv 0] [0,1] rfl ⟨trivial,trivial⟩ rfl (.refl _) (.refl _)

/- impl.jsNumber -/
def e4y:a0m :=
 (.seq (.reg (tq 2 (.box 5 (.c (.agg [(.int .i64 0),(.int .i64 0),(.str []),.nil,.nil]))) .done))
 (.seq (.reg (tm 3 (.t 0) (tq 4 (.build [(.int .i64 0),(.int .i64 0),(.str []),.nil,.nil] [(0,1,(.c (.int .i64 2))),(1,1,(.t 3))]) (.q ⟨none,none,.store 5 (.t 2) (.t 4)⟩
 .done))))
 .ret))
theorem e4z:a1a Tryz.prog Tryz.f223 = some (e4y.erase,[.load 5 true (.t 2)],5):=by kernel_rfl
def b1i (n_1:Int):Option o8 :=
    some (⟨2,n_1,[],[],[]⟩:o8)
theorem b5k (n_1:Int) (r:o8) (hf:b1i n_1 = some r):x9 Tryz.prog 223 .fresh [(.int .i64 n_1)] (o5 r):=by
  refine x9.of_awp mixed Tryz.func223 e4z nle ?_
  rw [a0j]
  unfold b1i at hf
  unfold e4y
  refine (show awp Tryz.prog true 0 _ (ofL [(0,(.int .i64 n_1))]) [] _ from ?_)
  refine o6 ?_
  refine a0s ?_
  refine y5 (a1i (j:=0) (c:=(.agg [(.int .i64 0),(.int .i64 0),(.str []),.nil,.nil])) rfl trivial rfl rfl) ?_
  refine a0b ?_
  refine a0f ?_
  refine o6 ?_
  refine a0s ?_
  refine y5 (a2x (.int .i64 n_1) rfl) ?_
  refine y5 (o_q (.agg [(.int .i64 2),(.int .i64 n_1),(.str []),.nil,.nil]) rfl ⟨⟨rfl,nle,trivial⟩,⟨⟨rfl,nle,trivial⟩,trivial⟩⟩ rfl) ?_
  refine a2i (a0c (v:=(.agg [(.int .i64 2),(.int .i64 n_1),(.str []),.nil,.nil])) (y':=(.agg [(.int .i64 2),(.int .i64 n_1),(.str []),.nil,.nil])) rfl rfl rfl trivial ⟨rfl,nle⟩ ⟨⟨rfl,trivial⟩,⟨⟨rfl,trivial⟩,⟨⟨rfl,trivial⟩,⟨⟨rfl,trivial⟩,⟨⟨rfl,trivial⟩,trivial⟩⟩⟩⟩⟩ rfl) ?_
  refine a0b ?_
  refine a0f ?_
  refine a0d ?_
  obtain rfl:=os hf
  exact a2k ⟨nle,trivial⟩ rfl (by decide) (leJ (x:=(⟨2,n_1,[],[],[]⟩:o8)) (.agg (.cons (.refl _) (.cons (.refl _) (.cons (.refl _) (.cons (.nil _) (.cons (.nil _) .nil)))))))

/- impl.jsText -/
def e5a:a0m :=
 (.seq (.reg (tq 2 (.box 5 (.c (.agg [(.int .i64 0),(.int .i64 0),(.str []),.nil,.nil]))) .done))
 (.seq (.reg (tm 3 (.t 0) (tq 4 (.build [(.int .i64 0),(.int .i64 0),(.str []),.nil,.nil] [(0,1,(.c (.int .i64 3))),(2,1,(.t 3))]) (.q ⟨none,none,.store 5 (.t 2) (.t 4)⟩
 .done))))
 .ret))
theorem e5b:a1a Tryz.prog Tryz.f220 = some (e5a.erase,[.load 5 true (.t 2)],5):=by kernel_rfl
def b1t (t_1:Str):Option o8 :=
    some (⟨3,0,t_1,[],[]⟩:o8)
theorem b3r (t_1:Str) (r:o8) (hf:b1t t_1 = some r):x9 Tryz.prog 220 .fresh [(.str t_1)] (o5 r):=by
  refine x9.of_awp mixed Tryz.func220 e5b nle ?_
  rw [a0j]
  unfold b1t at hf
  unfold e5a
  refine (show awp Tryz.prog true 0 _ (ofL [(0,(.str t_1))]) [] _ from ?_)
  refine o6 ?_
  refine a0s ?_
  refine y5 (a1i (j:=0) (c:=(.agg [(.int .i64 0),(.int .i64 0),(.str []),.nil,.nil])) rfl trivial rfl rfl) ?_
  refine a0b ?_
  refine a0f ?_
  refine o6 ?_
  refine a0s ?_
  refine y5 (a2x (.str t_1) rfl) ?_
  refine y5 (o_q (.agg [(.int .i64 3),(.int .i64 0),(.str t_1),.nil,.nil]) rfl ⟨⟨rfl,nle,trivial⟩,⟨⟨rfl,nle,trivial⟩,trivial⟩⟩ rfl) ?_
  refine a2i (a0c (v:=(.agg [(.int .i64 3),(.int .i64 0),(.str t_1),.nil,.nil])) (y':=(.agg [(.int .i64 3),(.int .i64 0),(.str t_1),.nil,.nil])) rfl rfl rfl trivial ⟨rfl,nle⟩ ⟨⟨rfl,trivial⟩,⟨⟨rfl,trivial⟩,⟨⟨rfl,trivial⟩,⟨⟨rfl,trivial⟩,⟨⟨rfl,trivial⟩,trivial⟩⟩⟩⟩⟩ rfl) ?_
  refine a0b ?_
  refine a0f ?_
  refine a0d ?_
  obtain rfl:=os hf
  exact a2k ⟨nle,trivial⟩ rfl (by decide) (leJ (x:=(⟨3,0,t_1,[],[]⟩:o8)) (.agg (.cons (.refl _) (.cons (.refl _) (.cons (.refl _) (.cons (.nil _) (.cons (.nil _) .nil)))))))

/- impl.jsBool -/
def e5c:a0m :=
 (.seq (.reg (tq 2 (.box 5 (.c (.agg [(.int .i64 0),(.int .i64 0),(.str []),.nil,.nil]))) .done))
 (.seq (.seq (.reg (tm 3 (.t 0) .done))
 (.cond (.t 3) (.seq (.reg (tq 4 (.build [(.int .i64 0),(.int .i64 0),(.str []),.nil,.nil] [(0,1,(.c (.int .i64 1))),(1,1,(.c (.int .i64 1)))]) (.q ⟨none,none,.store 5 (.t 2) (.t 4)⟩
 .done)))
 .ret)
 .skip))
 (.seq (.reg (tq 5 (.build [(.int .i64 0),(.int .i64 0),(.str []),.nil,.nil] [(0,1,(.c (.int .i64 1)))]) (.q ⟨none,none,.store 5 (.t 2) (.t 5)⟩
 .done)))
 .ret)))
theorem e5d:a1a Tryz.prog Tryz.f235 = some (e5c.erase,[.load 5 true (.t 2)],6):=by kernel_rfl
def b1u (holds_1:Bool):Option o8 :=
    if holds_1 then
    some (⟨1,1,[],[],[]⟩:o8)
    else
    some (⟨1,0,[],[],[]⟩:o8)
theorem c6j (holds_1:Bool) (r:o8) (hf:b1u holds_1 = some r):x9 Tryz.prog 235 .fresh [(.bool holds_1)] (o5 r):=by
 refine x9.of_awp mixed Tryz.func235 e5d nle ?_;rw [a0j];unfold b1u at hf;unfold e5c;refine (show awp Tryz.prog true 0 _ (ofL [(0,(.bool holds_1))]) [] _ from ?_);refine sr<|y5 (a1i (j:=0) (c:=(.agg [(.int .i64 0),(.int .i64 0),(.str []),.nil,.nil])) rfl trivial rfl rfl)<|dk<|o6<|sr<|l7 (.bool holds_1) rfl<|dk<|?_
 rcases oi hf with ⟨c2,hf⟩ | ⟨c2,hf⟩
 ·refine y7 rfl c2<|sr<|x8 (.agg [(.int .i64 1),(.int .i64 1),(.str []),.nil,.nil]) rfl ⟨⟨rfl,nle,trivial⟩,⟨⟨rfl,nle,trivial⟩,trivial⟩⟩ rfl<|a2i (a0c (v:=(.agg [(.int .i64 1),(.int .i64 1),(.str []),.nil,.nil])) (y':=(.agg [(.int .i64 1),(.int .i64 1),(.str []),.nil,.nil])) rfl rfl rfl trivial ⟨rfl,nle⟩ ⟨⟨rfl,trivial⟩,⟨⟨rfl,trivial⟩,⟨⟨rfl,trivial⟩,⟨⟨rfl,trivial⟩,⟨⟨rfl,trivial⟩,trivial⟩⟩⟩⟩⟩ rfl)<|dk<|a0d<|?_;obtain rfl:=os hf;exact a2k ⟨nle,trivial⟩ rfl (by decide) (leJ (x:=(⟨1,1,[],[],[]⟩:o8)) (.agg (.cons (.refl _) (.cons (.refl _) (.cons (.refl _) (.cons (.nil _) (.cons (.nil _) .nil)))))))
 ·refine y8 rfl (bf c2)<|a0h<|a0f<|sr<|x8 (.agg [(.int .i64 1),(.int .i64 0),(.str []),.nil,.nil]) rfl ⟨⟨rfl,nle,trivial⟩,trivial⟩ rfl<|a2i (a0c (v:=(.agg [(.int .i64 1),(.int .i64 0),(.str []),.nil,.nil])) (y':=(.agg [(.int .i64 1),(.int .i64 0),(.str []),.nil,.nil])) rfl rfl rfl trivial ⟨rfl,nle⟩ ⟨⟨rfl,trivial⟩,⟨⟨rfl,trivial⟩,⟨⟨rfl,trivial⟩,⟨⟨rfl,trivial⟩,⟨⟨rfl,trivial⟩,trivial⟩⟩⟩⟩⟩ rfl)<|dk<|a0d<|?_;obtain rfl:=os hf;exact a2k ⟨nle,trivial⟩ rfl (by decide) (leJ (x:=(⟨1,0,[],[],[]⟩:o8)) (.agg (.cons (.refl _) (.cons (.refl _) (.cons (.refl _) (.cons (.nil _) (.cons (.nil _) .nil)))))))

/- impl.jsList -/
def d4c:a0m :=
 (.seq (.reg (tq 2 (.box 5 (.c (.agg [(.int .i64 0),(.int .i64 0),(.str []),.nil,.nil]))) .done))
 (.seq (.reg (tm 3 (.t 0) (tq 4 (.build [(.int .i64 0),(.int .i64 0),(.str []),.nil,.nil] [(0,1,(.c (.int .i64 4))),(4,1,(.t 3))]) (.q ⟨none,none,.store 5 (.t 2) (.t 4)⟩
 .done))))
 .ret))
theorem d7t:a1a Tryz.prog Tryz.f222 = some (d4c.erase,[.load 5 true (.t 2)],5):=by kernel_rfl
def a7z (list_1:(List o8)):Option o8 :=
    some (⟨4,0,[],[],list_1⟩:o8)
theorem c0x (list_1:(List o8)) (r:o8) (hf:a7z list_1 = some r):a0z Tryz.prog true 222 [(.own 0 0 list_1.length)] [.row 5 (list_1.map o5)] (.agg [(.int .i64 r.Kind),(.int .i64 r.N),(.str r.T),(.own 1 0 r.Keys.length),(.own 2 0 r.Items.length)]) [.dead,.row 1 (r.Keys.map AV.str),.row 5 (r.Items.map o5)]:=by
 refine a0z.of_awp mixed Tryz.func222 d7t nle ?_;rw [a0j];unfold a7z at hf;unfold d4c;refine (show awp Tryz.prog true 1 _ (ofL [(0,(.own 0 0 list_1.length))]) [.row 5 (list_1.map o5)] _ from ?_);refine sr<|y5 (a1i (j:=1) (c:=(.agg [(.int .i64 0),(.int .i64 0),(.str []),.nil,.nil])) rfl trivial rfl rfl)<|dk<|sr<|l7 (.own 0 0 list_1.length) rfl<|x8 (.agg [(.int .i64 4),(.int .i64 0),(.str []),.nil,(.own 0 0 list_1.length)]) rfl ⟨⟨rfl,nle,trivial⟩,⟨⟨rfl,nle,trivial⟩,trivial⟩⟩ rfl<|a2i (a0c (v:=(.agg [(.int .i64 4),(.int .i64 0),(.str []),.nil,(.own 0 0 list_1.length)])) (y':=(.agg [(.int .i64 4),(.int .i64 0),(.str []),.nil,(.own 0 0 list_1.length)])) rfl rfl rfl trivial ⟨rfl,nle⟩ ⟨⟨rfl,trivial⟩,⟨⟨rfl,trivial⟩,⟨⟨rfl,trivial⟩,⟨⟨rfl,trivial⟩,⟨⟨rfl,trivial⟩,trivial⟩⟩⟩⟩⟩ rfl)<|?_
 refine dk<|a0d<|?_;obtain rfl:=os hf;exact a7t [.nilC 1 3 1,.mv 0] [0,2,3] rfl ⟨nle,trivial⟩ rfl (.refl _) (.refl _)

/- impl.atomJson -/
def e5e:a0m :=
 (.seq (.reg (tq 1 (.box 3 (.t 0)) (tq 2 (.box 5 (.c (.agg [(.int .i64 0),(.int .i64 0),(.str []),.nil,.nil]))) .done)))
 (.seq (.seq (.reg (tq 3 (.faddr 0 (.t 1)) (tq 4 (.load 1 false (.t 3)) .done)))
 (.block 0 (.seq (.reg (tq 6 (.bin .eql (.t 4) (.c (.int .i64 1))) (tm 5 (.t 6) .done)))
 (.cond (.t 5) (.seq (.reg (tq 7 (.faddr 1 (.t 1)) (tq 8 (.load 1 false (.t 7)) (tq 9 (.call 223 [(.t 8)]) (.q ⟨none,none,.store 5 (.t 2) (.t 9)⟩
 .done)))))
 .ret)
 (.seq (.reg (tq 11 (.bin .eql (.t 4) (.c (.int .i64 2))) (tm 10 (.t 11) .done)))
 (.cond (.t 10) (.seq (.reg (tq 12 (.faddr 2 (.t 1)) (tq 13 (.load 1 false (.t 12)) (tq 14 (.call 220 [(.t 13)]) (.q ⟨none,none,.store 5 (.t 2) (.t 14)⟩
 .done)))))
 .ret)
 (.seq (.reg (tq 16 (.bin .eql (.t 4) (.c (.int .i64 3))) (tm 15 (.t 16) .done)))
 (.cond (.t 15) (.seq (.reg (tq 17 (.faddr 1 (.t 1)) (tq 18 (.load 1 false (.t 17)) (tq 19 (.bin .eql (.t 18) (.c (.int .i64 1))) (tq 20 (.call 235 [(.t 19)]) (.q ⟨none,none,.store 5 (.t 2) (.t 20)⟩
 .done))))))
 .ret)
 .skip))))))))
 (.seq (.reg (tq 22 (.faddr 1 (.t 1)) (tq 23 (.load 1 false (.t 22)) (.l ⟨(some 21),none,.call 220 [(.c (.str [117,117,105,100]))]⟩ [⟨(some 23),none,.load 1 false (.t 22)⟩,⟨(some 22),none,.faddr 1 (.t 1)⟩]
 (.l ⟨(some 24),none,.call 223 [(.t 23)]⟩ []
 (.l ⟨(some 25),none,.bslice 5 [(.t 21),(.t 24)]⟩ []
 (.l ⟨(some 26),none,.call 222 [(.t 25)]⟩ []
 (.l ⟨none,none,.store 5 (.t 2) (.t 26)⟩ []
 .done .non) .non) .non) .non) .non))))
 .ret)))
theorem e5f:a1a Tryz.prog Tryz.f136 = some (e5e.erase,[.load 5 true (.t 2)],27):=by kernel_rfl
def a6k (a_1:a0a):Option o8 :=
    if (a_1.Kind == 1) then
    (b1i a_1.N).bind fun r_3 =>
    some r_3
    else
    if (a_1.Kind == 2) then
    (b1t a_1.T).bind fun r_6 =>
    some r_6
    else
    if (a_1.Kind == 3) then
    (b1u (a_1.N == 1)).bind fun r_9 =>
    some r_9
    else
    (b1t [117,117,105,100]).bind fun r_11 =>
    (b1i a_1.N).bind fun r_13 =>
    (a7z [r_11,r_13]).bind fun r_15 =>
    some r_15
theorem c2s (a_1:a0a) (r:o8) (hf:a6k a_1 = some r):x9 Tryz.prog 136 .fresh [(l9 a_1)] (o5 r):=by
 refine x9.of_awp mixed Tryz.func136 e5f nle ?_;rw [a0j];unfold a6k at hf;unfold e5e;refine (show awp Tryz.prog true 0 _ (ofL [(0,(l9 a_1))]) [] _ from ?_);refine sr<|y5 (a1i (j:=0) (c:=(.agg [(.int .i64 a_1.Kind),(.int .i64 a_1.N),(.str a_1.T)])) rfl trivial rfl rfl)<|y5 (a1i (j:=1) (c:=(.agg [(.int .i64 0),(.int .i64 0),(.str []),.nil,.nil])) rfl trivial rfl rfl)<|dk<|o6<|sr<|x8 (.ptr 0 0 0) rfl trivial rfl<|x8 (.int .i64 a_1.Kind) rfl nle rfl<|dk<|a3g<|sr<|x8 (.bool (a_1.Kind == 1)) rfl rfl rfl<|l7 (.bool (a_1.Kind == 1)) rfl<|dk<|?_
 rcases oi hf with ⟨c2,hf⟩ | ⟨c2,hf⟩
 ·refine y7 rfl c2<|sr<|?_
  obtain ⟨r_3,er4,hf⟩:=ob hf
  refine x8 (.ptr 0 0 1) rfl trivial rfl<|x8 (.int .i64 a_1.N) rfl nle rfl<|y5 (a1m (v:=(.agg [(.int .i64 r_3.Kind),(.int .i64 r_3.N),(.str r_3.T),(.own 2 0 r_3.Keys.length),(.own 3 0 r_3.Items.length)])) (h':=[.row 1 (r_3.Keys.map AV.str),.row 5 (r_3.Items.map o5)]) (b5k _ _ er4) rfl (.refl _) (by simp only [a1e,a1c,List.length_map,y9,List.nil_append,List.append_nil,List.cons_append];rfl))<|a2i (a0c (v:=(.agg [(.int .i64 r_3.Kind),(.int .i64 r_3.N),(.str r_3.T),(.own 2 0 r_3.Keys.length),(.own 3 0 r_3.Items.length)])) (y':=(.agg [(.int .i64 r_3.Kind),(.int .i64 r_3.N),(.str r_3.T),(.own 2 0 r_3.Keys.length),(.own 3 0 r_3.Items.length)])) rfl rfl rfl trivial ⟨rfl,nle⟩ ⟨⟨rfl,trivial⟩,⟨⟨rfl,trivial⟩,⟨⟨rfl,trivial⟩,⟨⟨rfl,trivial⟩,⟨⟨rfl,trivial⟩,trivial⟩⟩⟩⟩⟩ rfl)<|?_
  refine dk<|a0d<|?_;obtain rfl:=os hf;exact a2k ⟨nle,trivial⟩ rfl (by decide) (leJ (x:=r_3) (.agg (.cons (.refl _) (.cons (.refl _) (.cons (.refl _) (.cons (.of_eq (congrArg (AV.lst _) (tk (enc:=AV.str) r_3.Keys))) (.cons (.of_eq (congrArg (AV.lst _) (tk (enc:=o5) r_3.Items))) .nil)))))))
 ·refine y8 rfl (bf c2)<|sr<|x8 (.bool (a_1.Kind == 2)) rfl rfl rfl<|l7 (.bool (a_1.Kind == 2)) rfl<|dk<|?_
  rcases oi hf with ⟨c5,hf⟩ | ⟨c5,hf⟩
  ·refine y7 rfl c5<|sr<|?_
   obtain ⟨r_6,er7,hf⟩:=ob hf
   refine x8 (.ptr 0 0 2) rfl trivial rfl<|x8 (.str a_1.T) rfl nle rfl<|y5 (a1m (v:=(.agg [(.int .i64 r_6.Kind),(.int .i64 r_6.N),(.str r_6.T),(.own 2 0 r_6.Keys.length),(.own 3 0 r_6.Items.length)])) (h':=[.row 1 (r_6.Keys.map AV.str),.row 5 (r_6.Items.map o5)]) (b3r _ _ er7) rfl (.refl _) (by simp only [a1e,a1c,List.length_map,y9,List.nil_append,List.append_nil,List.cons_append];rfl))<|a2i (a0c (v:=(.agg [(.int .i64 r_6.Kind),(.int .i64 r_6.N),(.str r_6.T),(.own 2 0 r_6.Keys.length),(.own 3 0 r_6.Items.length)])) (y':=(.agg [(.int .i64 r_6.Kind),(.int .i64 r_6.N),(.str r_6.T),(.own 2 0 r_6.Keys.length),(.own 3 0 r_6.Items.length)])) rfl rfl rfl trivial ⟨rfl,nle⟩ ⟨⟨rfl,trivial⟩,⟨⟨rfl,trivial⟩,⟨⟨rfl,trivial⟩,⟨⟨rfl,trivial⟩,⟨⟨rfl,trivial⟩,trivial⟩⟩⟩⟩⟩ rfl)<|?_
   refine dk<|a0d<|?_;obtain rfl:=os hf;exact a2k ⟨nle,trivial⟩ rfl (by decide) (leJ (x:=r_6) (.agg (.cons (.refl _) (.cons (.refl _) (.cons (.refl _) (.cons (.of_eq (congrArg (AV.lst _) (tk (enc:=AV.str) r_6.Keys))) (.cons (.of_eq (congrArg (AV.lst _) (tk (enc:=o5) r_6.Items))) .nil)))))))
  ·refine y8 rfl (bf c5)<|sr<|x8 (.bool (a_1.Kind == 3)) rfl rfl rfl<|l7 (.bool (a_1.Kind == 3)) rfl<|dk<|?_
   rcases oi hf with ⟨c8,hf⟩ | ⟨c8,hf⟩
   ·refine y7 rfl c8<|sr<|?_
    obtain ⟨r_9,er10,hf⟩:=ob hf
    refine x8 (.ptr 0 0 1) rfl trivial rfl<|x8 (.int .i64 a_1.N) rfl nle rfl<|x8 (.bool (a_1.N == 1)) rfl rfl rfl<|y5 (a1m (v:=(.agg [(.int .i64 r_9.Kind),(.int .i64 r_9.N),(.str r_9.T),(.own 2 0 r_9.Keys.length),(.own 3 0 r_9.Items.length)])) (h':=[.row 1 (r_9.Keys.map AV.str),.row 5 (r_9.Items.map o5)]) (c6j _ _ er10) rfl (.refl _) (by simp only [a1e,a1c,List.length_map,y9,List.nil_append,List.append_nil,List.cons_append];rfl))<|a2i (a0c (v:=(.agg [(.int .i64 r_9.Kind),(.int .i64 r_9.N),(.str r_9.T),(.own 2 0 r_9.Keys.length),(.own 3 0 r_9.Items.length)])) (y':=(.agg [(.int .i64 r_9.Kind),(.int .i64 r_9.N),(.str r_9.T),(.own 2 0 r_9.Keys.length),(.own 3 0 r_9.Items.length)])) rfl rfl rfl trivial ⟨rfl,nle⟩ ⟨⟨rfl,trivial⟩,⟨⟨rfl,trivial⟩,⟨⟨rfl,trivial⟩,⟨⟨rfl,trivial⟩,⟨⟨rfl,trivial⟩,trivial⟩⟩⟩⟩⟩ rfl)<|?_
    refine dk<|a0d<|?_;obtain rfl:=os hf;exact a2k ⟨nle,trivial⟩ rfl (by decide) (leJ (x:=r_9) (.agg (.cons (.refl _) (.cons (.refl _) (.cons (.refl _) (.cons (.of_eq (congrArg (AV.lst _) (tk (enc:=AV.str) r_9.Keys))) (.cons (.of_eq (congrArg (AV.lst _) (tk (enc:=o5) r_9.Items))) .nil)))))))
   ·refine y8 rfl (bf c8)<|a0h<|a3f<|a0f<|sr<|?_
    obtain ⟨r_11,er12,hf⟩:=ob hf
    obtain ⟨r_13,er14,hf⟩:=ob hf
    obtain ⟨r_15,er16,hf⟩:=ob hf
    refine x8 (.ptr 0 0 1) rfl trivial rfl<|x8 (.int .i64 a_1.N) rfl nle rfl<|a0r (a1m (v:=(.agg [(.int .i64 r_11.Kind),(.int .i64 r_11.N),(.str r_11.T),(.own 2 0 r_11.Keys.length),(.own 3 0 r_11.Items.length)])) (h':=[.row 1 (r_11.Keys.map AV.str),.row 5 (r_11.Items.map o5)]) (b3r _ _ er12) rfl (.refl _) (by simp only [a1e,a1c,List.length_map,y9,List.nil_append,List.append_nil,List.cons_append];rfl)) (.inr ⟨⟨nle,rfl⟩,⟨⟨trivial,rfl⟩,trivial⟩⟩) trivial<|a0r (a1m (v:=(.agg [(.int .i64 r_13.Kind),(.int .i64 r_13.N),(.str r_13.T),(.own 4 0 r_13.Keys.length),(.own 5 0 r_13.Items.length)])) (h':=[.row 1 (r_13.Keys.map AV.str),.row 5 (r_13.Items.map o5)]) (b5k _ _ er14) rfl (.refl _) (by simp only [a1e,a1c,List.length_map,y9,List.nil_append,List.append_nil,List.cons_append];rfl)) trivial trivial<|?_
    refine a0r (a1f (j:=6) (as':=[(o5 r_11),(o5 r_13)]) rfl (fun _ => by decide) ⟨rfl,⟨rfl,trivial⟩⟩ (.cons (leJ (x:=r_11) (.agg (.cons (.refl _) (.cons (.refl _) (.cons (.refl _) (.cons (.of_eq (congrArg (AV.lst _) (tk (enc:=AV.str) r_11.Keys))) (.cons (.of_eq (congrArg (AV.lst _) (tk (enc:=o5) r_11.Items))) .nil))))))) (.cons (leJ (x:=r_13) (.agg (.cons (.refl _) (.cons (.refl _) (.cons (.refl _) (.cons (.of_eq (congrArg (AV.lst _) (tk (enc:=AV.str) r_13.Keys))) (.cons (.of_eq (congrArg (AV.lst _) (tk (enc:=o5) r_13.Items))) .nil))))))) .nil)) rfl rfl rfl) trivial trivial ?_;refine a0r (b3j (v:=(.agg [(.int .i64 r_15.Kind),(.int .i64 r_15.N),(.str r_15.T),(.own 7 0 r_15.Keys.length),(.own 8 0 r_15.Items.length)])) (h2:=[.box 3 (.agg [(.int .i64 a_1.Kind),(.int .i64 a_1.N),(.str a_1.T)]),.box 5 (.agg [(.int .i64 0),(.int .i64 0),(.str []),.nil,.nil]),.dead,.dead,.dead,.dead,.dead,.row 1 (r_15.Keys.map AV.str),.row 5 (r_15.Items.map o5)]) [] [6] (fun _ => rfl) (c0x _ _ er16) rfl (.cons (.of_eq (congrArg (AV.own _ 0) (by simp))) .nil) (.refl _) rfl rfl) trivial trivial ?_
    refine a3i (a0c (v:=(.agg [(.int .i64 r_15.Kind),(.int .i64 r_15.N),(.str r_15.T),(.own 7 0 r_15.Keys.length),(.own 8 0 r_15.Items.length)])) (y':=(.agg [(.int .i64 r_15.Kind),(.int .i64 r_15.N),(.str r_15.T),(.own 7 0 r_15.Keys.length),(.own 8 0 r_15.Items.length)])) rfl rfl rfl trivial ⟨rfl,nle⟩ ⟨⟨rfl,trivial⟩,⟨⟨rfl,trivial⟩,⟨⟨rfl,trivial⟩,⟨⟨rfl,trivial⟩,⟨⟨rfl,trivial⟩,trivial⟩⟩⟩⟩⟩ rfl) trivial trivial<|dk<|a0d<|?_;obtain rfl:=os hf;exact a2k ⟨nle,trivial⟩ rfl (by decide) (leJ (x:=r_15) (.agg (.cons (.refl _) (.cons (.refl _) (.cons (.refl _) (.cons (.of_eq (congrArg (AV.lst _) (tk (enc:=AV.str) r_15.Keys))) (.cons (.of_eq (congrArg (AV.lst _) (tk (enc:=o5) r_15.Items))) .nil)))))))

/- impl.jsList -/
def d4d:a0m :=
 (.seq (.reg (tq 2 (.box 5 (.c (.agg [(.int .i64 0),(.int .i64 0),(.str []),.nil,.nil]))) .done))
 (.seq (.reg (tm 3 (.t 0) (tq 4 (.build [(.int .i64 0),(.int .i64 0),(.str []),.nil,.nil] [(0,1,(.c (.int .i64 4))),(4,1,(.t 3))]) (.q ⟨none,none,.store 5 (.t 2) (.t 4)⟩
 .done))))
 .ret))
theorem d7u:a1a Tryz.prog Tryz.f222 = some (d4d.erase,[.load 5 true (.t 2)],5):=by kernel_rfl
def b0o (list_1:(List o8)):Option o8 :=
    some (⟨4,0,[],[],list_1⟩:o8)
theorem b4c (list_1:(List o8)) (r:o8) (hf:b0o list_1 = some r):a0z Tryz.prog ⟨true,true,false⟩ 222 [(.own 0 0 list_1.length)] [.row 5 (list_1.map o5)] (.agg [(.int .i64 r.Kind),(.int .i64 r.N),(.str r.T),(.own 1 0 r.Keys.length),(.own 2 0 r.Items.length)]) [.dead,.row 1 (r.Keys.map AV.str),.row 5 (r.Items.map o5)]:=by
 refine a0z.of_awp mixed Tryz.func222 d7u nle ?_;rw [a0j];unfold b0o at hf;unfold d4d;refine (show awp Tryz.prog ⟨true,true,false⟩ 1 _ (ofL [(0,(.own 0 0 list_1.length))]) [.row 5 (list_1.map o5)] _ from ?_);refine sr<|y5 (a1i (j:=1) (c:=(.agg [(.int .i64 0),(.int .i64 0),(.str []),.nil,.nil])) rfl trivial rfl rfl)<|dk<|sr<|l7 (.own 0 0 list_1.length) rfl<|x8 (.agg [(.int .i64 4),(.int .i64 0),(.str []),.nil,(.own 0 0 list_1.length)]) rfl (.of ⟨⟨rfl,nle,trivial⟩,⟨⟨rfl,nle,trivial⟩,trivial⟩⟩ trivial) rfl<|a2i (a0c (v:=(.agg [(.int .i64 4),(.int .i64 0),(.str []),.nil,(.own 0 0 list_1.length)])) (y':=(.agg [(.int .i64 4),(.int .i64 0),(.str []),.nil,(.own 0 0 list_1.length)])) rfl rfl rfl trivial ⟨rfl,nle⟩ ⟨⟨rfl,trivial⟩,⟨⟨rfl,trivial⟩,⟨⟨rfl,trivial⟩,⟨⟨rfl,trivial⟩,⟨⟨rfl,trivial⟩,trivial⟩⟩⟩⟩⟩ rfl)<|?_
 refine dk<|a0d<|?_;obtain rfl:=os hf;exact a7t [.nilC 1 3 1,.mv 0] [0,2,3] rfl ⟨.of nle trivial,trivial⟩ rfl (.refl _) (.refl _)

/- impl.datumJson -/
def c130:a0m :=
 (.seq (.reg (tq 2 (.box 5 (.c (.agg [(.int .i64 0),(.int .i64 0),(.str []),.nil,.nil]))) .done))
 (.seq (.reg (tq 6 (.bslice 5 []) (tm 3 (.t 6) .done)))
 (.seq (.seq (.reg (tm 7 (.t 0) (tq 8 (.len (.t 7)) (tm 9 (.c (.int .i64 0)) .done))))
 (.block 0 (.loop (.seq (.reg (tq 10 (.bin .lss (.t 9) (.t 8)) .done))
 (.seq (.cond (.t 10) .skip
 (.exit 0))
 (.seq (.block 1 (.seq (.reg (tq 11 (.iaddr 3 (.t 7) (.t 9)) (tq 12 (.load 3 true (.t 11)) (tq 5 (.box 3 (.c (.agg [(.int .i64 0),(.int .i64 0),(.str [])]))) (.q ⟨none,none,.store 3 (.t 5) (.t 12)⟩
 .done)))))
 (.reg (tm 13 (.t 3) (tq 14 (.load 3 true (.t 5)) (tq 15 (.call 136 [(.t 14)]) (tq 16 (.bslice 5 [(.t 15)]) (tq 17 (.append 5 80 (.t 13) (.t 16)) (tm 3 (.t 17) .done)))))))))
 (.reg (tq 18 (.bin .add (.t 9) (.c (.int .i64 1))) (tm 9 (.t 18) .done)))))))))
 (.cut (.seq (.seq (.reg (tm 19 (.t 3) (tq 20 (.len (.t 19)) (tq 21 (.bin .eql (.t 20) (.c (.int .i64 1))) .done))))
 (.cond (.t 21) (.seq (.rev (.reg (tm 22 (.t 3) (tq 23 (.iaddr 5 (.t 22) (.c (.int .i64 0))) (tq 24 (.load 5 true (.t 23)) (.q ⟨none,none,.store 5 (.t 2) (.t 24)⟩
 .done))))))
 .ret)
 .skip))
 (.seq (.reg (tq 25 (.call 220 [(.c (.str [115,101,116]))]) (tm 26 (.t 3) (tq 27 (.call 222 [(.t 26)]) (tq 28 (.bslice 5 [(.t 25),(.t 27)]) (tq 29 (.call 222 [(.t 28)]) (.q ⟨none,none,.store 5 (.t 2) (.t 29)⟩
 .done)))))))
 .ret))))))
theorem e5g:a1a Tryz.prog Tryz.f130 = some (c130.erase,[.load 5 true (.t 2)],30):=by kernel_rfl
def a2g :List a0a → (List o8) → Option (List o8)
  | [],items_18 =>
    some items_18
  | x_33 :: xs,items_18 =>
    (a6k x_33).bind fun r_34 =>
    if (items_18 ++ [r_34]).length ≤ 2 ^ 30 then
    a2g xs  (items_18 ++ [r_34])
    else none

def a5m (d_1:(List a0a)):Option o8 :=
    (a2g d_1 []).bind fun items_25 =>
    if ((items_25.length:Int) == 1) then
    ((items_25[0]?)).bind fun x_40 =>
    if 0 < items_25.length then
    some x_40
    else none
    else
    (b1t [115,101,116]).bind fun r_43 =>
    (b0o items_25).bind fun r_45 =>
    (b0o [r_43,r_45]).bind fun r_47 =>
    some r_47
theorem c0y (d_1:(List a0a)) (r:o8) (hf:a5m d_1 = some r):x9 Tryz.prog 130 .fresh [(.lst 3 (d_1.map l9))] (o5 r):=by
 refine x9.of_awp' (md:=⟨true,true,true⟩) (fun _ => rfl) (fun _ => rfl) (fun h => by cases h) mixed Tryz.func130 e5g nle ?_;rw [a0j];unfold a5m at hf;unfold c130;refine (show awp Tryz.prog ⟨true,true,true⟩ 0 _ (ofL [(0,(.lst 3 (d_1.map l9)))]) [] _ from ?_);refine sr<|y5 (a1i (j:=0) (c:=(.agg [(.int .i64 0),(.int .i64 0),(.str []),.nil,.nil])) rfl trivial rfl rfl)<|dk<|sr<|?_;refine y5 (a1f (j:=1) (as':=[]) rfl (fun _ => by decide) trivial (.refl _) rfl rfl rfl) ?_;refine l7 (.own 1 0 0) rfl<|dk<|o6<|sr<|l7 (.lst 3 (d_1.map l9)) rfl<|a0w (a1r (enc:=l9) rfl) fun hl2 => ?_
 refine l7 (.int .i64 0) rfl<|dk<|?_
 obtain ⟨items_25,hb1,hf⟩:=ob hf
 refine a2a ([(2,(.ptr 0 0 0)),(3,(.own 1 0 items_25.length))],[.box 5 (.agg [(.int .i64 0),(.int .i64 0),(.str []),.nil,.nil]),.row 5 (items_25.map o5)]) ?_ ?_
 ·refine a1g (X:={q:(Nat × (List o8)) // a2g (d_1.drop q.1) q.2 = some items_25}) (fun q => ([(2,(.ptr 0 0 0)),(3,(.own 1 0 q.1.2.length)),(7,(.lst 3 (d_1.map l9))),(8,(.int .i64 (d_1.length:Int))),(9,(.int .i64 (q.1.1:Int)))],[.box 5 (.agg [(.int .i64 0),(.int .i64 0),(.str []),.nil,.nil]),.row 5 (q.1.2.map o5)])) (fun q => d_1.length - q.1.1) ⟨(0,[]),hb1⟩ ⟨[],[0,1],_,_,rfl,rfl,⟨.refl _,⟨.of_eq (congrArg (AV.own _ 0) (by simp)),⟨.refl _,⟨.refl _,⟨.refl _,trivial⟩⟩⟩⟩⟩,(.refl _)⟩ ?_
  rintro ⟨⟨s9_17,items_18⟩,hc1⟩
  have hc1:a2g (d_1.drop s9_17) items_18 = some items_25:=hc1
  refine (show awp Tryz.prog ⟨true,true,true⟩ 0 _ (ofL [(2,(.ptr 0 0 0)),(3,(.own 1 0 items_18.length)),(7,(.lst 3 (d_1.map l9))),(8,(.int .i64 (d_1.length:Int))),(9,(.int .i64 (s9_17:Int)))]) [.box 5 (.agg [(.int .i64 0),(.int .i64 0),(.str []),.nil,.nil]),.row 5 (items_18.map o5)] _ from ?_)
  rcases a5z d_1 s9_17 with ⟨hie29,hd32⟩ | ⟨hlt27,x_33,hx28,hd32⟩
  ·rw [hd32,a2g.eq_1] at hc1
   have hq31:=dlf hie29
   refine sr<|x8 (.bool (decide ((s9_17:Int) < (d_1.length:Int)))) rfl (.of rfl trivial) rfl<|dk<|o6<|y8 rfl hq31<|a2t<|a2s<|a1y<|a2r<|?_;obtain rfl:=os hc1;exact ⟨[],[0,1],_,_,rfl,rfl,⟨.refl _,⟨.refl _,trivial⟩⟩,(.refl _)⟩
  ·rw [hd32,a2g.eq_2] at hc1
   have hq31:=dlt hlt27
   refine sr<|x8 (.bool (decide ((s9_17:Int) < (d_1.length:Int)))) rfl (.of rfl trivial) rfl<|dk<|o6<|y7 rfl hq31<|a0h<|a0f<|o6<|a3g<|sr<|y5 (a2c (enc:=l9) rfl rfl hx28)<|x8 (l9 x_33) rfl (.of nle trivial) rfl<|y5 (a1i (j:=2) (c:=(.agg [(.int .i64 0),(.int .i64 0),(.str [])])) rfl trivial rfl rfl)<|a2i (a0c (v:=(.agg [(.int .i64 x_33.Kind),(.int .i64 x_33.N),(.str x_33.T)])) (y':=(.agg [(.int .i64 x_33.Kind),(.int .i64 x_33.N),(.str x_33.T)])) rfl rfl rfl trivial ⟨rfl,nle⟩ ⟨⟨rfl,trivial⟩,⟨⟨rfl,trivial⟩,⟨⟨rfl,trivial⟩,trivial⟩⟩⟩ rfl)<|dk<|a0s<|?_
   obtain ⟨r_34,er35,hc1⟩:=ob hc1
   obtain ⟨g36,hc1⟩:=og hc1
   refine l7 (.own 1 0 items_18.length) rfl<|x8 (.agg [(.int .i64 x_33.Kind),(.int .i64 x_33.N),(.str x_33.T)]) rfl (.of nle trivial) rfl<|y5 (a1m (v:=(.agg [(.int .i64 r_34.Kind),(.int .i64 r_34.N),(.str r_34.T),(.own 3 0 r_34.Keys.length),(.own 4 0 r_34.Items.length)])) (h':=[.row 1 (r_34.Keys.map AV.str),.row 5 (r_34.Items.map o5)]) (c2s _ _ er35) rfl (.refl _) (by simp only [a1e,a1c,List.length_map,y9,List.nil_append,List.append_nil,List.cons_append];rfl))<|?_;refine y5 (a1f (j:=5) (as':=[(o5 r_34)]) rfl (fun _ => by decide) ⟨rfl,trivial⟩ (.cons (leJ (x:=r_34) (.agg (.cons (.refl _) (.cons (.refl _) (.cons (.refl _) (.cons (.of_eq (congrArg (AV.lst _) (tk (enc:=AV.str) r_34.Keys))) (.cons (.of_eq (congrArg (AV.lst _) (tk (enc:=o5) r_34.Items))) .nil))))))) .nil) rfl rfl rfl) ?_
   refine y5 (a3u (j:=6) (L:=((items_18 ++ [r_34]).map o5)) (len:=(items_18 ++ [r_34]).length) rfl true rfl rfl (fun h => Bool.noConfusion h) (fun _ _ h => (d7j (show AV.own _ _ _ = AV.lst _ _ from h)).elim) (by decide) (c4n (enc:=o5) items_18 [r_34] _ (by rfl)) (by simp <;> omega) g36 rfl rfl) ?_
   refine l7 (.own 6 0 ((items_18 ++ [r_34]).length)) rfl<|a0b<|a3f<|a0f<|a0s<|x8 (.int .i64 (w64 ((s9_17:Int) + 1))) rfl (.of rfl trivial) rfl<|l7 (.int .i64 (w64 ((s9_17:Int) + 1))) rfl<|a0b<|?_;exact a1q ⟨((s9_17 + 1),items_18 ++ [r_34]),hc1⟩ (mul hlt27) ⟨[],[0,6],_,_,rfl,rfl,⟨.refl _,⟨.refl _,⟨.refl _,⟨.refl _,⟨.of_eq (congrArg (AV.int _) (a1w hlt27 hl2)),trivial⟩⟩⟩⟩⟩,(.refl _)⟩
 ·refine o6<|sr<|l7 (.own 1 0 items_25.length) rfl<|a0w (a6s rfl rfl) fun hl37 => x8 (.bool ((items_25.length:Int) == 1)) rfl (.of rfl trivial) rfl<|dk<|?_
  rcases oi hf with ⟨c38,hf⟩ | ⟨c38,hf⟩
  ·refine y7 rfl c38<|o6<|?_
   obtain ⟨x_40,ex41,hf⟩:=ob hf
   refine e1v (o:=1) (i:=0) (el:=(.agg [(.int .i64 x_40.Kind),(.int .i64 x_40.N),(.str x_40.T),(.lst 1 (x_40.Keys.map AV.str)),(.lst 5 (x_40.Items.map o5))])) (el2:=(.agg [(.int .i64 x_40.Kind),(.int .i64 x_40.N),(.str x_40.T),(.own 2 0 x_40.Keys.length),(.own 3 0 x_40.Items.length)])) (xs:=[.row 1 (x_40.Keys.map AV.str),.row 5 (x_40.Items.map o5)]) rfl rfl rfl ex41 (y9 _) (by simp only [AV.cells,a1c,a1e,List.length_map,List.nil_append,List.append_nil,List.cons_append];rfl)<|a0s<|?_
   obtain ⟨g42,hf⟩:=og hf
   refine l7 (.own 1 0 items_25.length) rfl<|y5 (d4y rfl rfl g42 rfl rfl)<|y5 (d9j rfl rfl nle rfl)<|a2i (a0c (v:=(.agg [(.int .i64 x_40.Kind),(.int .i64 x_40.N),(.str x_40.T),(.own 2 0 x_40.Keys.length),(.own 3 0 x_40.Items.length)])) (y':=(.agg [(.int .i64 x_40.Kind),(.int .i64 x_40.N),(.str x_40.T),(.own 2 0 x_40.Keys.length),(.own 3 0 x_40.Items.length)])) rfl rfl rfl trivial ⟨rfl,nle⟩ ⟨⟨rfl,trivial⟩,⟨⟨rfl,trivial⟩,⟨⟨rfl,trivial⟩,⟨⟨rfl,trivial⟩,⟨⟨rfl,trivial⟩,trivial⟩⟩⟩⟩⟩ rfl)<|dk<|a0d<|?_;obtain rfl:=os hf;exact a2k ⟨.of nle trivial,trivial⟩ rfl (by decide) (leJ (x:=x_40) (.agg (.cons (.refl _) (.cons (.refl _) (.cons (.refl _) (.cons (.of_eq (congrArg (AV.lst _) (tk (enc:=AV.str) x_40.Keys))) (.cons (.of_eq (congrArg (AV.lst _) (tk (enc:=o5) x_40.Items))) .nil)))))))
  ·refine y8 rfl (bf c38)<|a0h<|a0f<|sr<|?_
   obtain ⟨r_43,er44,hf⟩:=ob hf
   obtain ⟨r_45,er46,hf⟩:=ob hf
   obtain ⟨r_47,er48,hf⟩:=ob hf
   refine y5 (a1m (v:=(.agg [(.int .i64 r_43.Kind),(.int .i64 r_43.N),(.str r_43.T),(.own 2 0 r_43.Keys.length),(.own 3 0 r_43.Items.length)])) (h':=[.row 1 (r_43.Keys.map AV.str),.row 5 (r_43.Items.map o5)]) (b3r _ _ er44) rfl (.refl _) (by simp only [a1e,a1c,List.length_map,y9,List.nil_append,List.append_nil,List.cons_append];rfl))<|l7 (.own 1 0 items_25.length) rfl<|?_;refine y5 (b3j (v:=(.agg [(.int .i64 r_45.Kind),(.int .i64 r_45.N),(.str r_45.T),(.own 4 0 r_45.Keys.length),(.own 5 0 r_45.Items.length)])) (h2:=[.box 5 (.agg [(.int .i64 0),(.int .i64 0),(.str []),.nil,.nil]),.dead,.row 1 (r_43.Keys.map AV.str),.row 5 (r_43.Items.map o5),.row 1 (r_45.Keys.map AV.str),.row 5 (r_45.Items.map o5)]) [] [1] (fun _ => rfl) (b4c _ _ er46) rfl (.refl _) (.refl _) rfl rfl) ?_
   refine y5 (a1f (j:=6) (as':=[(o5 r_43),(o5 r_45)]) rfl (fun _ => by decide) ⟨rfl,⟨rfl,trivial⟩⟩ (.cons (leJ (x:=r_43) (.agg (.cons (.refl _) (.cons (.refl _) (.cons (.refl _) (.cons (.of_eq (congrArg (AV.lst _) (tk (enc:=AV.str) r_43.Keys))) (.cons (.of_eq (congrArg (AV.lst _) (tk (enc:=o5) r_43.Items))) .nil))))))) (.cons (leJ (x:=r_45) (.agg (.cons (.refl _) (.cons (.refl _) (.cons (.refl _) (.cons (.of_eq (congrArg (AV.lst _) (tk (enc:=AV.str) r_45.Keys))) (.cons (.of_eq (congrArg (AV.lst _) (tk (enc:=o5) r_45.Items))) .nil))))))) .nil)) rfl rfl rfl) ?_;refine y5 (b3j (v:=(.agg [(.int .i64 r_47.Kind),(.int .i64 r_47.N),(.str r_47.T),(.own 7 0 r_47.Keys.length),(.own 8 0 r_47.Items.length)])) (h2:=[.box 5 (.agg [(.int .i64 0),(.int .i64 0),(.str []),.nil,.nil]),.dead,.dead,.dead,.dead,.dead,.dead,.row 1 (r_47.Keys.map AV.str),.row 5 (r_47.Items.map o5)]) [] [6] (fun _ => rfl) (b4c _ _ er48) rfl (.cons (.of_eq (congrArg (AV.own _ 0) (by simp))) .nil) (.refl _) rfl rfl) ?_
   refine a2i (a0c (v:=(.agg [(.int .i64 r_47.Kind),(.int .i64 r_47.N),(.str r_47.T),(.own 7 0 r_47.Keys.length),(.own 8 0 r_47.Items.length)])) (y':=(.agg [(.int .i64 r_47.Kind),(.int .i64 r_47.N),(.str r_47.T),(.own 7 0 r_47.Keys.length),(.own 8 0 r_47.Items.length)])) rfl rfl rfl trivial ⟨rfl,nle⟩ ⟨⟨rfl,trivial⟩,⟨⟨rfl,trivial⟩,⟨⟨rfl,trivial⟩,⟨⟨rfl,trivial⟩,⟨⟨rfl,trivial⟩,trivial⟩⟩⟩⟩⟩ rfl)<|dk<|a0d<|?_;obtain rfl:=os hf;exact a2k ⟨.of nle trivial,trivial⟩ rfl (by decide) (leJ (x:=r_47) (.agg (.cons (.refl _) (.cons (.refl _) (.cons (.refl _) (.cons (.of_eq (congrArg (AV.lst _) (tk (enc:=AV.str) r_47.Keys))) (.cons (.of_eq (congrArg (AV.lst _) (tk (enc:=o5) r_47.Items))) .nil)))))))

/- impl.jsObject -/
def d4e:a0m :=
 (.seq (.reg (tq 4 (.box 5 (.c (.agg [(.int .i64 0),(.int .i64 0),(.str []),.nil,.nil]))) .done))
 (.seq (.reg (tm 5 (.t 0) (tm 6 (.t 1) (tq 7 (.build [(.int .i64 0),(.int .i64 0),(.str []),.nil,.nil] [(0,1,(.c (.int .i64 5))),(3,1,(.t 5)),(4,1,(.t 6))]) (.q ⟨none,none,.store 5 (.t 4) (.t 7)⟩
 .done)))))
 .ret))
theorem d7v:a1a Tryz.prog Tryz.f200 = some (d4e.erase,[.load 5 true (.t 4)],8):=by kernel_rfl
def b0y (keys_1:(List Str)) (items_2:(List o8)):Option o8 :=
    some (⟨5,0,[],keys_1,items_2⟩:o8)
theorem b8f (keys_1:(List Str)) (items_2:(List o8)) (r:o8) (hf:b0y keys_1 items_2 = some r):a0z Tryz.prog true 200 [(.own 0 0 keys_1.length),(.own 1 0 items_2.length)] [.row 1 (keys_1.map AV.str),.row 5 (items_2.map o5)] (.agg [(.int .i64 r.Kind),(.int .i64 r.N),(.str r.T),(.own 2 0 r.Keys.length),(.own 3 0 r.Items.length)]) [.dead,.dead,.row 1 (r.Keys.map AV.str),.row 5 (r.Items.map o5)]:=by
 refine a0z.of_awp mixed Tryz.func200 d7v nle ?_;rw [a0j];unfold b0y at hf;unfold d4e;refine (show awp Tryz.prog true 2 _ (ofL [(0,(.own 0 0 keys_1.length)),(1,(.own 1 0 items_2.length))]) [.row 1 (keys_1.map AV.str),.row 5 (items_2.map o5)] _ from ?_);refine sr<|y5 (a1i (j:=2) (c:=(.agg [(.int .i64 0),(.int .i64 0),(.str []),.nil,.nil])) rfl trivial rfl rfl)<|dk<|sr<|l7 (.own 0 0 keys_1.length) rfl<|l7 (.own 1 0 items_2.length) rfl<|x8 (.agg [(.int .i64 5),(.int .i64 0),(.str []),(.own 0 0 keys_1.length),(.own 1 0 items_2.length)]) rfl ⟨⟨rfl,nle,trivial⟩,⟨⟨rfl,nle,trivial⟩,⟨⟨rfl,nle,trivial⟩,trivial⟩⟩⟩ rfl<|?_
 refine a2i (a0c (v:=(.agg [(.int .i64 5),(.int .i64 0),(.str []),(.own 0 0 keys_1.length),(.own 1 0 items_2.length)])) (y':=(.agg [(.int .i64 5),(.int .i64 0),(.str []),(.own 0 0 keys_1.length),(.own 1 0 items_2.length)])) rfl rfl rfl trivial ⟨rfl,nle⟩ ⟨⟨rfl,trivial⟩,⟨⟨rfl,trivial⟩,⟨⟨rfl,trivial⟩,⟨⟨rfl,trivial⟩,⟨⟨rfl,trivial⟩,trivial⟩⟩⟩⟩⟩ rfl)<|dk<|a0d<|?_;obtain rfl:=os hf;exact a7t [.mv 0,.mv 1] [0,1,3,4] rfl ⟨nle,trivial⟩ rfl (.refl _) (.refl _)

/- impl.rowJson -/
def c98:a0m :=
 (.seq (.reg (tq 3 (.box 2 (.t 1)) (tq 4 (.box 5 (.c (.agg [(.int .i64 0),(.int .i64 0),(.str []),.nil,.nil]))) .done)))
 (.seq (.reg (tq 12 (.mkmap) (tm 5 (.t 12) .done)))
 (.seq (.seq (.reg (tm 13 (.t 0) (tq 14 (.len (.t 13)) (tm 15 (.c (.int .i64 0)) .done))))
 (.block 0 (.loop (.seq (.reg (tq 16 (.bin .lss (.t 15) (.t 14)) .done))
 (.seq (.cond (.t 16) .skip
 (.exit 0))
 (.seq (.block 1 (.seq (.reg (tm 17 (.t 15) (tq 18 (.iaddr 1 (.t 13) (.t 15)) (tq 19 (.load 1 false (.t 18)) (tm 6 (.t 17) (tm 7 (.t 19) .done))))))
 (.reg (tm 20 (.t 5) (tm 21 (.t 7) (tq 22 (.faddr 1 (.t 3)) (tq 23 (.load 1 false (.t 22)) (tm 24 (.t 6) (tq 25 (.iaddr 1 (.t 23) (.t 24)) (tq 26 (.load 1 false (.t 25)) (.q ⟨none,none,.mapset (.t 20) (.t 21) (.t 26)⟩
 .done)))))))))))
 (.reg (tq 27 (.bin .add (.t 15) (.c (.int .i64 1))) (tm 15 (.t 27) .done)))))))))
 (.cut (.seq (.reg (tm 28 (.t 0) (tq 29 (.call 197 [(.t 28)]) (tq 30 (.bslice 5 []) (tm 8 (.t 29) (tm 9 (.t 30) .done))))))
 (.seq (.reg (tm 31 (.t 8) (tq 32 (.call 198 [(.t 31)]) .done)))
 (.seq (.reg (tm 33 (.t 8) (tq 34 (.call 199 [(.t 33)]) (tm 8 (.t 34) .done))))
 (.seq (.seq (.reg (tm 35 (.t 8) (tq 36 (.len (.t 35)) (tm 37 (.c (.int .i64 0)) .done))))
 (.block 2 (.loop (.seq (.reg (tq 38 (.bin .lss (.t 37) (.t 36)) .done))
 (.seq (.cond (.t 38) .skip
 (.exit 2))
 (.seq (.block 3 (.seq (.reg (tq 39 (.iaddr 1 (.t 35) (.t 37)) (tq 40 (.load 1 false (.t 39)) (tm 11 (.t 40) .done))))
 (.reg (tm 41 (.t 9) (tm 42 (.t 5) (tm 43 (.t 11) (tq 44 (.mapget .nil (.t 42) (.t 43)) (tq 45 (.call 130 [(.t 44)]) (tq 46 (.bslice 5 [(.t 45)]) (tq 47 (.append 5 80 (.t 41) (.t 46)) (tm 9 (.t 47) .done)))))))))))
 (.reg (tq 48 (.bin .add (.t 37) (.c (.int .i64 1))) (tm 37 (.t 48) .done)))))))))
 (.cut (.seq (.reg (tm 49 (.t 8) (tm 50 (.t 9) (tq 51 (.call 200 [(.t 49),(.t 50)]) (.q ⟨none,none,.store 5 (.t 4) (.t 51)⟩
 .done)))))
 .ret))))))))))
theorem e6j:a1a Tryz.prog Tryz.f98 = some (c98.erase,[.load 5 true (.t 4)],52):=by kernel_rfl
def a4g (r_2:a3r):List Str → Nat → (List (Str × (List a0a))) → Option (List (Str × (List a0a)))
  | [],s15_16,m_17 =>
    some m_17
  | x_31 :: xs,s15_16,m_17 =>
    (idx r_2.Cells (s15_16:Int)).bind fun x_32 =>
    a4g r_2 xs (s15_16 + 1) (b2c m_17 x_31 x_32)

def a4h (r_39:(List Str)) (m_23:(List (Str × (List a0a)))):List Str → Nat → (List o8) → Option (List o8)
  | [],s37_62,items_63 =>
    some items_63
  | x_81 :: xs,s37_62,items_63 =>
    if s37_62 < r_39.length then
    (a5d m_23 x_81).bind fun x_83 =>
    (a5m x_83).bind fun r_85 =>
    if (items_63 ++ [r_85]).length ≤ 2 ^ 30 then
    a4h r_39 m_23 xs (s37_62 + 1) (items_63 ++ [r_85])
    else none
    else none

def a8i (columns_1:(List Str)) (r_2:a3r):Option o8 :=
    (a4g r_2 columns_1 0 []).bind fun m_23 =>
    (a4s columns_1).bind fun r_34 =>
    (a2y r_34).bind fun r_36 =>
    (a2j r_36).bind fun r_39 =>
    (a4h r_39 m_23 r_39 0 []).bind fun items_73 =>
    (b0y r_39 items_73).bind fun r_88 =>
    some r_88
theorem c5a (columns_1:(List Str)) (r_2:a3r) (r:o8) (hf:a8i columns_1 r_2 = some r):x9 Tryz.prog 98 .fresh [(.lst 1 (columns_1.map AV.str)),(a3t r_2)] (o5 r):=by
 refine x9.of_awp mixed Tryz.func98 e6j nle ?_;rw [a0j];unfold a8i at hf;unfold c98;refine (show awp Tryz.prog true 0 _ (ofL [(0,(.lst 1 (columns_1.map AV.str))),(1,(a3t r_2))]) [] _ from ?_);refine sr<|y5 (a1i (j:=0) (c:=(.agg [(.int .i64 r_2.Id),(.lst 1 (r_2.Cells.map (a0t 3 l9)))])) rfl trivial rfl rfl)<|y5 (a1i (j:=1) (c:=(.agg [(.int .i64 0),(.int .i64 0),(.str []),.nil,.nil])) rfl trivial rfl rfl)<|dk<|sr<|y5 (d9m (j:=2) rfl)<|l7 (.ptr 2 0 0) rfl<|dk<|o6<|sr<|l7 (.lst 1 (columns_1.map AV.str)) rfl<|a0w (a1r (enc:=AV.str) rfl) fun hl3 => l7 (.int .i64 0) rfl<|?_
 refine dk<|?_
 obtain ⟨m_23,hb1,hf⟩:=ob hf
 refine a2a ([(0,(.lst 1 (columns_1.map AV.str))),(4,(.ptr 0 0 0)),(5,(.ptr 1 0 0))],[.box 5 (.agg [(.int .i64 0),(.int .i64 0),(.str []),.nil,.nil]),.map (m_23.map fun p => (p.1,(a0t 3 l9) p.2))]) ?_ ?_
 ·refine a1g (X:={q:(Nat × (List (Str × (List a0a)))) // a4g r_2 (columns_1.drop q.1) q.1 q.2 = some m_23}) (fun q => ([(0,(.lst 1 (columns_1.map AV.str))),(3,(.ptr 0 0 0)),(4,(.ptr 1 0 0)),(5,(.ptr 2 0 0)),(13,(.lst 1 (columns_1.map AV.str))),(14,(.int .i64 (columns_1.length:Int))),(15,(.int .i64 (q.1.1:Int)))],[.box 2 (.agg [(.int .i64 r_2.Id),(.lst 1 (r_2.Cells.map (a0t 3 l9)))]),.box 5 (.agg [(.int .i64 0),(.int .i64 0),(.str []),.nil,.nil]),.map (q.1.2.map fun p => (p.1,(a0t 3 l9) p.2))])) (fun q => columns_1.length - q.1.1) ⟨(0,[]),hb1⟩ ⟨[],[0,1,2],_,_,rfl,rfl,⟨.refl _,⟨.refl _,⟨.refl _,⟨.refl _,⟨.refl _,⟨.refl _,⟨.refl _,trivial⟩⟩⟩⟩⟩⟩⟩,(.cons (.refl _) (.cons (.refl _) (.cons ((b9j (enc:=(a0t 3 l9)) (m:=([]:List (Str × (List a0a)))) (fun _ => rfl))) .nil)))⟩ ?_
  rintro ⟨⟨s15_16,m_17⟩,hc1⟩
  have hc1:a4g r_2 (columns_1.drop s15_16) s15_16 m_17 = some m_23:=hc1
  refine (show awp Tryz.prog true 0 _ (ofL [(0,(.lst 1 (columns_1.map AV.str))),(3,(.ptr 0 0 0)),(4,(.ptr 1 0 0)),(5,(.ptr 2 0 0)),(13,(.lst 1 (columns_1.map AV.str))),(14,(.int .i64 (columns_1.length:Int))),(15,(.int .i64 (s15_16:Int)))]) [.box 2 (.agg [(.int .i64 r_2.Id),(.lst 1 (r_2.Cells.map (a0t 3 l9)))]),.box 5 (.agg [(.int .i64 0),(.int .i64 0),(.str []),.nil,.nil]),.map (m_17.map fun p => (p.1,(a0t 3 l9) p.2))] _ from ?_)
  rcases a5z columns_1 s15_16 with ⟨hie27,hd30⟩ | ⟨hlt25,x_31,hx26,hd30⟩
  ·rw [hd30,a4g.eq_1] at hc1
   have hq29:=dlf hie27
   refine sr<|x8 (.bool (decide ((s15_16:Int) < (columns_1.length:Int)))) rfl rfl rfl<|dk<|o6<|y8 rfl hq29<|a2t<|a2s<|a1y<|a2r<|?_;obtain rfl:=os hc1;exact ⟨[],[1,2],_,_,rfl,rfl,⟨.refl _,⟨.refl _,⟨.refl _,trivial⟩⟩⟩,(.cons (.refl _) (.cons ((b9j (enc:=(a0t 3 l9)) (m:=m_17) (fun _ => rfl))) .nil))⟩
  ·rw [hd30,a4g.eq_2] at hc1
   have hq29:=dlt hlt25
   refine sr<|x8 (.bool (decide ((s15_16:Int) < (columns_1.length:Int)))) rfl rfl rfl<|dk<|o6<|y7 rfl hq29<|a0h<|a0f<|o6<|a3g<|sr<|l7 (.int .i64 (s15_16:Int)) rfl<|y5 (a2c (enc:=AV.str) rfl rfl hx26)<|x8 (.str x_31) rfl ⟨rfl,rfl⟩ rfl<|l7 (.int .i64 (s15_16:Int)) rfl<|l7 (.str x_31) rfl<|dk<|a0s<|?_
   obtain ⟨x_32,ex33,hc1⟩:=ob hc1
   refine l7 (.ptr 2 0 0) rfl<|l7 (.str x_31) rfl<|x8 (.ptr 0 0 1) rfl trivial rfl<|x8 (.lst 1 (r_2.Cells.map (a0t 3 l9))) rfl nle rfl<|l7 (.int .i64 (s15_16:Int)) rfl<|y5 (a6n (enc:=(a0t 3 l9)) rfl rfl (b3h ex33) (b3i ex33))<|x8 (.lst 3 (x_32.map l9)) rfl ⟨rfl,rfl⟩ rfl<|a2i (d7g (enc:=(a0t 3 l9)) (m:=m_17) (v:=x_32) rfl rfl rfl rfl)<|a0b<|a3f<|a0f<|a0s<|x8 (.int .i64 (w64 ((s15_16:Int) + 1))) rfl rfl rfl<|l7 (.int .i64 (w64 ((s15_16:Int) + 1))) rfl<|a0b<|?_;exact a1q ⟨((s15_16 + 1),b2c m_17 x_31 x_32),hc1⟩ (mul hlt25) ⟨[],[0,1,2],_,_,rfl,rfl,⟨.refl _,⟨.refl _,⟨.refl _,⟨.refl _,⟨.refl _,⟨.refl _,⟨.of_eq (congrArg (AV.int _) (a1w hlt25 hl3)),trivial⟩⟩⟩⟩⟩⟩⟩,(.cons (.refl _) (.cons (.refl _) (.cons ((b9j (enc:=(a0t 3 l9)) (m:=(b2c m_17 x_31 x_32)) (fun _ => rfl))) .nil)))⟩
 ·refine sr<|?_
  obtain ⟨r_34,er35,hf⟩:=ob hf
  refine l7 (.lst 1 (columns_1.map AV.str)) rfl<|y5 (a1m (v:=(.own 2 0 r_34.length)) (h':=[.row 1 (r_34.map AV.str)]) (b2e _ _ er35) rfl (.refl _) (by simp only [a1e,a1c,List.length_map,List.nil_append,List.append_nil,List.cons_append];rfl))<|?_;refine y5 (a1f (j:=3) (as':=[]) rfl (fun _ => by decide) trivial (.refl _) rfl rfl rfl) ?_;refine l7 (.own 2 0 r_34.length) rfl<|l7 (.own 3 0 0) rfl<|dk<|sr<|?_
  obtain ⟨r_36,er37,hf⟩:=ob hf
  refine l7 (.own 2 0 r_34.length) rfl ?_;refine a0w (a9w (v:=(.tup [])) (h2:=[.box 5 (.agg [(.int .i64 0),(.int .i64 0),(.str []),.nil,.nil]),.map (m_23.map fun p => (p.1,(a0t 3 l9) p.2)),.row 1 (r_36.map AV.str),.row 5 ([].map o5)]) [] [2] (fun _ => rfl) (b0x _ _ er37) rfl (.refl _) (.refl _) rfl rfl) fun hl38 => ?_;refine dk<|sr<|?_
  obtain ⟨r_39,er40,hf⟩:=ob hf
  refine l7 (.own 2 0 r_34.length) rfl ?_;refine y5 (b3j (v:=(.own 4 0 r_39.length)) (h2:=[.box 5 (.agg [(.int .i64 0),(.int .i64 0),(.str []),.nil,.nil]),.map (m_23.map fun p => (p.1,(a0t 3 l9) p.2)),.dead,.row 5 ([].map o5),.row 1 (r_39.map AV.str)]) [] [2] (fun _ => rfl) (a9s _ _ er40) rfl (.cons (.of_eq (congrArg (AV.own _ 0) (by have h:=(hl38 0 _ _ _ _ rfl rfl);simpa using h.symm))) .nil) (.refl _) rfl rfl) ?_;refine l7 (.own 4 0 r_39.length) rfl<|dk<|o6<|sr<|l7 (.own 4 0 r_39.length) rfl<|a0w (a6s rfl rfl) fun hl41 => l7 (.int .i64 0) rfl<|dk<|?_
  obtain ⟨items_73,hb1,hf⟩:=ob hf
  refine a2a ([(4,(.ptr 0 0 0)),(8,(.own 1 0 r_39.length)),(9,(.own 2 0 items_73.length))],[.box 5 (.agg [(.int .i64 0),(.int .i64 0),(.str []),.nil,.nil]),.row 1 (r_39.map AV.str),.row 5 (items_73.map o5)]) ?_ ?_
  ·refine a1g (X:={q:(Nat × (List o8)) // a4h r_39 m_23 (r_39.drop q.1) q.1 q.2 = some items_73}) (fun q => ([(4,(.ptr 0 0 0)),(5,(.ptr 1 0 0)),(8,(.own 2 0 r_39.length)),(9,(.own 3 0 q.1.2.length)),(35,(.own 2 0 r_39.length)),(36,(.int .i64 (r_39.length:Int))),(37,(.int .i64 (q.1.1:Int)))],[.box 5 (.agg [(.int .i64 0),(.int .i64 0),(.str []),.nil,.nil]),.map (m_23.map fun p => (p.1,(a0t 3 l9) p.2)),.row 1 (r_39.map AV.str),.row 5 (q.1.2.map o5)])) (fun q => r_39.length - q.1.1) ⟨(0,[]),hb1⟩ ⟨[],[0,1,4,3],_,_,rfl,rfl,⟨.refl _,⟨.refl _,⟨.refl _,⟨.of_eq (congrArg (AV.own _ 0) (by simp)),⟨.refl _,⟨.refl _,⟨.refl _,trivial⟩⟩⟩⟩⟩⟩⟩,(.cons (.refl _) (.cons ((b9j (enc:=(a0t 3 l9)) (m:=m_23) (fun _ => rfl))) (.cons (.refl _) (.cons (.refl _) .nil))))⟩ ?_
   rintro ⟨⟨s37_62,items_63⟩,hc1⟩
   have hc1:a4h r_39 m_23 (r_39.drop s37_62) s37_62 items_63 = some items_73:=hc1
   refine (show awp Tryz.prog true 0 _ (ofL [(4,(.ptr 0 0 0)),(5,(.ptr 1 0 0)),(8,(.own 2 0 r_39.length)),(9,(.own 3 0 items_63.length)),(35,(.own 2 0 r_39.length)),(36,(.int .i64 (r_39.length:Int))),(37,(.int .i64 (s37_62:Int)))]) [.box 5 (.agg [(.int .i64 0),(.int .i64 0),(.str []),.nil,.nil]),.map (m_23.map fun p => (p.1,(a0t 3 l9) p.2)),.row 1 (r_39.map AV.str),.row 5 (items_63.map o5)] _ from ?_)
   rcases a5z r_39 s37_62 with ⟨hie77,hd80⟩ | ⟨hlt75,x_81,hx76,hd80⟩
   ·rw [hd80,a4h.eq_1] at hc1
    have hq79:=dlf hie77
    refine sr<|x8 (.bool (decide ((s37_62:Int) < (r_39.length:Int)))) rfl rfl rfl<|dk<|o6<|y8 rfl hq79<|a2t<|a2s<|a1y<|a2r<|?_;obtain rfl:=os hc1;exact ⟨[],[0,2,3],_,_,rfl,rfl,⟨.refl _,⟨.refl _,⟨.refl _,trivial⟩⟩⟩,(.refl _)⟩
   ·rw [hd80,a4h.eq_2] at hc1
    have hq79:=dlt hlt75
    refine sr<|x8 (.bool (decide ((s37_62:Int) < (r_39.length:Int)))) rfl rfl rfl<|dk<|o6<|y7 rfl hq79<|a0h<|a0f<|o6<|a3g<|sr<|?_
    obtain ⟨g82,hc1⟩:=og hc1
    refine y5 (b1o rfl rfl g82 rfl rfl)<|y5 (a6c (enc:=AV.str) (v:=(.str x_81)) rfl rfl hx76 ⟨rfl,rfl⟩ rfl)<|l7 (.str x_81) rfl<|dk<|a0s<|?_
    obtain ⟨x_83,ex84,hc1⟩:=ob hc1
    obtain ⟨r_85,er86,hc1⟩:=ob hc1
    obtain ⟨g87,hc1⟩:=og hc1
    refine l7 (.own 3 0 items_63.length) rfl<|l7 (.ptr 1 0 0) rfl<|l7 (.str x_81) rfl<|y5 (d7h (enc:=(a0t 3 l9)) rfl rfl rfl ex84)<|y5 (a1m (v:=(.agg [(.int .i64 r_85.Kind),(.int .i64 r_85.N),(.str r_85.T),(.own 4 0 r_85.Keys.length),(.own 5 0 r_85.Items.length)])) (h':=[.row 1 (r_85.Keys.map AV.str),.row 5 (r_85.Items.map o5)]) (c0y _ _ er86) rfl (.refl _) (by simp only [a1e,a1c,List.length_map,y9,List.nil_append,List.append_nil,List.cons_append];rfl))<|?_;refine y5 (a1f (j:=6) (as':=[(o5 r_85)]) rfl (fun _ => by decide) ⟨rfl,trivial⟩ (.cons (leJ (x:=r_85) (.agg (.cons (.refl _) (.cons (.refl _) (.cons (.refl _) (.cons (.of_eq (congrArg (AV.lst _) (tk (enc:=AV.str) r_85.Keys))) (.cons (.of_eq (congrArg (AV.lst _) (tk (enc:=o5) r_85.Items))) .nil))))))) .nil) rfl rfl rfl) ?_
    refine y5 (a3u (j:=7) (L:=((items_63 ++ [r_85]).map o5)) (len:=(items_63 ++ [r_85]).length) rfl true rfl rfl (fun h => Bool.noConfusion h) (fun _ _ h => (d7j (show AV.own _ _ _ = AV.lst _ _ from h)).elim) (by decide) (c4n (enc:=o5) items_63 [r_85] _ (by rfl)) (by simp <;> omega) g87 rfl rfl) ?_
    refine l7 (.own 7 0 ((items_63 ++ [r_85]).length)) rfl<|a0b<|a3f<|a0f<|a0s<|x8 (.int .i64 (w64 ((s37_62:Int) + 1))) rfl rfl rfl<|l7 (.int .i64 (w64 ((s37_62:Int) + 1))) rfl<|a0b<|?_;exact a1q ⟨((s37_62 + 1),items_63 ++ [r_85]),hc1⟩ (mul hlt75) ⟨[],[0,1,2,7],_,_,rfl,rfl,⟨.refl _,⟨.refl _,⟨.refl _,⟨.refl _,⟨.refl _,⟨.refl _,⟨.of_eq (congrArg (AV.int _) (a1w hlt75 hl41)),trivial⟩⟩⟩⟩⟩⟩⟩,(.cons (.refl _) (.cons ((b9j (enc:=(a0t 3 l9)) (m:=m_23) (fun _ => rfl))) (.cons (.refl _) (.cons (.refl _) .nil))))⟩
  ·refine sr<|?_
   obtain ⟨r_88,er89,hf⟩:=ob hf
   refine l7 (.own 1 0 r_39.length) rfl<|l7 (.own 2 0 items_73.length) rfl<|?_;refine y5 (b3j (v:=(.agg [(.int .i64 r_88.Kind),(.int .i64 r_88.N),(.str r_88.T),(.own 3 0 r_88.Keys.length),(.own 4 0 r_88.Items.length)])) (h2:=[.box 5 (.agg [(.int .i64 0),(.int .i64 0),(.str []),.nil,.nil]),.dead,.dead,.row 1 (r_88.Keys.map AV.str),.row 5 (r_88.Items.map o5)]) [] [1,2] (fun _ => rfl) (b8f _ _ _ er89) rfl (.refl _) (.refl _) rfl rfl) ?_;refine a2i (a0c (v:=(.agg [(.int .i64 r_88.Kind),(.int .i64 r_88.N),(.str r_88.T),(.own 3 0 r_88.Keys.length),(.own 4 0 r_88.Items.length)])) (y':=(.agg [(.int .i64 r_88.Kind),(.int .i64 r_88.N),(.str r_88.T),(.own 3 0 r_88.Keys.length),(.own 4 0 r_88.Items.length)])) rfl rfl rfl trivial ⟨rfl,nle⟩ ⟨⟨rfl,trivial⟩,⟨⟨rfl,trivial⟩,⟨⟨rfl,trivial⟩,⟨⟨rfl,trivial⟩,⟨⟨rfl,trivial⟩,trivial⟩⟩⟩⟩⟩ rfl) ?_
   refine dk<|a0d<|?_;obtain rfl:=os hf;exact a2k ⟨nle,trivial⟩ rfl (by decide) (leJ (x:=r_88) (.agg (.cons (.refl _) (.cons (.refl _) (.cons (.refl _) (.cons (.of_eq (congrArg (AV.lst _) (tk (enc:=AV.str) r_88.Keys))) (.cons (.of_eq (congrArg (AV.lst _) (tk (enc:=o5) r_88.Items))) .nil)))))))

/- impl.RowJson -/
def c22:a0m :=
 (.seq (.reg (tq 3 (.box 2 (.t 1)) (tq 4 (.box 5 (.c (.agg [(.int .i64 0),(.int .i64 0),(.str []),.nil,.nil]))) (tm 5 (.c (.int .i64 0)) .done))))
 (.seq (.block 0 (.seq (.reg (tm 7 (.t 0) (tq 8 (.call 96 [(.t 7)]) (tq 9 (.not (.t 8)) (tm 6 (.t 9) .done)))))
 (.cond (.t 6) (.seq (.reg (tq 10 (.build [(.int .i64 0),(.int .i64 0),(.str []),.nil,.nil] []) (.q ⟨none,none,.store 5 (.t 4) (.t 10)⟩
 (tm 5 (.c (.int .i64 2)) .done))))
 .ret)
 (.seq (.reg (tm 12 (.t 0) (tq 13 (.load 2 true (.t 3)) (tq 14 (.call 97 [(.t 12),(.t 13)]) (tq 15 (.not (.t 14)) (tm 11 (.t 15) .done))))))
 (.cond (.t 11) (.seq (.reg (tq 16 (.build [(.int .i64 0),(.int .i64 0),(.str []),.nil,.nil] []) (.q ⟨none,none,.store 5 (.t 4) (.t 16)⟩
 (tm 5 (.c (.int .i64 1)) .done))))
 .ret)
 .skip)))))
 (.seq (.reg (tm 17 (.t 0) (tq 18 (.load 2 true (.t 3)) (tq 19 (.call 98 [(.t 17),(.t 18)]) (.q ⟨none,none,.store 5 (.t 4) (.t 19)⟩
 (tm 5 (.c (.int .i64 0)) .done))))))
 .ret)))
theorem e6k:a1a Tryz.prog Tryz.f22 = some (c22.erase,[.load 5 true (.t 4),.mov (.t 5)],20):=by kernel_rfl
def a8j (columns_1:(List Str)) (r_2:a3r):Option (o8 × Int) :=
    (a7a columns_1).bind fun r_3 =>
    if (!r_3) then
    some ((⟨0,0,[],[],[]⟩:o8),2)
    else
    (b0n columns_1 r_2).bind fun r_6 =>
    if (!r_6) then
    some ((⟨0,0,[],[],[]⟩:o8),1)
    else
    (a8i columns_1 r_2).bind fun r_9 =>
    some (r_9,0)
theorem a8a (columns_1:(List Str)) (r_2:a3r) (r:(o8 × Int)) (hf:a8j columns_1 r_2 = some r):x9 Tryz.prog 22 .fresh [(.lst 1 (columns_1.map AV.str)),(a3t r_2)] (.tup [(o5 r.1),(.int .i64 r.2)]):=by
 refine x9.of_awp mixed Tryz.func22 e6k nle ?_;rw [a0j];unfold a8j at hf;unfold c22;refine (show awp Tryz.prog true 0 _ (ofL [(0,(.lst 1 (columns_1.map AV.str))),(1,(a3t r_2))]) [] _ from ?_);refine sr<|y5 (a1i (j:=0) (c:=(.agg [(.int .i64 r_2.Id),(.lst 1 (r_2.Cells.map (a0t 3 l9)))])) rfl trivial rfl rfl)<|y5 (a1i (j:=1) (c:=(.agg [(.int .i64 0),(.int .i64 0),(.str []),.nil,.nil])) rfl trivial rfl rfl)<|l7 (.int .i64 0) rfl<|dk<|o6<|a3g<|sr<|?_
 obtain ⟨r_3,er4,hf⟩:=ob hf
 refine l7 (.lst 1 (columns_1.map AV.str)) rfl<|y5 (a0v (b6e _ _ er4) rfl (.refl _) rfl)<|x8 (.bool (!r_3)) rfl trivial rfl<|l7 (.bool (!r_3)) rfl<|dk<|?_
 rcases oi hf with ⟨c5,hf⟩ | ⟨c5,hf⟩
 ·refine y7 rfl c5<|sr<|x8 (.agg [(.int .i64 0),(.int .i64 0),(.str []),.nil,.nil]) rfl trivial rfl<|a2i (a0c (v:=(.agg [(.int .i64 0),(.int .i64 0),(.str []),.nil,.nil])) (y':=(.agg [(.int .i64 0),(.int .i64 0),(.str []),.nil,.nil])) rfl rfl rfl trivial ⟨rfl,nle⟩ ⟨⟨rfl,trivial⟩,⟨⟨rfl,trivial⟩,⟨⟨rfl,trivial⟩,⟨⟨rfl,trivial⟩,⟨⟨rfl,trivial⟩,trivial⟩⟩⟩⟩⟩ rfl)<|l7 (.int .i64 2) rfl<|dk<|a0d<|?_;obtain rfl:=os hf;exact a2k ⟨nle,⟨trivial,trivial⟩⟩ rfl (by decide) (.tup (.cons (leJ (x:=(⟨0,0,[],[],[]⟩:o8)) (.agg (.cons (.refl _) (.cons (.refl _) (.cons (.refl _) (.cons (.nil _) (.cons (.nil _) .nil))))))) (.cons (.refl _) .nil)))
 ·refine y8 rfl (bf c5)<|sr<|?_
  obtain ⟨r_6,er7,hf⟩:=ob hf
  refine l7 (.lst 1 (columns_1.map AV.str)) rfl<|x8 (.agg [(.int .i64 r_2.Id),(.lst 1 (r_2.Cells.map (a0t 3 l9)))]) rfl nle rfl<|y5 (a0v (c4z _ _ _ er7) rfl (.refl _) rfl)<|x8 (.bool (!r_6)) rfl trivial rfl<|l7 (.bool (!r_6)) rfl<|dk<|?_
  rcases oi hf with ⟨c8,hf⟩ | ⟨c8,hf⟩
  ·refine y7 rfl c8<|sr<|x8 (.agg [(.int .i64 0),(.int .i64 0),(.str []),.nil,.nil]) rfl trivial rfl<|a2i (a0c (v:=(.agg [(.int .i64 0),(.int .i64 0),(.str []),.nil,.nil])) (y':=(.agg [(.int .i64 0),(.int .i64 0),(.str []),.nil,.nil])) rfl rfl rfl trivial ⟨rfl,nle⟩ ⟨⟨rfl,trivial⟩,⟨⟨rfl,trivial⟩,⟨⟨rfl,trivial⟩,⟨⟨rfl,trivial⟩,⟨⟨rfl,trivial⟩,trivial⟩⟩⟩⟩⟩ rfl)<|l7 (.int .i64 1) rfl<|dk<|a0d<|?_;obtain rfl:=os hf;exact a2k ⟨nle,⟨trivial,trivial⟩⟩ rfl (by decide) (.tup (.cons (leJ (x:=(⟨0,0,[],[],[]⟩:o8)) (.agg (.cons (.refl _) (.cons (.refl _) (.cons (.refl _) (.cons (.nil _) (.cons (.nil _) .nil))))))) (.cons (.refl _) .nil)))
  ·refine y8 rfl (bf c8)<|a0h<|a3f<|a0f<|sr<|?_
   obtain ⟨r_9,er10,hf⟩:=ob hf
   refine l7 (.lst 1 (columns_1.map AV.str)) rfl<|x8 (.agg [(.int .i64 r_2.Id),(.lst 1 (r_2.Cells.map (a0t 3 l9)))]) rfl nle rfl<|y5 (a1m (v:=(.agg [(.int .i64 r_9.Kind),(.int .i64 r_9.N),(.str r_9.T),(.own 2 0 r_9.Keys.length),(.own 3 0 r_9.Items.length)])) (h':=[.row 1 (r_9.Keys.map AV.str),.row 5 (r_9.Items.map o5)]) (c5a _ _ _ er10) rfl (.refl _) (by simp only [a1e,a1c,List.length_map,y9,List.nil_append,List.append_nil,List.cons_append];rfl))<|a2i (a0c (v:=(.agg [(.int .i64 r_9.Kind),(.int .i64 r_9.N),(.str r_9.T),(.own 2 0 r_9.Keys.length),(.own 3 0 r_9.Items.length)])) (y':=(.agg [(.int .i64 r_9.Kind),(.int .i64 r_9.N),(.str r_9.T),(.own 2 0 r_9.Keys.length),(.own 3 0 r_9.Items.length)])) rfl rfl rfl trivial ⟨rfl,nle⟩ ⟨⟨rfl,trivial⟩,⟨⟨rfl,trivial⟩,⟨⟨rfl,trivial⟩,⟨⟨rfl,trivial⟩,⟨⟨rfl,trivial⟩,trivial⟩⟩⟩⟩⟩ rfl)<|?_
   refine l7 (.int .i64 0) rfl<|dk<|a0d<|?_;obtain rfl:=os hf;exact a2k ⟨nle,⟨trivial,trivial⟩⟩ rfl (by decide) (.tup (.cons (leJ (x:=r_9) (.agg (.cons (.refl _) (.cons (.refl _) (.cons (.refl _) (.cons (.of_eq (congrArg (AV.lst _) (tk (enc:=AV.str) r_9.Keys))) (.cons (.of_eq (congrArg (AV.lst _) (tk (enc:=o5) r_9.Items))) .nil))))))) (.cons (.refl _) .nil)))

/- laws.eqStringS -/
def c24:a0m :=
 (.seq (.reg (tm 4 (.c (.bool false)) .done))
 (.seq (.seq (.reg (tm 6 (.t 0) (tq 7 (.len (.t 6)) (tm 8 (.t 1) (tq 9 (.len (.t 8)) (tq 10 (.bin .neq (.t 7) (.t 9)) .done))))))
 (.cond (.t 10) (.seq (.reg (tm 4 (.c (.bool false)) .done))
 .ret)
 .skip))
 (.seq (.seq (.reg (tm 5 (.c (.int .i64 0)) .done))
 (.block 0 (.loop (.seq (.seq (.reg (tm 11 (.t 5) (tm 12 (.t 0) (tq 13 (.len (.t 12)) (tq 14 (.bin .lss (.t 11) (.t 13)) .done)))))
 (.cond (.t 14) .skip
 (.exit 0)))
 (.seq (.block 1 (.seq (.reg (tm 17 (.t 0) (tm 18 (.t 5) (tq 19 (.iaddr 1 (.t 17) (.t 18)) (tq 20 (.load 1 false (.t 19)) (tm 21 (.t 1) (tm 22 (.t 5) (tq 23 (.iaddr 1 (.t 21) (.t 22)) (tq 24 (.load 1 false (.t 23)) (tq 25 (.bin .neq (.t 20) (.t 24)) .done))))))))))
 (.cond (.t 25) (.seq (.reg (tm 4 (.c (.bool false)) .done))
 .ret)
 .skip)))
 (.reg (tm 15 (.t 5) (tq 16 (.bin .add (.t 15) (.c (.int .i64 1))) (tm 5 (.t 16) .done)))))))))
 (.cut (.seq (.reg (tm 4 (.c (.bool true)) .done))
 .ret)))))
theorem e6l:a1a Tryz.prog Tryz.f24 = some (c24.erase,[.mov (.t 4)],26):=by kernel_rfl
def a3c (b_2:(List Str)):List Str → Nat → Option (Fl Bool Unit)
  | [],i_21 =>
    some (.go ())
  | x_37 :: xs,i_21 =>
    (idx b_2 (i_21:Int)).bind fun x_40 =>
    if (!(x_37 == x_40)) then
    some (.ret false)
    else
    a3c b_2 xs (i_21 + 1)

def a6u (a_1:(List Str)) (b_2:(List Str)):Option Bool :=
    if ((a_1.length:Int) != (b_2.length:Int)) then
    some false
    else
    (a3c b_2 a_1 0).bind fun q => (match q with
    | .ret r => some r
    | .go _ =>
    some true)
theorem b4d (a_1:(List Str)) (b_2:(List Str)) (r:Bool) (hf:a6u a_1 b_2 = some r):x9 Tryz.prog 24 .flat [(.lst 1 (a_1.map AV.str)),(.lst 1 (b_2.map AV.str))] (.bool r):=by
 refine x9.of_awp mixed Tryz.func24 e6l nle ?_;rw [a0j];unfold a6u at hf;unfold c24;refine (show awp Tryz.prog false 0 _ (ofL [(0,(.lst 1 (a_1.map AV.str))),(1,(.lst 1 (b_2.map AV.str)))]) [] _ from ?_);refine sr<|l7 (.bool false) rfl<|dk<|o6<|sr<|l7 (.lst 1 (a_1.map AV.str)) rfl<|a0w (a1r (enc:=AV.str) rfl) fun hl3 => l7 (.lst 1 (b_2.map AV.str)) rfl<|a0w (a1r (enc:=AV.str) rfl) fun hl4 => x8 (.bool ((a_1.length:Int) != (b_2.length:Int))) rfl rfl rfl<|dk<|?_
 rcases oi hf with ⟨c5,hf⟩ | ⟨c5,hf⟩
 ·refine y7 rfl c5<|sr<|l7 (.bool false) rfl<|dk<|a0d<|?_;obtain rfl:=os hf;exact a0e ⟨trivial,trivial⟩ rfl (.refl _)
 ·refine y8 rfl (bf c5)<|a0h<|a0f<|o6<|sr<|l7 (.int .i64 0) rfl<|dk<|?_
  obtain ⟨p30,hb1,hf⟩:=ob hf
  refine a4n (X:={q:Unit // p30 = .go q}) (fun q => ([],[])) ?_ ?_
  ·refine a1g (X:={q:Nat // a3c b_2 (a_1.drop q) q = some p30}) (fun q => ([(0,(.lst 1 (a_1.map AV.str))),(1,(.lst 1 (b_2.map AV.str))),(5,(.int .i64 (q.1:Int)))],[])) (fun q => a_1.length - q.1) ⟨0,hb1⟩ ⟨[],[],_,_,rfl,rfl,⟨.refl _,⟨.refl _,⟨.refl _,trivial⟩⟩⟩,(.refl _)⟩ ?_
   rintro ⟨i_21,hc1⟩
   have hc1:a3c b_2 (a_1.drop i_21) i_21 = some p30:=hc1
   refine (show awp Tryz.prog false 0 _ (ofL [(0,(.lst 1 (a_1.map AV.str))),(1,(.lst 1 (b_2.map AV.str))),(5,(.int .i64 (i_21:Int)))]) [] _ from ?_)
   rcases a5z a_1 i_21 with ⟨hie33,hd36⟩ | ⟨hlt31,x_37,hx32,hd36⟩
   ·rw [hd36,a3c.eq_1] at hc1
    have hq35:=dlf hie33
    refine o6<|sr<|l7 (.int .i64 (i_21:Int)) rfl<|l7 (.lst 1 (a_1.map AV.str)) rfl<|a0w (a1r (enc:=AV.str) rfl) fun hl38 => x8 (.bool (decide ((i_21:Int) < (a_1.length:Int)))) rfl rfl rfl<|dk<|y8 rfl hq35<|a2t<|a2s<|a1y<|a2r<|?_;obtain rfl:=os hc1;exact a6r ⟨_,rfl⟩ ⟨[],[],_,_,rfl,rfl,trivial,(.refl _)⟩
   ·rw [hd36,a3c.eq_2] at hc1
    have hq35:=dlt hlt31
    refine o6<|sr<|l7 (.int .i64 (i_21:Int)) rfl<|l7 (.lst 1 (a_1.map AV.str)) rfl<|a0w (a1r (enc:=AV.str) rfl) fun hl39 => x8 (.bool (decide ((i_21:Int) < (a_1.length:Int)))) rfl rfl rfl<|dk<|y7 rfl hq35<|a0h<|a0f<|o6<|a3g<|sr<|?_
    obtain ⟨x_40,ex41,hc1⟩:=ob hc1
    refine l7 (.lst 1 (a_1.map AV.str)) rfl<|l7 (.int .i64 (i_21:Int)) rfl<|y5 (a2c (enc:=AV.str) rfl rfl hx32)<|x8 (.str x_37) rfl ⟨rfl,rfl⟩ rfl<|l7 (.lst 1 (b_2.map AV.str)) rfl<|l7 (.int .i64 (i_21:Int)) rfl<|y5 (a6n (enc:=AV.str) rfl rfl (b3h ex41) (b3i ex41))<|x8 (.str x_40) rfl ⟨rfl,rfl⟩ rfl<|x8 (.bool (!(x_37 == x_40))) rfl trivial rfl<|dk<|?_
    rcases oi hc1 with ⟨c42,hc1⟩ | ⟨c42,hc1⟩
    ·refine y7 rfl c42<|sr<|l7 (.bool false) rfl<|dk<|a0d<|?_;obtain rfl:=os hc1;obtain rfl:=os hf;exact a0e ⟨trivial,trivial⟩ rfl (.refl _)
    ·refine y8 rfl (bf c42)<|a0h<|a3f<|a0f<|a0s<|l7 (.int .i64 (i_21:Int)) rfl<|x8 (.int .i64 (w64 ((i_21:Int) + 1))) rfl rfl rfl<|l7 (.int .i64 (w64 ((i_21:Int) + 1))) rfl<|a0b<|?_;exact a1q ⟨(i_21 + 1),hc1⟩ (mul hlt31) ⟨[],[],_,_,rfl,rfl,⟨.refl _,⟨.refl _,⟨.of_eq (congrArg (AV.int _) (a1w hlt31 hl39)),trivial⟩⟩⟩,(.refl _)⟩
  ·rintro ⟨_,rfl⟩
   refine sr<|l7 (.bool true) rfl<|dk<|a0d<|?_;obtain rfl:=os hf;exact a0e ⟨trivial,trivial⟩ rfl (.refl _)

/- laws.eqJsonS -/
def c99:a0m :=
 (.seq (.reg (tm 4 (.c (.bool false)) .done))
 (.seq (.seq (.reg (tm 6 (.t 0) (tq 7 (.len (.t 6)) (tm 8 (.t 1) (tq 9 (.len (.t 8)) (tq 10 (.bin .neq (.t 7) (.t 9)) .done))))))
 (.cond (.t 10) (.seq (.reg (tm 4 (.c (.bool false)) .done))
 .ret)
 .skip))
 (.seq (.seq (.reg (tm 5 (.c (.int .i64 0)) .done))
 (.block 0 (.loop (.seq (.seq (.reg (tm 11 (.t 5) (tm 12 (.t 0) (tq 13 (.len (.t 12)) (tq 14 (.bin .lss (.t 11) (.t 13)) .done)))))
 (.cond (.t 14) .skip
 (.exit 0)))
 (.seq (.block 1 (.seq (.reg (tm 17 (.t 0) (tm 18 (.t 5) (tq 19 (.iaddr 5 (.t 17) (.t 18)) (tq 20 (.load 5 true (.t 19)) (tm 21 (.t 1) (tm 22 (.t 5) (tq 23 (.iaddr 5 (.t 21) (.t 22)) (tq 24 (.load 5 true (.t 23)) (.l ⟨(some 25),none,.call 23 [(.t 20),(.t 24)]⟩ []
 (tq 26 (.not (.t 25)) .done) .non))))))))))
 (.cond (.t 26) (.seq (.reg (tm 4 (.c (.bool false)) .done))
 .ret)
 .skip)))
 (.reg (tm 15 (.t 5) (tq 16 (.bin .add (.t 15) (.c (.int .i64 1))) (tm 5 (.t 16) .done)))))))))
 (.cut (.seq (.reg (tm 4 (.c (.bool true)) .done))
 .ret)))))
theorem e6m:a1a Tryz.prog Tryz.f99 = some (c99.erase,[.mov (.t 4)],27):=by kernel_rfl
def a4i (b_2:(List o8)) (rec:(o8 → o8 → Option Bool)):List o8 → Nat → Option (Fl Bool Unit)
  | [],i_25 =>
    some (.go ())
  | x_43 :: xs,i_25 =>
    (idx b_2 (i_25:Int)).bind fun x_46 =>
    (rec x_43 x_46).bind fun r_48 =>
    if (!r_48) then
    some (.ret false)
    else
    a4i b_2 rec xs (i_25 + 1)

def a8k (rec:(o8 → o8 → Option Bool)) (a_1:(List o8)) (b_2:(List o8)):Option Bool :=
    if ((a_1.length:Int) != (b_2.length:Int)) then
    some false
    else
    (a4i b_2 rec a_1 0).bind fun q => (match q with
    | .ret r => some r
    | .go _ =>
    some true)
theorem c5b (rec:(o8 → o8 → Option Bool)) (hrec:∀ a0 a1 r,rec a0 a1 = some r → x9 Tryz.prog 23 .flat [(o5 a0),(o5 a1)] (.bool r)) (a_1:(List o8)) (b_2:(List o8)) (r:Bool) (hf:a8k rec a_1 b_2 = some r):x9 Tryz.prog 99 .flat [(.lst 5 (a_1.map o5)),(.lst 5 (b_2.map o5))] (.bool r):=by
 refine x9.of_awp mixed Tryz.func99 e6m nle ?_;rw [a0j];unfold a8k at hf;unfold c99;refine (show awp Tryz.prog false 0 _ (ofL [(0,(.lst 5 (a_1.map o5))),(1,(.lst 5 (b_2.map o5)))]) [] _ from ?_);refine sr<|l7 (.bool false) rfl<|dk<|o6<|sr<|l7 (.lst 5 (a_1.map o5)) rfl<|a0w (a1r (enc:=o5) rfl) fun hl3 => l7 (.lst 5 (b_2.map o5)) rfl<|a0w (a1r (enc:=o5) rfl) fun hl4 => x8 (.bool ((a_1.length:Int) != (b_2.length:Int))) rfl rfl rfl<|dk<|?_
 rcases oi hf with ⟨c5,hf⟩ | ⟨c5,hf⟩
 ·refine y7 rfl c5<|sr<|l7 (.bool false) rfl<|dk<|a0d<|?_;obtain rfl:=os hf;exact a0e ⟨trivial,trivial⟩ rfl (.refl _)
 ·refine y8 rfl (bf c5)<|a0h<|a0f<|o6<|sr<|l7 (.int .i64 0) rfl<|dk<|?_
  obtain ⟨p36,hb1,hf⟩:=ob hf
  refine a4n (X:={q:Unit // p36 = .go q}) (fun q => ([],[])) ?_ ?_
  ·refine a1g (X:={q:Nat // a4i b_2 rec (a_1.drop q) q = some p36}) (fun q => ([(0,(.lst 5 (a_1.map o5))),(1,(.lst 5 (b_2.map o5))),(5,(.int .i64 (q.1:Int)))],[])) (fun q => a_1.length - q.1) ⟨0,hb1⟩ ⟨[],[],_,_,rfl,rfl,⟨.refl _,⟨.refl _,⟨.refl _,trivial⟩⟩⟩,(.refl _)⟩ ?_
   rintro ⟨i_25,hc1⟩
   have hc1:a4i b_2 rec (a_1.drop i_25) i_25 = some p36:=hc1
   refine (show awp Tryz.prog false 0 _ (ofL [(0,(.lst 5 (a_1.map o5))),(1,(.lst 5 (b_2.map o5))),(5,(.int .i64 (i_25:Int)))]) [] _ from ?_)
   rcases a5z a_1 i_25 with ⟨hie39,hd42⟩ | ⟨hlt37,x_43,hx38,hd42⟩
   ·rw [hd42,a4i.eq_1] at hc1
    have hq41:=dlf hie39
    refine o6<|sr<|l7 (.int .i64 (i_25:Int)) rfl<|l7 (.lst 5 (a_1.map o5)) rfl<|a0w (a1r (enc:=o5) rfl) fun hl44 => x8 (.bool (decide ((i_25:Int) < (a_1.length:Int)))) rfl rfl rfl<|dk<|y8 rfl hq41<|a2t<|a2s<|a1y<|a2r<|?_;obtain rfl:=os hc1;exact a6r ⟨_,rfl⟩ ⟨[],[],_,_,rfl,rfl,trivial,(.refl _)⟩
   ·rw [hd42,a4i.eq_2] at hc1
    have hq41:=dlt hlt37
    refine o6<|sr<|l7 (.int .i64 (i_25:Int)) rfl<|l7 (.lst 5 (a_1.map o5)) rfl<|a0w (a1r (enc:=o5) rfl) fun hl45 => x8 (.bool (decide ((i_25:Int) < (a_1.length:Int)))) rfl rfl rfl<|dk<|y7 rfl hq41<|a0h<|a0f<|o6<|a3g<|sr<|?_
    obtain ⟨x_46,ex47,hc1⟩:=ob hc1
    obtain ⟨r_48,er49,hc1⟩:=ob hc1
    refine l7 (.lst 5 (a_1.map o5)) rfl<|l7 (.int .i64 (i_25:Int)) rfl<|y5 (a2c (enc:=o5) rfl rfl hx38)<|y5 (a7u (v:=(.agg [(.int .i64 x_43.Kind),(.int .i64 x_43.N),(.str x_43.T),(.lst 1 (x_43.Keys.map AV.str)),(.lst 5 (x_43.Items.map o5))])) rfl (y9 _) nle rfl)<|l7 (.lst 5 (b_2.map o5)) rfl<|l7 (.int .i64 (i_25:Int)) rfl<|y5 (a6n (enc:=o5) rfl rfl (b3h ex47) (b3i ex47))<|y5 (a7u (v:=(.agg [(.int .i64 x_46.Kind),(.int .i64 x_46.N),(.str x_46.T),(.lst 1 (x_46.Keys.map AV.str)),(.lst 5 (x_46.Items.map o5))])) rfl (y9 _) nle rfl)<|a0r (a0v (hrec _ _ _ er49) rfl (.cons (.of_eq (y9 x_43).symm) (.cons (.of_eq (y9 x_46).symm) .nil)) rfl) a7s trivial<|?_
    refine x8 (.bool (!r_48)) rfl trivial rfl<|dk<|?_
    rcases oi hc1 with ⟨c50,hc1⟩ | ⟨c50,hc1⟩
    ·refine y7 rfl c50<|sr<|l7 (.bool false) rfl<|dk<|a0d<|?_;obtain rfl:=os hc1;obtain rfl:=os hf;exact a0e ⟨trivial,trivial⟩ rfl (.refl _)
    ·refine y8 rfl (bf c50)<|a0h<|a3f<|a0f<|a0s<|l7 (.int .i64 (i_25:Int)) rfl<|x8 (.int .i64 (w64 ((i_25:Int) + 1))) rfl rfl rfl<|l7 (.int .i64 (w64 ((i_25:Int) + 1))) rfl<|a0b<|?_;exact a1q ⟨(i_25 + 1),hc1⟩ (mul hlt37) ⟨[],[],_,_,rfl,rfl,⟨.refl _,⟨.refl _,⟨.of_eq (congrArg (AV.int _) (a1w hlt37 hl45)),trivial⟩⟩⟩,(.refl _)⟩
  ·rintro ⟨_,rfl⟩
   refine sr<|l7 (.bool true) rfl<|dk<|a0d<|?_;obtain rfl:=os hf;exact a0e ⟨trivial,trivial⟩ rfl (.refl _)

/- laws.eqJson -/
def c23:a0m :=
 (.seq (.reg (tq 2 (.box 5 (.t 0)) (tq 3 (.box 5 (.t 1)) (tm 4 (.c (.bool false)) .done))))
 (.seq (.seq (.reg (tq 5 (.faddr 0 (.t 2)) (tq 6 (.load 1 false (.t 5)) (tq 7 (.faddr 0 (.t 3)) (tq 8 (.load 1 false (.t 7)) (tq 9 (.bin .neq (.t 6) (.t 8)) .done))))))
 (.cond (.t 9) (.seq (.reg (tm 4 (.c (.bool false)) .done))
 .ret)
 .skip))
 (.seq (.seq (.reg (tq 10 (.faddr 1 (.t 2)) (tq 11 (.load 1 false (.t 10)) (tq 12 (.faddr 1 (.t 3)) (tq 13 (.load 1 false (.t 12)) (tq 14 (.bin .neq (.t 11) (.t 13)) .done))))))
 (.cond (.t 14) (.seq (.reg (tm 4 (.c (.bool false)) .done))
 .ret)
 .skip))
 (.seq (.seq (.reg (tq 15 (.faddr 2 (.t 2)) (tq 16 (.load 1 false (.t 15)) (tq 17 (.faddr 2 (.t 3)) (tq 18 (.load 1 false (.t 17)) (tq 19 (.bin .neq (.t 16) (.t 18)) .done))))))
 (.cond (.t 19) (.seq (.reg (tm 4 (.c (.bool false)) .done))
 .ret)
 .skip))
 (.seq (.seq (.reg (tq 20 (.faddr 3 (.t 2)) (tq 21 (.load 1 false (.t 20)) (tq 22 (.faddr 3 (.t 3)) (tq 23 (.load 1 false (.t 22)) (tq 24 (.call 24 [(.t 21),(.t 23)]) (tq 25 (.not (.t 24)) .done)))))))
 (.cond (.t 25) (.seq (.reg (tm 4 (.c (.bool false)) .done))
 .ret)
 .skip))
 (.seq (.seq (.reg (tq 26 (.faddr 4 (.t 2)) (tq 27 (.load 1 false (.t 26)) (tq 28 (.faddr 4 (.t 3)) (tq 29 (.load 1 false (.t 28)) (tq 30 (.call 99 [(.t 27),(.t 29)]) (tq 31 (.not (.t 30)) .done)))))))
 (.cond (.t 31) (.seq (.reg (tm 4 (.c (.bool false)) .done))
 .ret)
 .skip))
 (.seq (.reg (tm 4 (.c (.bool true)) .done))
 .ret)))))))
theorem e6n:a1a Tryz.prog Tryz.f23 = some (c23.erase,[.mov (.t 4)],32):=by kernel_rfl
def b1j (rec:(o8 → o8 → Option Bool)) (a_1:o8) (b_2:o8):Option Bool :=
    if (a_1.Kind != b_2.Kind) then
    some false
    else
    if (a_1.N != b_2.N) then
    some false
    else
    if (!(a_1.T == b_2.T)) then
    some false
    else
    (a6u a_1.Keys b_2.Keys).bind fun r_6 =>
    if (!r_6) then
    some false
    else
    (a8k rec a_1.Items b_2.Items).bind fun r_9 =>
    if (!r_9) then
    some false
    else
    some true
theorem c2t (rec:(o8 → o8 → Option Bool)) (hrec:∀ a0 a1 r,rec a0 a1 = some r → x9 Tryz.prog 23 .flat [(o5 a0),(o5 a1)] (.bool r)) (a_1:o8) (b_2:o8) (r:Bool) (hf:b1j rec a_1 b_2 = some r):x9 Tryz.prog 23 .flat [(o5 a_1),(o5 b_2)] (.bool r):=by
 refine x9.of_awp mixed Tryz.func23 e6n nle ?_;rw [a0j];rw [y9 a_1,y9 b_2];unfold b1j at hf;unfold c23;refine (show awp Tryz.prog false 0 _ (ofL [(0,(.agg [(.int .i64 a_1.Kind),(.int .i64 a_1.N),(.str a_1.T),(.lst 1 (a_1.Keys.map AV.str)),(.lst 5 (a_1.Items.map o5))])),(1,(.agg [(.int .i64 b_2.Kind),(.int .i64 b_2.N),(.str b_2.T),(.lst 1 (b_2.Keys.map AV.str)),(.lst 5 (b_2.Items.map o5))]))]) [] _ from ?_);refine sr<|y5 (a1i (j:=0) (c:=(.agg [(.int .i64 a_1.Kind),(.int .i64 a_1.N),(.str a_1.T),(.lst 1 (a_1.Keys.map AV.str)),(.lst 5 (a_1.Items.map o5))])) rfl trivial rfl rfl)<|y5 (a1i (j:=1) (c:=(.agg [(.int .i64 b_2.Kind),(.int .i64 b_2.N),(.str b_2.T),(.lst 1 (b_2.Keys.map AV.str)),(.lst 5 (b_2.Items.map o5))])) rfl trivial rfl rfl)<|?_
 refine l7 (.bool false) rfl<|dk<|o6<|sr<|x8 (.ptr 0 0 0) rfl trivial rfl<|x8 (.int .i64 a_1.Kind) rfl nle rfl<|x8 (.ptr 1 0 0) rfl trivial rfl<|x8 (.int .i64 b_2.Kind) rfl nle rfl<|x8 (.bool (a_1.Kind != b_2.Kind)) rfl rfl rfl<|dk<|?_
 rcases oi hf with ⟨c3,hf⟩ | ⟨c3,hf⟩
 ·refine y7 rfl c3<|sr<|l7 (.bool false) rfl<|dk<|a0d<|?_;obtain rfl:=os hf;exact a0e ⟨trivial,trivial⟩ rfl (.refl _)
 ·refine y8 rfl (bf c3)<|a0h<|a0f<|o6<|sr<|x8 (.ptr 0 0 1) rfl trivial rfl<|x8 (.int .i64 a_1.N) rfl nle rfl<|x8 (.ptr 1 0 1) rfl trivial rfl<|x8 (.int .i64 b_2.N) rfl nle rfl<|x8 (.bool (a_1.N != b_2.N)) rfl rfl rfl<|dk<|?_
  rcases oi hf with ⟨c4,hf⟩ | ⟨c4,hf⟩
  ·refine y7 rfl c4<|sr<|l7 (.bool false) rfl<|dk<|a0d<|?_;obtain rfl:=os hf;exact a0e ⟨trivial,trivial⟩ rfl (.refl _)
  ·refine y8 rfl (bf c4)<|a0h<|a0f<|o6<|sr<|x8 (.ptr 0 0 2) rfl trivial rfl<|x8 (.str a_1.T) rfl nle rfl<|x8 (.ptr 1 0 2) rfl trivial rfl<|x8 (.str b_2.T) rfl nle rfl<|x8 (.bool (!(a_1.T == b_2.T))) rfl trivial rfl<|dk<|?_
   rcases oi hf with ⟨c5,hf⟩ | ⟨c5,hf⟩
   ·refine y7 rfl c5<|sr<|l7 (.bool false) rfl<|dk<|a0d<|?_;obtain rfl:=os hf;exact a0e ⟨trivial,trivial⟩ rfl (.refl _)
   ·refine y8 rfl (bf c5)<|a0h<|a0f<|o6<|sr<|?_
    obtain ⟨r_6,er7,hf⟩:=ob hf
    refine x8 (.ptr 0 0 3) rfl trivial rfl<|x8 (.lst 1 (a_1.Keys.map AV.str)) rfl nle rfl<|x8 (.ptr 1 0 3) rfl trivial rfl<|x8 (.lst 1 (b_2.Keys.map AV.str)) rfl nle rfl<|y5 (a0v (b4d _ _ _ er7) rfl (.refl _) rfl)<|x8 (.bool (!r_6)) rfl trivial rfl<|dk<|?_
    rcases oi hf with ⟨c8,hf⟩ | ⟨c8,hf⟩
    ·refine y7 rfl c8<|sr<|l7 (.bool false) rfl<|dk<|a0d<|?_;obtain rfl:=os hf;exact a0e ⟨trivial,trivial⟩ rfl (.refl _)
    ·refine y8 rfl (bf c8)<|a0h<|a0f<|o6<|sr<|?_
     obtain ⟨r_9,er10,hf⟩:=ob hf
     refine x8 (.ptr 0 0 4) rfl trivial rfl<|x8 (.lst 5 (a_1.Items.map o5)) rfl nle rfl<|x8 (.ptr 1 0 4) rfl trivial rfl<|x8 (.lst 5 (b_2.Items.map o5)) rfl nle rfl<|y5 (a0v (c5b rec hrec _ _ _ er10) rfl (.refl _) rfl)<|x8 (.bool (!r_9)) rfl trivial rfl<|dk<|?_
     rcases oi hf with ⟨c11,hf⟩ | ⟨c11,hf⟩
     ·refine y7 rfl c11<|sr<|l7 (.bool false) rfl<|dk<|a0d<|?_;obtain rfl:=os hf;exact a0e ⟨trivial,trivial⟩ rfl (.refl _)
     ·refine y8 rfl (bf c11)<|a0h<|a0f<|sr<|l7 (.bool true) rfl<|dk<|a0d<|?_;obtain rfl:=os hf;exact a0e ⟨trivial,trivial⟩ rfl (.refl _)
def a4y:Nat → o8 → o8 → Option Bool
 | 0,_,_ => none
 | k + 1,a_1,b_2 => b1j (a4y k) a_1 b_2
theorem a7i:∀ (k:Nat) (a_1:o8) (b_2:o8) (r:Bool),a4y k a_1 b_2 = some r → x9 Tryz.prog 23 .flat [(o5 a_1),(o5 b_2)] (.bool r)
 | 0,a_1,b_2,r,h => by rw [a4y.eq_1] at h;cases h
 | k + 1,a_1,b_2,r,h => by
  rw [a4y.eq_2] at h;exact c2t _ (a7i k) a_1 b_2 r h

/- laws.eqAtom -/
def e5h:a0m :=
 (.seq (.reg (tq 2 (.box 3 (.t 0)) (tq 3 (.box 3 (.t 1)) (tm 4 (.c (.bool false)) .done))))
 (.seq (.seq (.reg (tq 5 (.faddr 0 (.t 2)) (tq 6 (.load 1 false (.t 5)) (tq 7 (.faddr 0 (.t 3)) (tq 8 (.load 1 false (.t 7)) (tq 9 (.bin .neq (.t 6) (.t 8)) .done))))))
 (.cond (.t 9) (.seq (.reg (tm 4 (.c (.bool false)) .done))
 .ret)
 .skip))
 (.seq (.seq (.reg (tq 10 (.faddr 1 (.t 2)) (tq 11 (.load 1 false (.t 10)) (tq 12 (.faddr 1 (.t 3)) (tq 13 (.load 1 false (.t 12)) (tq 14 (.bin .neq (.t 11) (.t 13)) .done))))))
 (.cond (.t 14) (.seq (.reg (tm 4 (.c (.bool false)) .done))
 .ret)
 .skip))
 (.seq (.seq (.reg (tq 15 (.faddr 2 (.t 2)) (tq 16 (.load 1 false (.t 15)) (tq 17 (.faddr 2 (.t 3)) (tq 18 (.load 1 false (.t 17)) (tq 19 (.bin .neq (.t 16) (.t 18)) .done))))))
 (.cond (.t 19) (.seq (.reg (tm 4 (.c (.bool false)) .done))
 .ret)
 .skip))
 (.seq (.reg (tm 4 (.c (.bool true)) .done))
 .ret)))))
theorem e5i:a1a Tryz.prog Tryz.f289 = some (e5h.erase,[.mov (.t 4)],20):=by kernel_rfl
def b1v (a_1:a0a) (b_2:a0a):Option Bool :=
    if (a_1.Kind != b_2.Kind) then
    some false
    else
    if (a_1.N != b_2.N) then
    some false
    else
    if (!(a_1.T == b_2.T)) then
    some false
    else
    some true
theorem c6k (a_1:a0a) (b_2:a0a) (r:Bool) (hf:b1v a_1 b_2 = some r):x9 Tryz.prog 289 .flat [(l9 a_1),(l9 b_2)] (.bool r):=by
 refine x9.of_awp mixed Tryz.func289 e5i nle ?_;rw [a0j];unfold b1v at hf;unfold e5h;refine (show awp Tryz.prog false 0 _ (ofL [(0,(l9 a_1)),(1,(l9 b_2))]) [] _ from ?_);refine sr<|y5 (a1i (j:=0) (c:=(.agg [(.int .i64 a_1.Kind),(.int .i64 a_1.N),(.str a_1.T)])) rfl trivial rfl rfl)<|y5 (a1i (j:=1) (c:=(.agg [(.int .i64 b_2.Kind),(.int .i64 b_2.N),(.str b_2.T)])) rfl trivial rfl rfl)<|l7 (.bool false) rfl<|dk<|o6<|sr<|x8 (.ptr 0 0 0) rfl trivial rfl<|x8 (.int .i64 a_1.Kind) rfl nle rfl<|x8 (.ptr 1 0 0) rfl trivial rfl<|x8 (.int .i64 b_2.Kind) rfl nle rfl<|x8 (.bool (a_1.Kind != b_2.Kind)) rfl rfl rfl<|?_
 refine dk<|?_
 rcases oi hf with ⟨c3,hf⟩ | ⟨c3,hf⟩
 ·refine y7 rfl c3<|sr<|l7 (.bool false) rfl<|dk<|a0d<|?_;obtain rfl:=os hf;exact a0e ⟨trivial,trivial⟩ rfl (.refl _)
 ·refine y8 rfl (bf c3)<|a0h<|a0f<|o6<|sr<|x8 (.ptr 0 0 1) rfl trivial rfl<|x8 (.int .i64 a_1.N) rfl nle rfl<|x8 (.ptr 1 0 1) rfl trivial rfl<|x8 (.int .i64 b_2.N) rfl nle rfl<|x8 (.bool (a_1.N != b_2.N)) rfl rfl rfl<|dk<|?_
  rcases oi hf with ⟨c4,hf⟩ | ⟨c4,hf⟩
  ·refine y7 rfl c4<|sr<|l7 (.bool false) rfl<|dk<|a0d<|?_;obtain rfl:=os hf;exact a0e ⟨trivial,trivial⟩ rfl (.refl _)
  ·refine y8 rfl (bf c4)<|a0h<|a0f<|o6<|sr<|x8 (.ptr 0 0 2) rfl trivial rfl<|x8 (.str a_1.T) rfl nle rfl<|x8 (.ptr 1 0 2) rfl trivial rfl<|x8 (.str b_2.T) rfl nle rfl<|x8 (.bool (!(a_1.T == b_2.T))) rfl trivial rfl<|dk<|?_
   rcases oi hf with ⟨c5,hf⟩ | ⟨c5,hf⟩
   ·refine y7 rfl c5<|sr<|l7 (.bool false) rfl<|dk<|a0d<|?_;obtain rfl:=os hf;exact a0e ⟨trivial,trivial⟩ rfl (.refl _)
   ·refine y8 rfl (bf c5)<|a0h<|a0f<|sr<|l7 (.bool true) rfl<|dk<|a0d<|?_;obtain rfl:=os hf;exact a0e ⟨trivial,trivial⟩ rfl (.refl _)

/- laws.eqAtomS -/
def c201:a0m :=
 (.seq (.reg (tm 4 (.c (.bool false)) .done))
 (.seq (.seq (.reg (tm 6 (.t 0) (tq 7 (.len (.t 6)) (tm 8 (.t 1) (tq 9 (.len (.t 8)) (tq 10 (.bin .neq (.t 7) (.t 9)) .done))))))
 (.cond (.t 10) (.seq (.reg (tm 4 (.c (.bool false)) .done))
 .ret)
 .skip))
 (.seq (.seq (.reg (tm 5 (.c (.int .i64 0)) .done))
 (.block 0 (.loop (.seq (.seq (.reg (tm 11 (.t 5) (tm 12 (.t 0) (tq 13 (.len (.t 12)) (tq 14 (.bin .lss (.t 11) (.t 13)) .done)))))
 (.cond (.t 14) .skip
 (.exit 0)))
 (.seq (.block 1 (.seq (.reg (tm 17 (.t 0) (tm 18 (.t 5) (tq 19 (.iaddr 3 (.t 17) (.t 18)) (tq 20 (.load 3 true (.t 19)) (tm 21 (.t 1) (tm 22 (.t 5) (tq 23 (.iaddr 3 (.t 21) (.t 22)) (tq 24 (.load 3 true (.t 23)) (.l ⟨(some 25),none,.call 289 [(.t 20),(.t 24)]⟩ []
 (tq 26 (.not (.t 25)) .done) .non))))))))))
 (.cond (.t 26) (.seq (.reg (tm 4 (.c (.bool false)) .done))
 .ret)
 .skip)))
 (.reg (tm 15 (.t 5) (tq 16 (.bin .add (.t 15) (.c (.int .i64 1))) (tm 5 (.t 16) .done)))))))))
 (.cut (.seq (.reg (tm 4 (.c (.bool true)) .done))
 .ret)))))
theorem e5j:a1a Tryz.prog Tryz.f201 = some (c201.erase,[.mov (.t 4)],27):=by kernel_rfl
def a4j (b_2:(List a0a)):List a0a → Nat → Option (Fl Bool Unit)
  | [],i_25 =>
    some (.go ())
  | x_43 :: xs,i_25 =>
    (idx b_2 (i_25:Int)).bind fun x_46 =>
    (b1v x_43 x_46).bind fun r_48 =>
    if (!r_48) then
    some (.ret false)
    else
    a4j b_2 xs (i_25 + 1)

def b0p (a_1:(List a0a)) (b_2:(List a0a)):Option Bool :=
    if ((a_1.length:Int) != (b_2.length:Int)) then
    some false
    else
    (a4j b_2 a_1 0).bind fun q => (match q with
    | .ret r => some r
    | .go _ =>
    some true)
theorem c5c (a_1:(List a0a)) (b_2:(List a0a)) (r:Bool) (hf:b0p a_1 b_2 = some r):x9 Tryz.prog 201 .flat [(.lst 3 (a_1.map l9)),(.lst 3 (b_2.map l9))] (.bool r):=by
 refine x9.of_awp mixed Tryz.func201 e5j nle ?_;rw [a0j];unfold b0p at hf;unfold c201;refine (show awp Tryz.prog false 0 _ (ofL [(0,(.lst 3 (a_1.map l9))),(1,(.lst 3 (b_2.map l9)))]) [] _ from ?_);refine sr<|l7 (.bool false) rfl<|dk<|o6<|sr<|l7 (.lst 3 (a_1.map l9)) rfl<|a0w (a1r (enc:=l9) rfl) fun hl3 => l7 (.lst 3 (b_2.map l9)) rfl<|a0w (a1r (enc:=l9) rfl) fun hl4 => x8 (.bool ((a_1.length:Int) != (b_2.length:Int))) rfl rfl rfl<|dk<|?_
 rcases oi hf with ⟨c5,hf⟩ | ⟨c5,hf⟩
 ·refine y7 rfl c5<|sr<|l7 (.bool false) rfl<|dk<|a0d<|?_;obtain rfl:=os hf;exact a0e ⟨trivial,trivial⟩ rfl (.refl _)
 ·refine y8 rfl (bf c5)<|a0h<|a0f<|o6<|sr<|l7 (.int .i64 0) rfl<|dk<|?_
  obtain ⟨p36,hb1,hf⟩:=ob hf
  refine a4n (X:={q:Unit // p36 = .go q}) (fun q => ([],[])) ?_ ?_
  ·refine a1g (X:={q:Nat // a4j b_2 (a_1.drop q) q = some p36}) (fun q => ([(0,(.lst 3 (a_1.map l9))),(1,(.lst 3 (b_2.map l9))),(5,(.int .i64 (q.1:Int)))],[])) (fun q => a_1.length - q.1) ⟨0,hb1⟩ ⟨[],[],_,_,rfl,rfl,⟨.refl _,⟨.refl _,⟨.refl _,trivial⟩⟩⟩,(.refl _)⟩ ?_
   rintro ⟨i_25,hc1⟩
   have hc1:a4j b_2 (a_1.drop i_25) i_25 = some p36:=hc1
   refine (show awp Tryz.prog false 0 _ (ofL [(0,(.lst 3 (a_1.map l9))),(1,(.lst 3 (b_2.map l9))),(5,(.int .i64 (i_25:Int)))]) [] _ from ?_)
   rcases a5z a_1 i_25 with ⟨hie39,hd42⟩ | ⟨hlt37,x_43,hx38,hd42⟩
   ·rw [hd42,a4j.eq_1] at hc1
    have hq41:=dlf hie39
    refine o6<|sr<|l7 (.int .i64 (i_25:Int)) rfl<|l7 (.lst 3 (a_1.map l9)) rfl<|a0w (a1r (enc:=l9) rfl) fun hl44 => x8 (.bool (decide ((i_25:Int) < (a_1.length:Int)))) rfl rfl rfl<|dk<|y8 rfl hq41<|a2t<|a2s<|a1y<|a2r<|?_;obtain rfl:=os hc1;exact a6r ⟨_,rfl⟩ ⟨[],[],_,_,rfl,rfl,trivial,(.refl _)⟩
   ·rw [hd42,a4j.eq_2] at hc1
    have hq41:=dlt hlt37
    refine o6<|sr<|l7 (.int .i64 (i_25:Int)) rfl<|l7 (.lst 3 (a_1.map l9)) rfl<|a0w (a1r (enc:=l9) rfl) fun hl45 => x8 (.bool (decide ((i_25:Int) < (a_1.length:Int)))) rfl rfl rfl<|dk<|y7 rfl hq41<|a0h<|a0f<|o6<|a3g<|sr<|?_
    obtain ⟨x_46,ex47,hc1⟩:=ob hc1
    obtain ⟨r_48,er49,hc1⟩:=ob hc1
    refine l7 (.lst 3 (a_1.map l9)) rfl<|l7 (.int .i64 (i_25:Int)) rfl<|y5 (a2c (enc:=l9) rfl rfl hx38)<|x8 (l9 x_43) rfl nle rfl<|l7 (.lst 3 (b_2.map l9)) rfl<|l7 (.int .i64 (i_25:Int)) rfl<|y5 (a6n (enc:=l9) rfl rfl (b3h ex47) (b3i ex47))<|x8 (l9 x_46) rfl nle rfl<|a0r (a0v (c6k _ _ _ er49) rfl (.refl _) rfl) a7s trivial<|x8 (.bool (!r_48)) rfl trivial rfl<|dk<|?_
    rcases oi hc1 with ⟨c50,hc1⟩ | ⟨c50,hc1⟩
    ·refine y7 rfl c50<|sr<|l7 (.bool false) rfl<|dk<|a0d<|?_;obtain rfl:=os hc1;obtain rfl:=os hf;exact a0e ⟨trivial,trivial⟩ rfl (.refl _)
    ·refine y8 rfl (bf c50)<|a0h<|a3f<|a0f<|a0s<|l7 (.int .i64 (i_25:Int)) rfl<|x8 (.int .i64 (w64 ((i_25:Int) + 1))) rfl rfl rfl<|l7 (.int .i64 (w64 ((i_25:Int) + 1))) rfl<|a0b<|?_;exact a1q ⟨(i_25 + 1),hc1⟩ (mul hlt37) ⟨[],[],_,_,rfl,rfl,⟨.refl _,⟨.refl _,⟨.of_eq (congrArg (AV.int _) (a1w hlt37 hl45)),trivial⟩⟩⟩,(.refl _)⟩
  ·rintro ⟨_,rfl⟩
   refine sr<|l7 (.bool true) rfl<|dk<|a0d<|?_;obtain rfl:=os hf;exact a0e ⟨trivial,trivial⟩ rfl (.refl _)

/- laws.eqAtomSS -/
def e5k:a0m :=
 (.seq (.reg (tm 4 (.c (.bool false)) .done))
 (.seq (.seq (.reg (tm 6 (.t 0) (tq 7 (.len (.t 6)) (tm 8 (.t 1) (tq 9 (.len (.t 8)) (tq 10 (.bin .neq (.t 7) (.t 9)) .done))))))
 (.cond (.t 10) (.seq (.reg (tm 4 (.c (.bool false)) .done))
 .ret)
 .skip))
 (.seq (.seq (.reg (tm 5 (.c (.int .i64 0)) .done))
 (.block 0 (.loop (.seq (.seq (.reg (tm 11 (.t 5) (tm 12 (.t 0) (tq 13 (.len (.t 12)) (tq 14 (.bin .lss (.t 11) (.t 13)) .done)))))
 (.cond (.t 14) .skip
 (.exit 0)))
 (.seq (.block 1 (.seq (.reg (tm 17 (.t 0) (tm 18 (.t 5) (tq 19 (.iaddr 1 (.t 17) (.t 18)) (tq 20 (.load 1 false (.t 19)) (tm 21 (.t 1) (tm 22 (.t 5) (tq 23 (.iaddr 1 (.t 21) (.t 22)) (tq 24 (.load 1 false (.t 23)) (.l ⟨(some 25),none,.call 201 [(.t 20),(.t 24)]⟩ []
 (tq 26 (.not (.t 25)) .done) .non))))))))))
 (.cond (.t 26) (.seq (.reg (tm 4 (.c (.bool false)) .done))
 .ret)
 .skip)))
 (.reg (tm 15 (.t 5) (tq 16 (.bin .add (.t 15) (.c (.int .i64 1))) (tm 5 (.t 16) .done)))))))))
 (.cut (.seq (.reg (tm 4 (.c (.bool true)) .done))
 .ret)))))
theorem e5l:a1a Tryz.prog Tryz.f100 = some (e5k.erase,[.mov (.t 4)],27):=by kernel_rfl
def a3p (b_2:(List (List a0a))):List (List a0a) → Nat → Option (Fl Bool Unit)
  | [],i_25 =>
    some (.go ())
  | x_43 :: xs,i_25 =>
    (idx b_2 (i_25:Int)).bind fun x_46 =>
    (b0p x_43 x_46).bind fun r_48 =>
    if (!r_48) then
    some (.ret false)
    else
    a3p b_2 xs (i_25 + 1)

def a8y (a_1:(List (List a0a))) (b_2:(List (List a0a))):Option Bool :=
    if ((a_1.length:Int) != (b_2.length:Int)) then
    some false
    else
    (a3p b_2 a_1 0).bind fun q => (match q with
    | .ret r => some r
    | .go _ =>
    some true)
theorem c2u (a_1:(List (List a0a))) (b_2:(List (List a0a))) (r:Bool) (hf:a8y a_1 b_2 = some r):x9 Tryz.prog 100 .flat [(.lst 1 (a_1.map (a0t 3 l9))),(.lst 1 (b_2.map (a0t 3 l9)))] (.bool r):=by
 refine x9.of_awp mixed Tryz.func100 e5l nle ?_;rw [a0j];unfold a8y at hf;unfold e5k;refine (show awp Tryz.prog false 0 _ (ofL [(0,(.lst 1 (a_1.map (a0t 3 l9)))),(1,(.lst 1 (b_2.map (a0t 3 l9))))]) [] _ from ?_);refine sr<|l7 (.bool false) rfl<|dk<|o6<|sr<|l7 (.lst 1 (a_1.map (a0t 3 l9))) rfl<|a0w (a1r (enc:=(a0t 3 l9)) rfl) fun hl3 => l7 (.lst 1 (b_2.map (a0t 3 l9))) rfl<|a0w (a1r (enc:=(a0t 3 l9)) rfl) fun hl4 => x8 (.bool ((a_1.length:Int) != (b_2.length:Int))) rfl rfl rfl<|dk<|?_
 rcases oi hf with ⟨c5,hf⟩ | ⟨c5,hf⟩
 ·refine y7 rfl c5<|sr<|l7 (.bool false) rfl<|dk<|a0d<|?_;obtain rfl:=os hf;exact a0e ⟨trivial,trivial⟩ rfl (.refl _)
 ·refine y8 rfl (bf c5)<|a0h<|a0f<|o6<|sr<|l7 (.int .i64 0) rfl<|dk<|?_
  obtain ⟨p36,hb1,hf⟩:=ob hf
  refine a4n (X:={q:Unit // p36 = .go q}) (fun q => ([],[])) ?_ ?_
  ·refine a1g (X:={q:Nat // a3p b_2 (a_1.drop q) q = some p36}) (fun q => ([(0,(.lst 1 (a_1.map (a0t 3 l9)))),(1,(.lst 1 (b_2.map (a0t 3 l9)))),(5,(.int .i64 (q.1:Int)))],[])) (fun q => a_1.length - q.1) ⟨0,hb1⟩ ⟨[],[],_,_,rfl,rfl,⟨.refl _,⟨.refl _,⟨.refl _,trivial⟩⟩⟩,(.refl _)⟩ ?_
   rintro ⟨i_25,hc1⟩
   have hc1:a3p b_2 (a_1.drop i_25) i_25 = some p36:=hc1
   refine (show awp Tryz.prog false 0 _ (ofL [(0,(.lst 1 (a_1.map (a0t 3 l9)))),(1,(.lst 1 (b_2.map (a0t 3 l9)))),(5,(.int .i64 (i_25:Int)))]) [] _ from ?_)
   rcases a5z a_1 i_25 with ⟨hie39,hd42⟩ | ⟨hlt37,x_43,hx38,hd42⟩
   ·rw [hd42,a3p.eq_1] at hc1
    have hq41:=dlf hie39
    refine o6<|sr<|l7 (.int .i64 (i_25:Int)) rfl<|l7 (.lst 1 (a_1.map (a0t 3 l9))) rfl<|a0w (a1r (enc:=(a0t 3 l9)) rfl) fun hl44 => x8 (.bool (decide ((i_25:Int) < (a_1.length:Int)))) rfl rfl rfl<|dk<|y8 rfl hq41<|a2t<|a2s<|a1y<|a2r<|?_;obtain rfl:=os hc1;exact a6r ⟨_,rfl⟩ ⟨[],[],_,_,rfl,rfl,trivial,(.refl _)⟩
   ·rw [hd42,a3p.eq_2] at hc1
    have hq41:=dlt hlt37
    refine o6<|sr<|l7 (.int .i64 (i_25:Int)) rfl<|l7 (.lst 1 (a_1.map (a0t 3 l9))) rfl<|a0w (a1r (enc:=(a0t 3 l9)) rfl) fun hl45 => x8 (.bool (decide ((i_25:Int) < (a_1.length:Int)))) rfl rfl rfl<|dk<|y7 rfl hq41<|a0h<|a0f<|o6<|a3g<|sr<|?_
    obtain ⟨x_46,ex47,hc1⟩:=ob hc1
    obtain ⟨r_48,er49,hc1⟩:=ob hc1
    refine l7 (.lst 1 (a_1.map (a0t 3 l9))) rfl<|l7 (.int .i64 (i_25:Int)) rfl<|y5 (a2c (enc:=(a0t 3 l9)) rfl rfl hx38)<|x8 (.lst 3 (x_43.map l9)) rfl ⟨rfl,rfl⟩ rfl<|l7 (.lst 1 (b_2.map (a0t 3 l9))) rfl<|l7 (.int .i64 (i_25:Int)) rfl<|y5 (a6n (enc:=(a0t 3 l9)) rfl rfl (b3h ex47) (b3i ex47))<|x8 (.lst 3 (x_46.map l9)) rfl ⟨rfl,rfl⟩ rfl<|a0r (a0v (c5c _ _ _ er49) rfl (.refl _) rfl) a7s trivial<|x8 (.bool (!r_48)) rfl trivial rfl<|dk<|?_
    rcases oi hc1 with ⟨c50,hc1⟩ | ⟨c50,hc1⟩
    ·refine y7 rfl c50<|sr<|l7 (.bool false) rfl<|dk<|a0d<|?_;obtain rfl:=os hc1;obtain rfl:=os hf;exact a0e ⟨trivial,trivial⟩ rfl (.refl _)
    ·refine y8 rfl (bf c50)<|a0h<|a3f<|a0f<|a0s<|l7 (.int .i64 (i_25:Int)) rfl<|x8 (.int .i64 (w64 ((i_25:Int) + 1))) rfl rfl rfl<|l7 (.int .i64 (w64 ((i_25:Int) + 1))) rfl<|a0b<|?_;exact a1q ⟨(i_25 + 1),hc1⟩ (mul hlt37) ⟨[],[],_,_,rfl,rfl,⟨.refl _,⟨.refl _,⟨.of_eq (congrArg (AV.int _) (a1w hlt37 hl45)),trivial⟩⟩⟩,(.refl _)⟩
  ·rintro ⟨_,rfl⟩
   refine sr<|l7 (.bool true) rfl<|dk<|a0d<|?_;obtain rfl:=os hf;exact a0e ⟨trivial,trivial⟩ rfl (.refl _)

/- laws.eqRow -/
def c25:a0m :=
 (.seq (.reg (tq 2 (.box 2 (.t 0)) (tq 3 (.box 2 (.t 1)) (tm 4 (.c (.bool false)) .done))))
 (.seq (.seq (.reg (tq 5 (.faddr 0 (.t 2)) (tq 6 (.load 1 false (.t 5)) (tq 7 (.faddr 0 (.t 3)) (tq 8 (.load 1 false (.t 7)) (tq 9 (.bin .neq (.t 6) (.t 8)) .done))))))
 (.cond (.t 9) (.seq (.reg (tm 4 (.c (.bool false)) .done))
 .ret)
 .skip))
 (.seq (.seq (.reg (tq 10 (.faddr 1 (.t 2)) (tq 11 (.load 1 false (.t 10)) (tq 12 (.faddr 1 (.t 3)) (tq 13 (.load 1 false (.t 12)) (tq 14 (.call 100 [(.t 11),(.t 13)]) (tq 15 (.not (.t 14)) .done)))))))
 (.cond (.t 15) (.seq (.reg (tm 4 (.c (.bool false)) .done))
 .ret)
 .skip))
 (.seq (.reg (tm 4 (.c (.bool true)) .done))
 .ret))))
theorem e6o:a1a Tryz.prog Tryz.f25 = some (c25.erase,[.mov (.t 4)],16):=by kernel_rfl
def b3b (a_1:a3r) (b_2:a3r):Option Bool :=
    if (a_1.Id != b_2.Id) then
    some false
    else
    (a8y a_1.Cells b_2.Cells).bind fun r_4 =>
    if (!r_4) then
    some false
    else
    some true
theorem c9h (a_1:a3r) (b_2:a3r) (r:Bool) (hf:b3b a_1 b_2 = some r):x9 Tryz.prog 25 .flat [(a3t a_1),(a3t b_2)] (.bool r):=by
 refine x9.of_awp mixed Tryz.func25 e6o nle ?_;rw [a0j];unfold b3b at hf;unfold c25;refine (show awp Tryz.prog false 0 _ (ofL [(0,(a3t a_1)),(1,(a3t b_2))]) [] _ from ?_);refine sr<|y5 (a1i (j:=0) (c:=(.agg [(.int .i64 a_1.Id),(.lst 1 (a_1.Cells.map (a0t 3 l9)))])) rfl trivial rfl rfl)<|y5 (a1i (j:=1) (c:=(.agg [(.int .i64 b_2.Id),(.lst 1 (b_2.Cells.map (a0t 3 l9)))])) rfl trivial rfl rfl)<|l7 (.bool false) rfl<|dk<|o6<|sr<|x8 (.ptr 0 0 0) rfl trivial rfl<|x8 (.int .i64 a_1.Id) rfl nle rfl<|x8 (.ptr 1 0 0) rfl trivial rfl<|x8 (.int .i64 b_2.Id) rfl nle rfl<|x8 (.bool (a_1.Id != b_2.Id)) rfl rfl rfl<|?_
 refine dk<|?_
 rcases oi hf with ⟨c3,hf⟩ | ⟨c3,hf⟩
 ·refine y7 rfl c3<|sr<|l7 (.bool false) rfl<|dk<|a0d<|?_;obtain rfl:=os hf;exact a0e ⟨trivial,trivial⟩ rfl (.refl _)
 ·refine y8 rfl (bf c3)<|a0h<|a0f<|o6<|sr<|?_
  obtain ⟨r_4,er5,hf⟩:=ob hf
  refine x8 (.ptr 0 0 1) rfl trivial rfl<|x8 (.lst 1 (a_1.Cells.map (a0t 3 l9))) rfl nle rfl<|x8 (.ptr 1 0 1) rfl trivial rfl<|x8 (.lst 1 (b_2.Cells.map (a0t 3 l9))) rfl nle rfl<|y5 (a0v (c2u _ _ _ er5) rfl (.refl _) rfl)<|x8 (.bool (!r_4)) rfl trivial rfl<|dk<|?_
  rcases oi hf with ⟨c6,hf⟩ | ⟨c6,hf⟩
  ·refine y7 rfl c6<|sr<|l7 (.bool false) rfl<|dk<|a0d<|?_;obtain rfl:=os hf;exact a0e ⟨trivial,trivial⟩ rfl (.refl _)
  ·refine y8 rfl (bf c6)<|a0h<|a0f<|sr<|l7 (.bool true) rfl<|dk<|a0d<|?_;obtain rfl:=os hf;exact a0e ⟨trivial,trivial⟩ rfl (.refl _)

/- laws.markText -/
def d5b:a0m :=
 (.seq (.reg (tm 2 (.c (.str [])) .done))
 (.seq (.seq (.reg (tm 4 (.t 0) (tq 5 (.bin .leq (.t 4) (.c (.int .i64 0))) .done)))
 (.cond (.t 5) (.seq (.reg (tm 2 (.c (.str [109,48])) .done))
 .ret)
 .skip))
 (.seq (.reg (tm 3 (.c (.str [])) .done))
 (.seq (.block 0 (.loop (.seq (.seq (.reg (tm 6 (.t 0) (tq 7 (.bin .gtr (.t 6) (.c (.int .i64 0))) .done)))
 (.cond (.t 7) .skip
 (.exit 0)))
 (.block 1 (.seq (.reg (tm 8 (.t 0) (tq 9 (.bin .rem (.t 8) (.c (.int .i64 10))) (tq 10 (.bin .add (.c (.int .i64 48)) (.t 9)) (tq 11 (.convI .u8 (.t 10)) (tq 12 (.bslice 1 [(.t 11)]) (tq 13 (.convBS (.t 12)) (tm 14 (.t 3) (tq 15 (.bin .add (.t 13) (.t 14)) (tm 3 (.t 15) .done))))))))))
 (.reg (tm 16 (.t 0) (tq 17 (.bin .quo (.t 16) (.c (.int .i64 10))) (tm 0 (.t 17) .done)))))))))
 (.cut (.seq (.reg (tm 18 (.t 3) (tq 19 (.bin .add (.c (.str [109])) (.t 18)) (tm 2 (.t 19) .done))))
 .ret))))))
theorem e5m:a1a Tryz.prog Tryz.f101 = some (d5b.erase,[.mov (.t 2)],20):=by kernel_rfl
def a3q :Nat → Int → Str → Option Str
  | 0,_,_ => none
  | k + 1,k_9,out_10 =>
    if (decide (k_9 > 0)) then
    if (d1d [IntKind.u8.wrap (w64 (48 + (k_9.tmod 10)))]).length + out_10.length ≤ maxLen then
    a3q k (w64 (k_9.tdiv 10)) ((d1d [IntKind.u8.wrap (w64 (48 + (k_9.tmod 10)))]) ++ out_10)
    else none
    else
    some out_10

def a3x (k_1:Int):Option Str :=
    if (decide (k_1 ≤ 0)) then
    some [109,48]
    else
    (a3q FUEL k_1 []).bind fun out_13 =>
    if [109].length + out_13.length ≤ maxLen then
    some ([109] ++ out_13)
    else none
theorem a7d (k_1:Int) (r:Str) (hf:a3x k_1 = some r):x9 Tryz.prog 101 .flat [(.int .i64 k_1)] (.str r):=by
 refine x9.of_awp mixed Tryz.func101 e5m nle ?_;rw [a0j];unfold a3x at hf;unfold d5b;refine (show awp Tryz.prog false 0 _ (ofL [(0,(.int .i64 k_1))]) [] _ from ?_);refine sr<|l7 (.str []) rfl<|dk<|o6<|sr<|l7 (.int .i64 k_1) rfl<|x8 (.bool (decide (k_1 ≤ 0))) rfl rfl rfl<|dk<|?_
 rcases oi hf with ⟨c2,hf⟩ | ⟨c2,hf⟩
 ·refine y7 rfl c2<|sr<|l7 (.str [109,48]) rfl<|dk<|a0d<|?_;obtain rfl:=os hf;exact a0e ⟨trivial,trivial⟩ rfl (.refl _)
 ·refine y8 rfl (bf c2)<|a0h<|a0f<|sr<|l7 (.str []) rfl<|dk<|o6<|?_
  obtain ⟨out_13,hb1,hf⟩:=ob hf
  refine a2a ([(3,(.str out_13))],[]) ?_ ?_
  ·refine a1g (X:={q:(Nat × Int × Str) // a3q q.1 q.2.1 q.2.2 = some out_13}) (fun q => ([(0,(.int .i64 q.1.2.1)),(3,(.str q.1.2.2))],[])) (fun q => q.1.1) ⟨(FUEL,k_1,[]),hb1⟩ ⟨[],[],_,_,rfl,rfl,⟨.refl _,⟨.refl _,trivial⟩⟩,(.refl _)⟩ ?_
   rintro ⟨⟨k,k_9,out_10⟩,hc1⟩
   have hc1:a3q k k_9 out_10 = some out_13:=hc1
   refine (show awp Tryz.prog false 0 _ (ofL [(0,(.int .i64 k_9)),(3,(.str out_10))]) [] _ from ?_)
   rcases k with _ | k
   ·rw [a3q.eq_1] at hc1
    cases hc1
   ·rw [a3q.eq_2] at hc1;refine o6<|sr<|l7 (.int .i64 k_9) rfl<|x8 (.bool (decide (k_9 > 0))) rfl rfl rfl<|dk<|?_
    rcases oi hc1 with ⟨c15,hc1⟩ | ⟨c15,hc1⟩
    ·refine y7 rfl c15<|a0h<|a0f<|a3g<|sr<|?_
     obtain ⟨g16,hc1⟩:=og hc1
     refine l7 (.int .i64 k_9) rfl<|x8 (.int .i64 (k_9.tmod 10)) rfl ⟨rfl,by decide⟩ rfl<|x8 (.int .i64 (w64 (48 + (k_9.tmod 10)))) rfl rfl rfl<|x8 (.int .u8 (IntKind.u8.wrap (w64 (48 + (k_9.tmod 10))))) rfl trivial rfl<|?_;refine y5 (a1f (j:=0) (as':=[(.int .u8 (IntKind.u8.wrap (w64 (48 + (k_9.tmod 10)))))]) rfl (fun _ => by decide) ⟨rfl,trivial⟩ (.refl _) rfl rfl rfl) ?_;refine y5 (d4z (l:=[IntKind.u8.wrap (w64 (48 + (k_9.tmod 10)))]) rfl rfl (by simp))<|l7 (.str out_10) rfl<|x8 (.str ((d1d [IntKind.u8.wrap (w64 (48 + (k_9.tmod 10)))]) ++ out_10)) rfl g16 rfl<|l7 (.str ((d1d [IntKind.u8.wrap (w64 (48 + (k_9.tmod 10)))]) ++ out_10)) rfl<|dk<|a0s<|l7 (.int .i64 k_9) rfl<|?_
     refine x8 (.int .i64 (w64 (k_9.tdiv 10))) rfl ⟨rfl,by decide⟩ rfl<|l7 (.int .i64 (w64 (k_9.tdiv 10))) rfl<|a0b<|a3f<|?_;exact a1q ⟨(k,w64 (k_9.tdiv 10),(d1d [IntKind.u8.wrap (w64 (48 + (k_9.tmod 10)))]) ++ out_10),hc1⟩ (Nat.lt_succ_self _) ⟨[],[],_,_,rfl,rfl,⟨.refl _,⟨.refl _,trivial⟩⟩,(.refl _)⟩
    ·refine y8 rfl (bf c15)<|a2t<|a2s<|a1y<|a2r<|?_;obtain rfl:=os hc1;exact ⟨[],[],_,_,rfl,rfl,⟨.refl _,trivial⟩,(.refl _)⟩
  ·refine sr<|?_
   obtain ⟨g17,hf⟩:=og hf
   refine l7 (.str out_13) rfl<|x8 (.str ([109] ++ out_13)) rfl g17 rfl<|l7 (.str ([109] ++ out_13)) rfl<|dk<|a0d<|?_;obtain rfl:=os hf;exact a0e ⟨trivial,trivial⟩ rfl (.refl _)

/- laws.markStringS -/
def d7w:a0m :=
 (.seq (.reg (tm 4 (.c (.int .i64 0)) .done))
 (.seq (.seq (.reg (tm 5 (.c (.int .i64 0)) .done))
 (.block 0 (.loop (.seq (.seq (.reg (tm 6 (.t 5) (tm 7 (.t 0) (tq 8 (.len (.t 7)) (tq 9 (.bin .lss (.t 6) (.t 8)) .done)))))
 (.cond (.t 9) .skip
 (.exit 0)))
 (.seq (.block 1 (.seq (.reg (tm 12 (.t 0) (tm 13 (.t 5) (tm 14 (.t 1) (tq 15 (.call 101 [(.t 14)]) (tq 16 (.iaddr 1 (.t 12) (.t 13)) (.q ⟨none,none,.store 1 (.t 16) (.t 15)⟩
 .done)))))))
 (.reg (tm 17 (.t 1) (tq 18 (.bin .add (.t 17) (.c (.int .i64 1))) (tm 1 (.t 18) .done))))))
 (.reg (tm 10 (.t 5) (tq 11 (.bin .add (.t 10) (.c (.int .i64 1))) (tm 5 (.t 11) .done)))))))))
 (.cut (.seq (.reg (tm 19 (.t 1) (tm 4 (.t 19) .done)))
 .ret))))
theorem d9p:a1a Tryz.prog Tryz.f26 = some (d7w.erase,[.mov (.t 4)],20):=by kernel_rfl
def a2l :Nat → Int → Int → (List Str) → Option (Int × (List Str))
  | 0,_,_,_ => none
  | k + 1,k_48,i_49,a_50 =>
    if (decide (i_49 < (a_50.length:Int))) then
    (a3x k_48).bind fun r_63 =>
    if (0:Int) ≤ i_49 ∧ i_49 < (a_50.length:Int) then
    (a_50[(0 + i_49.toNat)]?).bind fun x_66 =>
    a2l k (w64 (k_48 + 1)) (w64 (i_49 + 1)) (a_50.set (0 + i_49.toNat) r_63)
    else none
    else
    some (k_48,a_50)

def a5g (a_1:(List Str)) (k_2:Int):Option (Int × (List Str)) :=
    (a2l FUEL k_2 0 a_1).bind fun p60 =>
    (match p60 with
    | (k_58,l_59) =>
    some (k_58,l_59))
theorem a9i (a_1:(List Str)) (k_2:Int) (r:(Int × (List Str))) (hf:a5g a_1 k_2 = some r):a0z Tryz.prog ⟨true,true,false⟩ 26 [(.own 0 0 a_1.length),(.int .i64 k_2)] [.row 1 (a_1.map AV.str)] (.int .i64 r.1) [.row 1 (r.2.map AV.str)]:=by
 refine a0z.of_awp mixed Tryz.func26 d9p nle ?_;rw [a0j];unfold a5g at hf;unfold d7w;refine (show awp Tryz.prog ⟨true,true,false⟩ 1 _ (ofL [(0,(.own 0 0 a_1.length)),(1,(.int .i64 k_2))]) [.row 1 (a_1.map AV.str)] _ from ?_);refine sr<|l7 (.int .i64 0) rfl<|dk<|o6<|sr<|l7 (.int .i64 0) rfl<|dk<|?_
 obtain ⟨p60,hb1,hf⟩:=ob hf
 refine a2a ([(1,(.int .i64 p60.1))],[.row 1 (p60.2.map AV.str)]) ?_ ?_
 ·refine a1g (X:={q:(Nat × Int × Int × (List Str)) // a2l q.1 q.2.1 q.2.2.1 q.2.2.2 = some p60}) (fun q => ([(0,(.own 0 0 q.1.2.2.2.length)),(1,(.int .i64 q.1.2.1)),(5,(.int .i64 q.1.2.2.1))],[.row 1 (q.1.2.2.2.map AV.str)])) (fun q => q.1.1) ⟨(FUEL,k_2,0,a_1),hb1⟩ ⟨[],[0],_,_,rfl,rfl,⟨.refl _,⟨.refl _,⟨.refl _,trivial⟩⟩⟩,(.refl _)⟩ ?_
  rintro ⟨⟨k,k_48,i_49,a_50⟩,hc1⟩
  have hc1:a2l k k_48 i_49 a_50 = some p60:=hc1
  refine (show awp Tryz.prog ⟨true,true,false⟩ 1 _ (ofL [(0,(.own 0 0 a_50.length)),(1,(.int .i64 k_48)),(5,(.int .i64 i_49))]) [.row 1 (a_50.map AV.str)] _ from ?_)
  rcases k with _ | k
  ·rw [a2l.eq_1] at hc1
   cases hc1
  ·rw [a2l.eq_2] at hc1;refine o6<|sr<|l7 (.int .i64 i_49) rfl<|l7 (.own 0 0 a_50.length) rfl<|a0w (a6s rfl rfl) fun hl61 => x8 (.bool (decide (i_49 < (a_50.length:Int)))) rfl (.of rfl trivial) rfl<|dk<|?_
   rcases oi hc1 with ⟨c62,hc1⟩ | ⟨c62,hc1⟩
   ·refine y7 rfl c62<|a0h<|a0f<|o6<|a3g<|sr<|?_
    obtain ⟨r_63,er64,hc1⟩:=ob hc1
    obtain ⟨g65,hc1⟩:=og hc1
    obtain ⟨x_66,ex67,hc1⟩:=ob hc1
    refine l7 (.own 0 0 a_50.length) rfl<|l7 (.int .i64 i_49) rfl<|l7 (.int .i64 k_48) rfl<|y5 (a0v (a7d _ _ er64) rfl (.refl _) rfl)<|y5 (a1v rfl rfl g65.1 g65.2 rfl rfl)<|?_;refine a2i (a5y (v':=(.str r_63)) (e':=r_63) rfl rfl ex67 rfl rfl rfl (by decide) (fun _ => by decide) ⟨rfl,rfl,rfl⟩ (.refl _) rfl) ?_;refine dk<|a0s<|l7 (.int .i64 k_48) rfl<|x8 (.int .i64 (w64 (k_48 + 1))) rfl (.of rfl trivial) rfl<|l7 (.int .i64 (w64 (k_48 + 1))) rfl<|a0b<|a3f<|a0f<|a0s<|l7 (.int .i64 i_49) rfl<|x8 (.int .i64 (w64 (i_49 + 1))) rfl (.of rfl trivial) rfl<|l7 (.int .i64 (w64 (i_49 + 1))) rfl<|a0b<|?_;exact a1q ⟨(k,w64 (k_48 + 1),w64 (i_49 + 1),a_50.set (0 + i_49.toNat) r_63),hc1⟩ (Nat.lt_succ_self _) ⟨[],[0],_,_,rfl,rfl,⟨.of_eq (congrArg (AV.own _ 0) (by simp)),⟨.refl _,⟨.refl _,trivial⟩⟩⟩,(.refl _)⟩
   ·refine y8 rfl (bf c62)<|a2t<|a2s<|a1y<|a2r<|?_;obtain rfl:=os hc1;exact ⟨[],[0],_,_,rfl,rfl,⟨.refl _,trivial⟩,(.refl _)⟩
 ·obtain ⟨k_58,l_59⟩:=p60
  refine sr<|l7 (.int .i64 k_58) rfl<|l7 (.int .i64 k_58) rfl<|dk<|a0d<|?_;obtain rfl:=os hf;exact a7t [] [0] rfl ⟨.of trivial trivial,trivial⟩ rfl (.refl _) (.refl _)

/- laws.markAtomS -/
def d4f:a0m :=
 (.seq (.reg (tm 4 (.c (.int .i64 0)) .done))
 (.seq (.seq (.reg (tm 5 (.c (.int .i64 0)) .done))
 (.block 0 (.loop (.seq (.seq (.reg (tm 6 (.t 5) (tm 7 (.t 0) (tq 8 (.len (.t 7)) (tq 9 (.bin .lss (.t 6) (.t 8)) .done)))))
 (.cond (.t 9) .skip
 (.exit 0)))
 (.seq (.block 1 (.seq (.reg (tm 12 (.t 0) (tm 13 (.t 5) (tm 14 (.t 1) (tq 15 (.iaddr 3 (.t 12) (.t 13)) (tq 16 (.faddr 0 (.t 15)) (.q ⟨none,none,.store 1 (.t 16) (.t 14)⟩
 .done)))))))
 (.seq (.reg (tm 17 (.t 1) (tq 18 (.bin .add (.t 17) (.c (.int .i64 1))) (tm 1 (.t 18) .done))))
 (.seq (.reg (tm 19 (.t 0) (tm 20 (.t 5) (tm 21 (.t 1) (tq 22 (.iaddr 3 (.t 19) (.t 20)) (tq 23 (.faddr 1 (.t 22)) (.q ⟨none,none,.store 1 (.t 23) (.t 21)⟩
 .done)))))))
 (.seq (.reg (tm 24 (.t 1) (tq 25 (.bin .add (.t 24) (.c (.int .i64 1))) (tm 1 (.t 25) .done))))
 (.seq (.reg (tm 26 (.t 0) (tm 27 (.t 5) (tm 28 (.t 1) (tq 29 (.call 101 [(.t 28)]) (tq 30 (.iaddr 3 (.t 26) (.t 27)) (tq 31 (.faddr 2 (.t 30)) (.q ⟨none,none,.store 1 (.t 31) (.t 29)⟩
 .done))))))))
 (.reg (tm 32 (.t 1) (tq 33 (.bin .add (.t 32) (.c (.int .i64 1))) (tm 1 (.t 33) .done))))))))))
 (.reg (tm 10 (.t 5) (tq 11 (.bin .add (.t 10) (.c (.int .i64 1))) (tm 5 (.t 11) .done)))))))))
 (.cut (.seq (.reg (tm 34 (.t 1) (tm 4 (.t 34) .done)))
 .ret))))
theorem d7x:a1a Tryz.prog Tryz.f202 = some (d4f.erase,[.mov (.t 4)],35):=by kernel_rfl
def a3d :Nat → Int → Int → (List a0a) → Option (Int × (List a0a))
  | 0,_,_,_ => none
  | k + 1,k_58,i_59,a_60 =>
    if (decide (i_59 < (a_60.length:Int))) then
    if (0:Int) ≤ i_59 ∧ i_59 < (a_60.length:Int) then
    (a_60[(0 + i_59.toNat)]?).bind fun x_76 =>
    if (0:Int) ≤ i_59 ∧ i_59 < (a_60.length:Int) then
    (a3x (w64 ((w64 (k_58 + 1)) + 1))).bind fun r_79 =>
    if (0:Int) ≤ i_59 ∧ i_59 < (a_60.length:Int) then
    a3d k (w64 ((w64 ((w64 (k_58 + 1)) + 1)) + 1)) (w64 (i_59 + 1)) (((a_60.set (0 + i_59.toNat) (⟨k_58,x_76.N,x_76.T⟩:a0a)).set (0 + i_59.toNat) (⟨k_58,w64 (k_58 + 1),x_76.T⟩:a0a)).set (0 + i_59.toNat) (⟨k_58,w64 (k_58 + 1),r_79⟩:a0a))
    else none
    else none
    else none
    else
    some (k_58,a_60)

def a8b (a_1:(List a0a)) (k_2:Int):Option (Int × (List a0a)) :=
    (a3d FUEL k_2 0 a_1).bind fun p72 =>
    (match p72 with
    | (k_70,l_71) =>
    some (k_70,l_71))
theorem c0z (a_1:(List a0a)) (k_2:Int) (r:(Int × (List a0a))) (hf:a8b a_1 k_2 = some r):a0z Tryz.prog ⟨true,true,false⟩ 202 [(.own 0 0 a_1.length),(.int .i64 k_2)] [.row 3 (a_1.map l9)] (.int .i64 r.1) [.row 3 (r.2.map l9)]:=by
 refine a0z.of_awp mixed Tryz.func202 d7x nle ?_;rw [a0j];unfold a8b at hf;unfold d4f;refine (show awp Tryz.prog ⟨true,true,false⟩ 1 _ (ofL [(0,(.own 0 0 a_1.length)),(1,(.int .i64 k_2))]) [.row 3 (a_1.map l9)] _ from ?_);refine sr<|l7 (.int .i64 0) rfl<|dk<|o6<|sr<|l7 (.int .i64 0) rfl<|dk<|?_
 obtain ⟨p72,hb1,hf⟩:=ob hf
 refine a2a ([(1,(.int .i64 p72.1))],[.row 3 (p72.2.map l9)]) ?_ ?_
 ·refine a1g (X:={q:(Nat × Int × Int × (List a0a)) // a3d q.1 q.2.1 q.2.2.1 q.2.2.2 = some p72}) (fun q => ([(0,(.own 0 0 q.1.2.2.2.length)),(1,(.int .i64 q.1.2.1)),(5,(.int .i64 q.1.2.2.1))],[.row 3 (q.1.2.2.2.map l9)])) (fun q => q.1.1) ⟨(FUEL,k_2,0,a_1),hb1⟩ ⟨[],[0],_,_,rfl,rfl,⟨.refl _,⟨.refl _,⟨.refl _,trivial⟩⟩⟩,(.refl _)⟩ ?_
  rintro ⟨⟨k,k_58,i_59,a_60⟩,hc1⟩
  have hc1:a3d k k_58 i_59 a_60 = some p72:=hc1
  refine (show awp Tryz.prog ⟨true,true,false⟩ 1 _ (ofL [(0,(.own 0 0 a_60.length)),(1,(.int .i64 k_58)),(5,(.int .i64 i_59))]) [.row 3 (a_60.map l9)] _ from ?_)
  rcases k with _ | k
  ·rw [a3d.eq_1] at hc1
   cases hc1
  ·rw [a3d.eq_2] at hc1;refine o6<|sr<|l7 (.int .i64 i_59) rfl<|l7 (.own 0 0 a_60.length) rfl<|a0w (a6s rfl rfl) fun hl73 => x8 (.bool (decide (i_59 < (a_60.length:Int)))) rfl (.of rfl trivial) rfl<|dk<|?_
   rcases oi hc1 with ⟨c74,hc1⟩ | ⟨c74,hc1⟩
   ·refine y7 rfl c74<|a0h<|a0f<|o6<|a3g<|sr<|?_
    obtain ⟨g75,hc1⟩:=og hc1
    obtain ⟨x_76,ex77,hc1⟩:=ob hc1
    refine l7 (.own 0 0 a_60.length) rfl<|l7 (.int .i64 i_59) rfl<|l7 (.int .i64 k_58) rfl<|y5 (a1v rfl rfl g75.1 g75.2 rfl rfl)<|x8 (.ptr 0 (0 + i_59.toNat) 0) rfl (.of trivial trivial) rfl<|?_;refine a2i (a5y (v':=(.int .i64 k_58)) (e':=(⟨k_58,x_76.N,x_76.T⟩:a0a)) rfl rfl ex77 rfl rfl rfl (by decide) (fun _ => by decide) ⟨rfl,nle⟩ (.refl _) rfl) ?_;refine dk<|sr<|l7 (.int .i64 k_58) rfl<|x8 (.int .i64 (w64 (k_58 + 1))) rfl (.of rfl trivial) rfl<|l7 (.int .i64 (w64 (k_58 + 1))) rfl<|dk<|sr<|?_
    obtain ⟨g78,hc1⟩:=og hc1
    refine l7 (.own 0 0 a_60.length) rfl<|l7 (.int .i64 i_59) rfl<|l7 (.int .i64 (w64 (k_58 + 1))) rfl<|y5 (a1v rfl rfl g78.1 g78.2 rfl rfl)<|x8 (.ptr 0 (0 + i_59.toNat) 1) rfl (.of trivial trivial) rfl<|?_;refine a2i (a5y (v':=(.int .i64 (w64 (k_58 + 1)))) (e':=(⟨k_58,w64 (k_58 + 1),x_76.T⟩:a0a)) rfl rfl (a5f ex77) rfl rfl rfl (by decide) (fun _ => by decide) ⟨rfl,nle⟩ (.refl _) rfl) ?_;refine dk<|sr<|l7 (.int .i64 (w64 (k_58 + 1))) rfl<|x8 (.int .i64 (w64 ((w64 (k_58 + 1)) + 1))) rfl (.of rfl trivial) rfl<|l7 (.int .i64 (w64 ((w64 (k_58 + 1)) + 1))) rfl<|dk<|sr<|?_
    obtain ⟨r_79,er80,hc1⟩:=ob hc1
    obtain ⟨g81,hc1⟩:=og hc1
    refine l7 (.own 0 0 a_60.length) rfl<|l7 (.int .i64 i_59) rfl<|l7 (.int .i64 (w64 ((w64 (k_58 + 1)) + 1))) rfl<|y5 (a0v (a7d _ _ er80) rfl (.refl _) rfl)<|y5 (a1v rfl rfl g81.1 g81.2 rfl rfl)<|x8 (.ptr 0 (0 + i_59.toNat) 2) rfl (.of trivial trivial) rfl<|?_;refine a2i (a5y (v':=(.str r_79)) (e':=(⟨k_58,w64 (k_58 + 1),r_79⟩:a0a)) rfl rfl (a5f (a5f ex77)) rfl rfl rfl (by decide) (fun _ => by decide) ⟨rfl,nle⟩ (.refl _) rfl) ?_;refine dk<|a0s<|l7 (.int .i64 (w64 ((w64 (k_58 + 1)) + 1))) rfl<|x8 (.int .i64 (w64 ((w64 ((w64 (k_58 + 1)) + 1)) + 1))) rfl (.of rfl trivial) rfl<|l7 (.int .i64 (w64 ((w64 ((w64 (k_58 + 1)) + 1)) + 1))) rfl<|?_
    refine a0b<|a3f<|a0f<|a0s<|l7 (.int .i64 i_59) rfl<|x8 (.int .i64 (w64 (i_59 + 1))) rfl (.of rfl trivial) rfl<|l7 (.int .i64 (w64 (i_59 + 1))) rfl<|a0b<|?_;exact a1q ⟨(k,w64 ((w64 ((w64 (k_58 + 1)) + 1)) + 1),w64 (i_59 + 1),((a_60.set (0 + i_59.toNat) (⟨k_58,x_76.N,x_76.T⟩:a0a)).set (0 + i_59.toNat) (⟨k_58,w64 (k_58 + 1),x_76.T⟩:a0a)).set (0 + i_59.toNat) (⟨k_58,w64 (k_58 + 1),r_79⟩:a0a)),hc1⟩ (Nat.lt_succ_self _) ⟨[],[0],_,_,rfl,rfl,⟨.of_eq (congrArg (AV.own _ 0) (by simp)),⟨.refl _,⟨.refl _,trivial⟩⟩⟩,(.refl _)⟩
   ·refine y8 rfl (bf c74)<|a2t<|a2s<|a1y<|a2r<|?_;obtain rfl:=os hc1;exact ⟨[],[0],_,_,rfl,rfl,⟨.refl _,trivial⟩,(.refl _)⟩
 ·obtain ⟨k_70,l_71⟩:=p72
  refine sr<|l7 (.int .i64 k_70) rfl<|l7 (.int .i64 k_70) rfl<|dk<|a0d<|?_;obtain rfl:=os hf;exact a7t [] [0] rfl ⟨.of trivial trivial,trivial⟩ rfl (.refl _) (.refl _)

/- laws.markAtomSS -/
def d4g:a0m :=
 (.seq (.reg (tm 4 (.c (.int .i64 0)) .done))
 (.seq (.seq (.reg (tm 5 (.c (.int .i64 0)) .done))
 (.block 0 (.loop (.seq (.seq (.reg (tm 6 (.t 5) (tm 7 (.t 0) (tq 8 (.len (.t 7)) (tq 9 (.bin .lss (.t 6) (.t 8)) .done)))))
 (.cond (.t 9) .skip
 (.exit 0)))
 (.seq (.block 1 (.rev (.reg (tm 12 (.t 0) (tm 13 (.t 5) (tq 14 (.iaddr 1 (.t 12) (.t 13)) (tq 15 (.load 1 false (.t 14)) (tm 16 (.t 1) (tq 17 (.call 202 [(.t 15),(.t 16)]) (tm 1 (.t 17) .done))))))))))
 (.reg (tm 10 (.t 5) (tq 11 (.bin .add (.t 10) (.c (.int .i64 1))) (tm 5 (.t 11) .done)))))))))
 (.cut (.seq (.reg (tm 18 (.t 1) (tm 4 (.t 18) .done)))
 .ret))))
theorem d7y:a1a Tryz.prog Tryz.f102 = some (d4g.erase,[.mov (.t 4)],19):=by kernel_rfl
def a2u :Nat → Int → Int → (List (List a0a)) → Option (Int × (List (List a0a)))
  | 0,_,_,_ => none
  | k + 1,k_58,i_59,a_60 =>
    if (decide (i_59 < (a_60.length:Int))) then
    ((a_60[(0 + i_59.toNat)]?)).bind fun x_76 =>
    if (0:Int) ≤ i_59 ∧ i_59 < (a_60.length:Int) then
    (a8b x_76 k_58).bind fun r_80 =>
    a2u k r_80.1 (w64 (i_59 + 1)) (a_60.set (0 + i_59.toNat) r_80.2)
    else none
    else
    some (k_58,a_60)

def a7e (a_1:(List (List a0a))) (k_2:Int):Option (Int × (List (List a0a))) :=
    (a2u FUEL k_2 0 a_1).bind fun p72 =>
    (match p72 with
    | (k_70,l_71) =>
    some (k_70,l_71))
theorem b9p (a_1:(List (List a0a))) (k_2:Int) (r:(Int × (List (List a0a)))) (hf:a7e a_1 k_2 = some r):a0z Tryz.prog ⟨true,true,false⟩ 102 [(.own 0 0 a_1.length),(.int .i64 k_2)] [.row 1 (a_1.map (a0t 3 l9))] (.int .i64 r.1) [.row 1 (r.2.map (a0t 3 l9))]:=by
 refine a0z.of_awp mixed Tryz.func102 d7y nle ?_;rw [a0j];unfold a7e at hf;unfold d4g;refine (show awp Tryz.prog ⟨true,true,false⟩ 1 _ (ofL [(0,(.own 0 0 a_1.length)),(1,(.int .i64 k_2))]) [.row 1 (a_1.map (a0t 3 l9))] _ from ?_);refine sr<|l7 (.int .i64 0) rfl<|dk<|o6<|sr<|l7 (.int .i64 0) rfl<|dk<|?_
 obtain ⟨p72,hb1,hf⟩:=ob hf
 refine a2a ([(1,(.int .i64 p72.1))],[.row 1 (p72.2.map (a0t 3 l9))]) ?_ ?_
 ·refine a1g (X:={q:(Nat × Int × Int × (List (List a0a))) // a2u q.1 q.2.1 q.2.2.1 q.2.2.2 = some p72}) (fun q => ([(0,(.own 0 0 q.1.2.2.2.length)),(1,(.int .i64 q.1.2.1)),(5,(.int .i64 q.1.2.2.1))],[.row 1 (q.1.2.2.2.map (a0t 3 l9))])) (fun q => q.1.1) ⟨(FUEL,k_2,0,a_1),hb1⟩ ⟨[],[0],_,_,rfl,rfl,⟨.refl _,⟨.refl _,⟨.refl _,trivial⟩⟩⟩,(.refl _)⟩ ?_
  rintro ⟨⟨k,k_58,i_59,a_60⟩,hc1⟩
  have hc1:a2u k k_58 i_59 a_60 = some p72:=hc1
  refine (show awp Tryz.prog ⟨true,true,false⟩ 1 _ (ofL [(0,(.own 0 0 a_60.length)),(1,(.int .i64 k_58)),(5,(.int .i64 i_59))]) [.row 1 (a_60.map (a0t 3 l9))] _ from ?_)
  rcases k with _ | k
  ·rw [a2u.eq_1] at hc1
   cases hc1
  ·rw [a2u.eq_2] at hc1;refine o6<|sr<|l7 (.int .i64 i_59) rfl<|l7 (.own 0 0 a_60.length) rfl<|a0w (a6s rfl rfl) fun hl73 => x8 (.bool (decide (i_59 < (a_60.length:Int)))) rfl (.of rfl trivial) rfl<|dk<|?_
   rcases oi hc1 with ⟨c74,hc1⟩ | ⟨c74,hc1⟩
   ·refine y7 rfl c74<|a0h<|a0f<|o6<|a3g<|?_
    obtain ⟨x_76,ex77,hc1⟩:=ob hc1
    refine d7i (o:=0) (f:=0) (l':=x_76) (enc':=l9) (el:=(.lst 3 (x_76.map l9))) rfl ex77 rfl rfl fun v_78 => ?_;refine a0s ?_
    obtain ⟨g79,hc1⟩:=og hc1
    obtain ⟨r_80,er81,hc1⟩:=ob hc1
    refine l7 (.own 0 0 a_60.length) rfl<|l7 (.int .i64 i_59) rfl<|y5 (a1v rfl rfl g79.1 g79.2 rfl rfl)<|y5 (c0s rfl rfl (c9c ex77) ⟨rfl,rfl⟩ rfl)<|l7 (.int .i64 k_58) rfl<|y5 (c9d (o:=0) (l:=a_60) (enc:=(a0t 3 l9)) (enc':=l9) (l'':=r_80.2) (y:=r_80.2) (j:=0) (el:=(.hdr v_78 3 (x_76.map l9))) rfl rfl (c0z _ _ _ er81) rfl rfl ex77 rfl (by decide) rfl)<|l7 (.int .i64 r_80.1) rfl<|a0b<|a3f<|a0f<|a0s<|l7 (.int .i64 i_59) rfl<|x8 (.int .i64 (w64 (i_59 + 1))) rfl (.of rfl trivial) rfl<|l7 (.int .i64 (w64 (i_59 + 1))) rfl<|a0b<|?_;exact a1q ⟨(k,r_80.1,w64 (i_59 + 1),a_60.set (0 + i_59.toNat) r_80.2),hc1⟩ (Nat.lt_succ_self _) ⟨[],[0],_,_,rfl,rfl,⟨.of_eq (congrArg (AV.own _ 0) (by simp)),⟨.refl _,⟨.refl _,trivial⟩⟩⟩,(.refl _)⟩
   ·refine y8 rfl (bf c74)<|a2t<|a2s<|a1y<|a2r<|?_;obtain rfl:=os hc1;exact ⟨[],[0],_,_,rfl,rfl,⟨.refl _,trivial⟩,(.refl _)⟩
 ·obtain ⟨k_70,l_71⟩:=p72
  refine sr<|l7 (.int .i64 k_70) rfl<|l7 (.int .i64 k_70) rfl<|dk<|a0d<|?_;obtain rfl:=os hf;exact a7t [] [0] rfl ⟨.of trivial trivial,trivial⟩ rfl (.refl _) (.refl _)

/- laws.markRow -/
def d7z:a0m :=
 (.seq (.reg (tq 2 (.box 2 (.t 0)) (tm 4 (.c (.int .i64 0)) .done)))
 (.seq (.reg (tq 5 (.faddr 1 (.t 2)) (tq 6 (.load 1 false (.t 5)) (tm 7 (.t 1) (tq 8 (.call 102 [(.t 6),(.t 7)]) (tm 1 (.t 8) .done))))))
 (.seq (.reg (tm 9 (.t 1) (tm 4 (.t 9) .done)))
 .ret)))
theorem d9q:a1a Tryz.prog Tryz.f27 = some (d7z.erase,[.mov (.t 4)],10):=by kernel_rfl
def b0q (a_1:a3r) (k_2:Int):Option (Int × a3r) :=
    (a7e a_1.Cells k_2).bind fun r_3 =>
    some (r_3.1,(⟨a_1.Id,r_3.2⟩:a3r))
theorem c5d (a_1:a3r) (k_2:Int) (r:(Int × a3r)) (hf:b0q a_1 k_2 = some r):a0z Tryz.prog ⟨true,true,false⟩ 27 [(.agg [(.int .i64 a_1.Id),(.own 0 0 a_1.Cells.length)]),(.int .i64 k_2)] [.row 1 (a_1.Cells.map (a0t 3 l9))] (.int .i64 r.1) [.row 1 (r.2.Cells.map (a0t 3 l9))]:=by
 refine a0z.of_awp mixed Tryz.func27 d9q nle ?_;rw [a0j];unfold b0q at hf;unfold d7z;refine (show awp Tryz.prog ⟨true,true,false⟩ 1 _ (ofL [(0,(.agg [(.int .i64 a_1.Id),(.own 0 0 a_1.Cells.length)])),(1,(.int .i64 k_2))]) [.row 1 (a_1.Cells.map (a0t 3 l9))] _ from ?_);refine sr<|y5 (a1i (j:=1) (c:=(.agg [(.int .i64 a_1.Id),(.own 0 0 a_1.Cells.length)])) rfl trivial rfl rfl)<|l7 (.int .i64 0) rfl<|dk<|sr<|?_
 obtain ⟨r_3,er4,hf⟩:=ob hf
 refine x8 (.ptr 1 0 1) rfl (.of trivial trivial) rfl<|x8 (.own 0 0 a_1.Cells.length) rfl (.of nle trivial) rfl<|l7 (.int .i64 k_2) rfl<|?_;refine a0w (a9w (v:=(.int .i64 r_3.1)) (h2:=[.row 1 (r_3.2.map (a0t 3 l9)),.box 2 (.agg [(.int .i64 a_1.Id),(.own 0 0 a_1.Cells.length)])]) [] [0] (fun _ => rfl) (b9p _ _ _ er4) rfl (.refl _) (.refl _) rfl rfl) fun hl5 => ?_;refine l7 (.int .i64 r_3.1) rfl<|dk<|sr<|l7 (.int .i64 r_3.1) rfl<|l7 (.int .i64 r_3.1) rfl<|dk<|a0d<|?_;obtain rfl:=os hf;exact a7t [] [0] rfl ⟨.of trivial trivial,trivial⟩ rfl (.refl _) (.refl _)

/- laws.markJsonS -/
def d4h:a0m :=
 (.seq (.reg (tm 4 (.c (.int .i64 0)) .done))
 (.seq (.seq (.reg (tm 5 (.c (.int .i64 0)) .done))
 (.block 0 (.loop (.seq (.seq (.reg (tm 6 (.t 5) (tm 7 (.t 0) (tq 8 (.len (.t 7)) (tq 9 (.bin .lss (.t 6) (.t 8)) .done)))))
 (.cond (.t 9) .skip
 (.exit 0)))
 (.seq (.block 1 (.seq (.reg (tm 12 (.t 0) (tm 13 (.t 5) (tm 14 (.t 1) (tq 15 (.iaddr 5 (.t 12) (.t 13)) (tq 16 (.faddr 0 (.t 15)) (.q ⟨none,none,.store 1 (.t 16) (.t 14)⟩
 .done)))))))
 (.seq (.reg (tm 17 (.t 1) (tq 18 (.bin .add (.t 17) (.c (.int .i64 1))) (tm 1 (.t 18) .done))))
 (.seq (.reg (tm 19 (.t 0) (tm 20 (.t 5) (tm 21 (.t 1) (tq 22 (.iaddr 5 (.t 19) (.t 20)) (tq 23 (.faddr 1 (.t 22)) (.q ⟨none,none,.store 1 (.t 23) (.t 21)⟩
 .done)))))))
 (.seq (.reg (tm 24 (.t 1) (tq 25 (.bin .add (.t 24) (.c (.int .i64 1))) (tm 1 (.t 25) .done))))
 (.seq (.reg (tm 26 (.t 0) (tm 27 (.t 5) (tm 28 (.t 1) (tq 29 (.call 101 [(.t 28)]) (tq 30 (.iaddr 5 (.t 26) (.t 27)) (tq 31 (.faddr 2 (.t 30)) (.q ⟨none,none,.store 1 (.t 31) (.t 29)⟩
 .done))))))))
 (.seq (.reg (tm 32 (.t 1) (tq 33 (.bin .add (.t 32) (.c (.int .i64 1))) (tm 1 (.t 33) .done))))
 (.seq (.rev (.reg (tm 34 (.t 0) (tm 35 (.t 5) (tq 36 (.iaddr 5 (.t 34) (.t 35)) (tq 37 (.faddr 3 (.t 36)) (tq 38 (.load 1 false (.t 37)) (tm 39 (.t 1) (tq 40 (.call 26 [(.t 38),(.t 39)]) (tm 1 (.t 40) .done))))))))))
 (.rev (.reg (tm 41 (.t 0) (tm 42 (.t 5) (tq 43 (.iaddr 5 (.t 41) (.t 42)) (tq 44 (.faddr 4 (.t 43)) (tq 45 (.load 1 false (.t 44)) (tm 46 (.t 1) (tq 47 (.call 103 [(.t 45),(.t 46)]) (tm 1 (.t 47) .done))))))))))))))))))
 (.reg (tm 10 (.t 5) (tq 11 (.bin .add (.t 10) (.c (.int .i64 1))) (tm 5 (.t 11) .done)))))))))
 (.cut (.seq (.reg (tm 48 (.t 1) (tm 4 (.t 48) .done)))
 .ret))))
theorem d8a:a1a Tryz.prog Tryz.f103 = some (d4h.erase,[.mov (.t 4)],49):=by kernel_rfl
def a2m (rec:((List o8) → Int → Option (Int × (List o8)))):Nat → Int → Int → (List o8) → Option (Int × (List o8))
  | 0,_,_,_ => none
  | k + 1,k_108,i_109,a_110 =>
    if (decide (i_109 < (a_110.length:Int))) then
    if (0:Int) ≤ i_109 ∧ i_109 < (a_110.length:Int) then
    (a_110[(0 + i_109.toNat)]?).bind fun x_136 =>
    if (0:Int) ≤ i_109 ∧ i_109 < (a_110.length:Int) then
    (a3x (w64 ((w64 (k_108 + 1)) + 1))).bind fun r_139 =>
    if (0:Int) ≤ i_109 ∧ i_109 < (a_110.length:Int) then
    if (0:Int) ≤ i_109 ∧ i_109 < (a_110.length:Int) then
    (a5g x_136.Keys (w64 ((w64 ((w64 (k_108 + 1)) + 1)) + 1))).bind fun r_145 =>
    if (0:Int) ≤ i_109 ∧ i_109 < (a_110.length:Int) then
    (rec x_136.Items r_145.1).bind fun r_150 =>
    a2m rec k r_150.1 (w64 (i_109 + 1)) (((((a_110.set (0 + i_109.toNat) (⟨k_108,x_136.N,x_136.T,x_136.Keys,x_136.Items⟩:o8)).set (0 + i_109.toNat) (⟨k_108,w64 (k_108 + 1),x_136.T,x_136.Keys,x_136.Items⟩:o8)).set (0 + i_109.toNat) (⟨k_108,w64 (k_108 + 1),r_139,x_136.Keys,x_136.Items⟩:o8)).set (0 + i_109.toNat) (⟨k_108,w64 (k_108 + 1),r_139,r_145.2,x_136.Items⟩:o8)).set (0 + i_109.toNat) (⟨k_108,w64 (k_108 + 1),r_139,r_145.2,r_150.2⟩:o8))
    else none
    else none
    else none
    else none
    else none
    else
    some (k_108,a_110)

def a8l (rec:((List o8) → Int → Option (Int × (List o8)))) (a_1:(List o8)) (k_2:Int):Option (Int × (List o8)) :=
    (a2m rec FUEL k_2 0 a_1).bind fun p132 =>
    (match p132 with
    | (k_130,l_131) =>
    some (k_130,l_131))
theorem b8g (rec:((List o8) → Int → Option (Int × (List o8)))) (hrec:∀ a0 a1 r,rec a0 a1 = some r → a0z Tryz.prog ⟨true,true,false⟩ 103 [(.own 0 0 a0.length),(.int .i64 a1)] [.row 5 (a0.map o5)] (.int .i64 r.1) [.row 5 (r.2.map o5)]) (a_1:(List o8)) (k_2:Int) (r:(Int × (List o8))) (hf:a8l rec a_1 k_2 = some r):a0z Tryz.prog ⟨true,true,false⟩ 103 [(.own 0 0 a_1.length),(.int .i64 k_2)] [.row 5 (a_1.map o5)] (.int .i64 r.1) [.row 5 (r.2.map o5)]:=by
 refine a0z.of_awp mixed Tryz.func103 d8a nle ?_;rw [a0j];unfold a8l at hf;unfold d4h;refine (show awp Tryz.prog ⟨true,true,false⟩ 1 _ (ofL [(0,(.own 0 0 a_1.length)),(1,(.int .i64 k_2))]) [.row 5 (a_1.map o5)] _ from ?_);refine sr<|l7 (.int .i64 0) rfl<|dk<|o6<|sr<|l7 (.int .i64 0) rfl<|dk<|?_
 obtain ⟨p132,hb1,hf⟩:=ob hf
 refine a2a ([(1,(.int .i64 p132.1))],[.row 5 (p132.2.map o5)]) ?_ ?_
 ·refine a1g (X:={q:(Nat × Int × Int × (List o8)) // a2m rec q.1 q.2.1 q.2.2.1 q.2.2.2 = some p132}) (fun q => ([(0,(.own 0 0 q.1.2.2.2.length)),(1,(.int .i64 q.1.2.1)),(5,(.int .i64 q.1.2.2.1))],[.row 5 (q.1.2.2.2.map o5)])) (fun q => q.1.1) ⟨(FUEL,k_2,0,a_1),hb1⟩ ⟨[],[0],_,_,rfl,rfl,⟨.refl _,⟨.refl _,⟨.refl _,trivial⟩⟩⟩,(.refl _)⟩ ?_
  rintro ⟨⟨k,k_108,i_109,a_110⟩,hc1⟩
  have hc1:a2m rec k k_108 i_109 a_110 = some p132:=hc1
  refine (show awp Tryz.prog ⟨true,true,false⟩ 1 _ (ofL [(0,(.own 0 0 a_110.length)),(1,(.int .i64 k_108)),(5,(.int .i64 i_109))]) [.row 5 (a_110.map o5)] _ from ?_)
  rcases k with _ | k
  ·rw [a2m.eq_1] at hc1
   cases hc1
  ·rw [a2m.eq_2] at hc1;refine o6<|sr<|l7 (.int .i64 i_109) rfl<|l7 (.own 0 0 a_110.length) rfl<|a0w (a6s rfl rfl) fun hl133 => x8 (.bool (decide (i_109 < (a_110.length:Int)))) rfl (.of rfl trivial) rfl<|dk<|?_
   rcases oi hc1 with ⟨c134,hc1⟩ | ⟨c134,hc1⟩
   ·refine y7 rfl c134<|a0h<|a0f<|o6<|a3g<|sr<|?_
    obtain ⟨g135,hc1⟩:=og hc1
    obtain ⟨x_136,ex137,hc1⟩:=ob hc1
    refine l7 (.own 0 0 a_110.length) rfl<|l7 (.int .i64 i_109) rfl<|l7 (.int .i64 k_108) rfl<|y5 (a1v rfl rfl g135.1 g135.2 rfl rfl)<|x8 (.ptr 0 (0 + i_109.toNat) 0) rfl (.of trivial trivial) rfl<|?_;refine a2i (b2n (v':=(.int .i64 k_108)) (e':=(⟨k_108,x_136.N,x_136.T,x_136.Keys,x_136.Items⟩:o8)) rfl rfl ex137 (y9 _) rfl rfl rfl (by decide) (fun _ => by decide) ⟨rfl,nle⟩ (.of_eq (y9 (⟨k_108,x_136.N,x_136.T,x_136.Keys,x_136.Items⟩:o8)).symm) rfl) ?_;refine dk<|sr<|l7 (.int .i64 k_108) rfl<|x8 (.int .i64 (w64 (k_108 + 1))) rfl (.of rfl trivial) rfl<|l7 (.int .i64 (w64 (k_108 + 1))) rfl<|dk<|?_
    refine sr<|?_
    obtain ⟨g138,hc1⟩:=og hc1
    refine l7 (.own 0 0 a_110.length) rfl<|l7 (.int .i64 i_109) rfl<|l7 (.int .i64 (w64 (k_108 + 1))) rfl<|y5 (a1v rfl rfl g138.1 g138.2 rfl rfl)<|x8 (.ptr 0 (0 + i_109.toNat) 1) rfl (.of trivial trivial) rfl<|?_;refine a2i (b2n (v':=(.int .i64 (w64 (k_108 + 1)))) (e':=(⟨k_108,w64 (k_108 + 1),x_136.T,x_136.Keys,x_136.Items⟩:o8)) rfl rfl (a5f ex137) (y9 _) rfl rfl rfl (by decide) (fun _ => by decide) ⟨rfl,nle⟩ (.of_eq (y9 (⟨k_108,w64 (k_108 + 1),x_136.T,x_136.Keys,x_136.Items⟩:o8)).symm) rfl) ?_;refine dk<|sr<|l7 (.int .i64 (w64 (k_108 + 1))) rfl<|x8 (.int .i64 (w64 ((w64 (k_108 + 1)) + 1))) rfl (.of rfl trivial) rfl<|?_
    refine l7 (.int .i64 (w64 ((w64 (k_108 + 1)) + 1))) rfl<|dk<|sr<|?_
    obtain ⟨r_139,er140,hc1⟩:=ob hc1
    obtain ⟨g141,hc1⟩:=og hc1
    refine l7 (.own 0 0 a_110.length) rfl<|l7 (.int .i64 i_109) rfl<|l7 (.int .i64 (w64 ((w64 (k_108 + 1)) + 1))) rfl<|y5 (a0v (a7d _ _ er140) rfl (.refl _) rfl)<|y5 (a1v rfl rfl g141.1 g141.2 rfl rfl)<|x8 (.ptr 0 (0 + i_109.toNat) 2) rfl (.of trivial trivial) rfl<|?_;refine a2i (b2n (v':=(.str r_139)) (e':=(⟨k_108,w64 (k_108 + 1),r_139,x_136.Keys,x_136.Items⟩:o8)) rfl rfl (a5f (a5f ex137)) (y9 _) rfl rfl rfl (by decide) (fun _ => by decide) ⟨rfl,nle⟩ (.of_eq (y9 (⟨k_108,w64 (k_108 + 1),r_139,x_136.Keys,x_136.Items⟩:o8)).symm) rfl) ?_;refine dk<|sr<|l7 (.int .i64 (w64 ((w64 (k_108 + 1)) + 1))) rfl<|?_
    refine x8 (.int .i64 (w64 ((w64 ((w64 (k_108 + 1)) + 1)) + 1))) rfl (.of rfl trivial) rfl<|l7 (.int .i64 (w64 ((w64 ((w64 (k_108 + 1)) + 1)) + 1))) rfl<|dk<|o6<|?_;refine d7i (o:=0) (f:=3) (l':=x_136.Keys) (enc':=AV.str) (el:=(.agg [(.int .i64 k_108),(.int .i64 (w64 (k_108 + 1))),(.str r_139),(.lst 1 (x_136.Keys.map AV.str)),(.lst 5 (x_136.Items.map o5))])) rfl (a5f (a5f (a5f ex137))) (y9 _) rfl fun v_143 => ?_;refine a0s ?_
    obtain ⟨g144,hc1⟩:=og hc1
    obtain ⟨r_145,er146,hc1⟩:=ob hc1
    refine l7 (.own 0 0 a_110.length) rfl<|l7 (.int .i64 i_109) rfl<|y5 (a1v rfl rfl g144.1 g144.2 rfl rfl)<|x8 (.ptr 0 (0 + i_109.toNat) 3) rfl (.of trivial trivial) rfl<|y5 (c0s rfl rfl (c9c (a5f (a5f (a5f ex137)))) nle rfl)<|l7 (.int .i64 (w64 ((w64 ((w64 (k_108 + 1)) + 1)) + 1))) rfl<|y5 (c9d (o:=0) (l:=(((a_110.set (0 + i_109.toNat) (⟨k_108,x_136.N,x_136.T,x_136.Keys,x_136.Items⟩:o8)).set (0 + i_109.toNat) (⟨k_108,w64 (k_108 + 1),x_136.T,x_136.Keys,x_136.Items⟩:o8)).set (0 + i_109.toNat) (⟨k_108,w64 (k_108 + 1),r_139,x_136.Keys,x_136.Items⟩:o8))) (enc:=o5) (enc':=AV.str) (l'':=r_145.2) (y:=(⟨k_108,w64 (k_108 + 1),r_139,r_145.2,x_136.Items⟩:o8)) (j:=3) (el:=(.agg [(.int .i64 k_108),(.int .i64 (w64 (k_108 + 1))),(.str r_139),(.hdr v_143 1 (x_136.Keys.map AV.str)),(.lst 5 (x_136.Items.map o5))])) rfl rfl (a9i _ _ _ er146) rfl rfl (a5f (a5f (a5f ex137))) rfl (by decide) (y9 (⟨k_108,w64 (k_108 + 1),r_139,r_145.2,x_136.Items⟩:o8)).symm)<|?_
    refine l7 (.int .i64 r_145.1) rfl<|dk<|?_;refine d7i (o:=0) (f:=4) (l':=x_136.Items) (enc':=o5) (el:=(.agg [(.int .i64 k_108),(.int .i64 (w64 (k_108 + 1))),(.str r_139),(.lst 1 (r_145.2.map AV.str)),(.lst 5 (x_136.Items.map o5))])) rfl (a5f (a5f (a5f (a5f ex137)))) (y9 _) rfl fun v_148 => ?_;refine a0s ?_
    obtain ⟨g149,hc1⟩:=og hc1
    obtain ⟨r_150,er151,hc1⟩:=ob hc1
    refine l7 (.own 0 0 a_110.length) rfl<|l7 (.int .i64 i_109) rfl<|y5 (a1v rfl rfl g149.1 g149.2 rfl rfl)<|x8 (.ptr 0 (0 + i_109.toNat) 4) rfl (.of trivial trivial) rfl<|y5 (c0s rfl rfl (c9c (a5f (a5f (a5f (a5f ex137))))) nle rfl)<|l7 (.int .i64 r_145.1) rfl<|y5 (c9d (o:=0) (l:=((((a_110.set (0 + i_109.toNat) (⟨k_108,x_136.N,x_136.T,x_136.Keys,x_136.Items⟩:o8)).set (0 + i_109.toNat) (⟨k_108,w64 (k_108 + 1),x_136.T,x_136.Keys,x_136.Items⟩:o8)).set (0 + i_109.toNat) (⟨k_108,w64 (k_108 + 1),r_139,x_136.Keys,x_136.Items⟩:o8)).set (0 + i_109.toNat) (⟨k_108,w64 (k_108 + 1),r_139,r_145.2,x_136.Items⟩:o8))) (enc:=o5) (enc':=o5) (l'':=r_150.2) (y:=(⟨k_108,w64 (k_108 + 1),r_139,r_145.2,r_150.2⟩:o8)) (j:=4) (el:=(.agg [(.int .i64 k_108),(.int .i64 (w64 (k_108 + 1))),(.str r_139),(.lst 1 (r_145.2.map AV.str)),(.hdr v_148 5 (x_136.Items.map o5))])) rfl rfl (hrec _ _ _ er151) rfl rfl (a5f (a5f (a5f (a5f ex137)))) rfl (by decide) (y9 (⟨k_108,w64 (k_108 + 1),r_139,r_145.2,r_150.2⟩:o8)).symm)<|?_
    refine l7 (.int .i64 r_150.1) rfl<|a0b<|a3f<|a0f<|a0s<|l7 (.int .i64 i_109) rfl<|x8 (.int .i64 (w64 (i_109 + 1))) rfl (.of rfl trivial) rfl<|l7 (.int .i64 (w64 (i_109 + 1))) rfl<|a0b<|?_;exact a1q ⟨(k,r_150.1,w64 (i_109 + 1),((((a_110.set (0 + i_109.toNat) (⟨k_108,x_136.N,x_136.T,x_136.Keys,x_136.Items⟩:o8)).set (0 + i_109.toNat) (⟨k_108,w64 (k_108 + 1),x_136.T,x_136.Keys,x_136.Items⟩:o8)).set (0 + i_109.toNat) (⟨k_108,w64 (k_108 + 1),r_139,x_136.Keys,x_136.Items⟩:o8)).set (0 + i_109.toNat) (⟨k_108,w64 (k_108 + 1),r_139,r_145.2,x_136.Items⟩:o8)).set (0 + i_109.toNat) (⟨k_108,w64 (k_108 + 1),r_139,r_145.2,r_150.2⟩:o8)),hc1⟩ (Nat.lt_succ_self _) ⟨[],[0],_,_,rfl,rfl,⟨.of_eq (congrArg (AV.own _ 0) (by simp)),⟨.refl _,⟨.refl _,trivial⟩⟩⟩,(.refl _)⟩
   ·refine y8 rfl (bf c134)<|a2t<|a2s<|a1y<|a2r<|?_;obtain rfl:=os hc1;exact ⟨[],[0],_,_,rfl,rfl,⟨.refl _,trivial⟩,(.refl _)⟩
 ·obtain ⟨k_130,l_131⟩:=p132
  refine sr<|l7 (.int .i64 k_130) rfl<|l7 (.int .i64 k_130) rfl<|dk<|a0d<|?_;obtain rfl:=os hf;exact a7t [] [0] rfl ⟨.of trivial trivial,trivial⟩ rfl (.refl _) (.refl _)
def a4t:Nat → (List o8) → Int → Option (Int × (List o8))
 | 0,_,_ => none
 | k + 1,a_1,k_2 => a8l (a4t k) a_1 k_2
theorem b4e:∀ (k:Nat) (a_1:(List o8)) (k_2:Int) (r:(Int × (List o8))),a4t k a_1 k_2 = some r → a0z Tryz.prog ⟨true,true,false⟩ 103 [(.own 0 0 a_1.length),(.int .i64 k_2)] [.row 5 (a_1.map o5)] (.int .i64 r.1) [.row 5 (r.2.map o5)]
 | 0,a_1,k_2,r,h => by rw [a4t.eq_1] at h;cases h
 | k + 1,a_1,k_2,r,h => by
  rw [a4t.eq_2] at h;exact b8g _ (b4e k) a_1 k_2 r h

/- laws.markJson -/
def d8b:a0m :=
 (.seq (.reg (tq 2 (.box 5 (.t 0)) (tm 4 (.c (.int .i64 0)) .done)))
 (.seq (.reg (tq 5 (.faddr 3 (.t 2)) (tq 6 (.load 1 false (.t 5)) (tm 7 (.t 1) (tq 8 (.call 26 [(.t 6),(.t 7)]) (tm 1 (.t 8) .done))))))
 (.seq (.reg (tq 9 (.faddr 4 (.t 2)) (tq 10 (.load 1 false (.t 9)) (tm 11 (.t 1) (tq 12 (.call 103 [(.t 10),(.t 11)]) (tm 1 (.t 12) .done))))))
 (.seq (.reg (tm 13 (.t 1) (tm 4 (.t 13) .done)))
 .ret))))
theorem d9r:a1a Tryz.prog Tryz.f28 = some (d8b.erase,[.mov (.t 4)],14):=by kernel_rfl
def a8z (a_1:o8) (k_2:Int):Option (Int × o8) :=
    (a5g a_1.Keys k_2).bind fun r_3 =>
    (a4t FUEL a_1.Items r_3.1).bind fun r_6 =>
    some (r_6.1,(⟨a_1.Kind,a_1.N,a_1.T,r_3.2,r_6.2⟩:o8))
theorem c2w (a_1:o8) (k_2:Int) (r:(Int × o8)) (hf:a8z a_1 k_2 = some r):a0z Tryz.prog ⟨true,true,false⟩ 28 [(.agg [(.int .i64 a_1.Kind),(.int .i64 a_1.N),(.str a_1.T),(.own 0 0 a_1.Keys.length),(.own 1 0 a_1.Items.length)]),(.int .i64 k_2)] [.row 1 (a_1.Keys.map AV.str),.row 5 (a_1.Items.map o5)] (.int .i64 r.1) [.row 1 (r.2.Keys.map AV.str),.row 5 (r.2.Items.map o5)]:=by
 refine a0z.of_awp mixed Tryz.func28 d9r nle ?_;rw [a0j];unfold a8z at hf;unfold d8b;refine (show awp Tryz.prog ⟨true,true,false⟩ 2 _ (ofL [(0,(.agg [(.int .i64 a_1.Kind),(.int .i64 a_1.N),(.str a_1.T),(.own 0 0 a_1.Keys.length),(.own 1 0 a_1.Items.length)])),(1,(.int .i64 k_2))]) [.row 1 (a_1.Keys.map AV.str),.row 5 (a_1.Items.map o5)] _ from ?_);refine sr<|y5 (a1i (j:=2) (c:=(.agg [(.int .i64 a_1.Kind),(.int .i64 a_1.N),(.str a_1.T),(.own 0 0 a_1.Keys.length),(.own 1 0 a_1.Items.length)])) rfl trivial rfl rfl)<|l7 (.int .i64 0) rfl<|dk<|sr<|?_
 obtain ⟨r_3,er4,hf⟩:=ob hf
 refine x8 (.ptr 2 0 3) rfl (.of trivial trivial) rfl<|x8 (.own 0 0 a_1.Keys.length) rfl (.of nle trivial) rfl<|l7 (.int .i64 k_2) rfl<|?_;refine a0w (a9w (v:=(.int .i64 r_3.1)) (h2:=[.row 1 (r_3.2.map AV.str),.row 5 (a_1.Items.map o5),.box 5 (.agg [(.int .i64 a_1.Kind),(.int .i64 a_1.N),(.str a_1.T),(.own 0 0 a_1.Keys.length),(.own 1 0 a_1.Items.length)])]) [] [0] (fun _ => rfl) (a9i _ _ _ er4) rfl (.refl _) (.refl _) rfl rfl) fun hl5 => ?_;refine l7 (.int .i64 r_3.1) rfl<|dk<|sr<|?_
 obtain ⟨r_6,er7,hf⟩:=ob hf
 refine x8 (.ptr 2 0 4) rfl (.of trivial trivial) rfl<|x8 (.own 1 0 a_1.Items.length) rfl (.of nle trivial) rfl<|l7 (.int .i64 r_3.1) rfl<|?_;refine a0w (a9w (v:=(.int .i64 r_6.1)) (h2:=[.row 1 (r_3.2.map AV.str),.row 5 (r_6.2.map o5),.box 5 (.agg [(.int .i64 a_1.Kind),(.int .i64 a_1.N),(.str a_1.T),(.own 0 0 a_1.Keys.length),(.own 1 0 a_1.Items.length)])]) [] [1] (fun _ => rfl) (b4e FUEL _ _ _ er7) rfl (.refl _) (.refl _) rfl rfl) fun hl8 => ?_;refine l7 (.int .i64 r_6.1) rfl<|dk<|sr<|l7 (.int .i64 r_6.1) rfl<|l7 (.int .i64 r_6.1) rfl<|dk<|a0d<|?_;obtain rfl:=os hf;exact a7t [] [0,1] rfl ⟨.of trivial trivial,trivial⟩ rfl (.refl _) (.refl _)

/- laws.heldStringS -/
def e5n:a0m :=
 (.seq (.reg (tm 4 (.c (.int .i64 0)) .done))
 (.seq (.seq (.reg (tm 5 (.c (.int .i64 0)) .done))
 (.block 0 (.loop (.seq (.seq (.reg (tm 6 (.t 5) (tm 7 (.t 0) (tq 8 (.len (.t 7)) (tq 9 (.bin .lss (.t 6) (.t 8)) .done)))))
 (.cond (.t 9) .skip
 (.exit 0)))
 (.seq (.block 1 (.seq (.seq (.reg (tm 12 (.t 0) (tm 13 (.t 5) (tq 14 (.iaddr 1 (.t 12) (.t 13)) (tq 15 (.load 1 false (.t 14)) (tm 16 (.t 1) (.l ⟨(some 17),none,.call 101 [(.t 16)]⟩ [⟨(some 15),none,.load 1 false (.t 14)⟩,⟨(some 14),none,.iaddr 1 (.t 12) (.t 13)⟩]
 (tq 18 (.bin .neq (.t 15) (.t 17)) .done) .non)))))))
 (.cond (.t 18) (.seq (.reg (tq 4 (.mov (.c (.int .i64 (-1)))) .done))
 .ret)
 .skip))
 (.reg (tm 19 (.t 1) (tq 20 (.bin .add (.t 19) (.c (.int .i64 1))) (tm 1 (.t 20) .done))))))
 (.reg (tm 10 (.t 5) (tq 11 (.bin .add (.t 10) (.c (.int .i64 1))) (tm 5 (.t 11) .done)))))))))
 (.cut (.seq (.reg (tm 21 (.t 1) (tm 4 (.t 21) .done)))
 .ret))))
theorem e5o:a1a Tryz.prog Tryz.f104 = some (e5n.erase,[.mov (.t 4)],22):=by kernel_rfl
def a2n :List Str → Int → Option (Fl Int Int)
  | [],k_19 =>
    some (.go k_19)
  | x_37 :: xs,k_19 =>
    (a3x k_19).bind fun r_40 =>
    if (!(x_37 == r_40)) then
    some (.ret (-1))
    else
    a2n xs (w64 (k_19 + 1)) 

def a5w (a_1:(List Str)) (k_2:Int):Option Int :=
    (a2n a_1 k_2).bind fun q => (match q with
    | .ret r => some r
    | .go k_29 =>
    some k_29)
theorem b3c (a_1:(List Str)) (k_2:Int) (r:Int) (hf:a5w a_1 k_2 = some r):x9 Tryz.prog 104 .flat [(.lst 1 (a_1.map AV.str)),(.int .i64 k_2)] (.int .i64 r):=by
 refine x9.of_awp mixed Tryz.func104 e5o nle ?_;rw [a0j];unfold a5w at hf;unfold e5n;refine (show awp Tryz.prog false 0 _ (ofL [(0,(.lst 1 (a_1.map AV.str))),(1,(.int .i64 k_2))]) [] _ from ?_);refine sr<|l7 (.int .i64 0) rfl<|dk<|o6<|sr<|l7 (.int .i64 0) rfl<|dk<|?_
 obtain ⟨p30,hb1,hf⟩:=ob hf
 refine a4n (X:={q:Int // p30 = .go q}) (fun q => ([(1,(.int .i64 q.1))],[])) ?_ ?_
 ·refine a1g (X:={q:(Int × Nat) // a2n (a_1.drop q.2) q.1 = some p30}) (fun q => ([(0,(.lst 1 (a_1.map AV.str))),(1,(.int .i64 q.1.1)),(5,(.int .i64 (q.1.2:Int)))],[])) (fun q => a_1.length - q.1.2) ⟨(k_2,0),hb1⟩ ⟨[],[],_,_,rfl,rfl,⟨.refl _,⟨.refl _,⟨.refl _,trivial⟩⟩⟩,(.refl _)⟩ ?_
  rintro ⟨⟨k_19,i_20⟩,hc1⟩
  have hc1:a2n (a_1.drop i_20) k_19 = some p30:=hc1
  refine (show awp Tryz.prog false 0 _ (ofL [(0,(.lst 1 (a_1.map AV.str))),(1,(.int .i64 k_19)),(5,(.int .i64 (i_20:Int)))]) [] _ from ?_)
  rcases a5z a_1 i_20 with ⟨hie33,hd36⟩ | ⟨hlt31,x_37,hx32,hd36⟩
  ·rw [hd36,a2n.eq_1] at hc1
   have hq35:=dlf hie33
   refine o6<|sr<|l7 (.int .i64 (i_20:Int)) rfl<|l7 (.lst 1 (a_1.map AV.str)) rfl<|a0w (a1r (enc:=AV.str) rfl) fun hl38 => x8 (.bool (decide ((i_20:Int) < (a_1.length:Int)))) rfl rfl rfl<|dk<|y8 rfl hq35<|a2t<|a2s<|a1y<|a2r<|?_;obtain rfl:=os hc1;exact a6r ⟨_,rfl⟩ ⟨[],[],_,_,rfl,rfl,⟨.refl _,trivial⟩,(.refl _)⟩
  ·rw [hd36,a2n.eq_2] at hc1
   have hq35:=dlt hlt31
   refine o6<|sr<|l7 (.int .i64 (i_20:Int)) rfl<|l7 (.lst 1 (a_1.map AV.str)) rfl<|a0w (a1r (enc:=AV.str) rfl) fun hl39 => x8 (.bool (decide ((i_20:Int) < (a_1.length:Int)))) rfl rfl rfl<|dk<|y7 rfl hq35<|a0h<|a0f<|o6<|a3g<|o6<|sr<|?_
   obtain ⟨r_40,er41,hc1⟩:=ob hc1
   refine l7 (.lst 1 (a_1.map AV.str)) rfl<|l7 (.int .i64 (i_20:Int)) rfl<|y5 (a2c (enc:=AV.str) rfl rfl hx32)<|x8 (.str x_37) rfl ⟨rfl,rfl⟩ rfl<|l7 (.int .i64 k_19) rfl<|a0r (a0v (a7d _ _ er41) rfl (.refl _) rfl) a7s trivial<|x8 (.bool (!(x_37 == r_40))) rfl trivial rfl<|dk<|?_
   rcases oi hc1 with ⟨c42,hc1⟩ | ⟨c42,hc1⟩
   ·refine y7 rfl c42<|sr<|l7 (.int .i64 (-1)) rfl<|dk<|a0d<|?_;obtain rfl:=os hc1;obtain rfl:=os hf;exact a0e ⟨trivial,trivial⟩ rfl (.refl _)
   ·refine y8 rfl (bf c42)<|a0h<|a0f<|a0s<|l7 (.int .i64 k_19) rfl<|x8 (.int .i64 (w64 (k_19 + 1))) rfl rfl rfl<|l7 (.int .i64 (w64 (k_19 + 1))) rfl<|a0b<|a3f<|a0f<|a0s<|l7 (.int .i64 (i_20:Int)) rfl<|x8 (.int .i64 (w64 ((i_20:Int) + 1))) rfl rfl rfl<|l7 (.int .i64 (w64 ((i_20:Int) + 1))) rfl<|a0b<|?_;exact a1q ⟨(w64 (k_19 + 1),(i_20 + 1)),hc1⟩ (mul hlt31) ⟨[],[],_,_,rfl,rfl,⟨.refl _,⟨.refl _,⟨.of_eq (congrArg (AV.int _) (a1w hlt31 hl39)),trivial⟩⟩⟩,(.refl _)⟩
 ·rintro ⟨k_29,rfl⟩
  refine sr<|l7 (.int .i64 k_29) rfl<|l7 (.int .i64 k_29) rfl<|dk<|a0d<|?_;obtain rfl:=os hf;exact a0e ⟨trivial,trivial⟩ rfl (.refl _)

/- laws.heldJsonS -/
def c105:a0m :=
 (.seq (.reg (tm 4 (.c (.int .i64 0)) .done))
 (.seq (.seq (.reg (tm 5 (.c (.int .i64 0)) .done))
 (.block 0 (.loop (.seq (.seq (.reg (tm 6 (.t 5) (tm 7 (.t 0) (tq 8 (.len (.t 7)) (tq 9 (.bin .lss (.t 6) (.t 8)) .done)))))
 (.cond (.t 9) .skip
 (.exit 0)))
 (.seq (.block 1 (.seq (.seq (.reg (tm 12 (.t 0) (tm 13 (.t 5) (tq 14 (.iaddr 5 (.t 12) (.t 13)) (tq 15 (.faddr 0 (.t 14)) (tq 16 (.load 1 false (.t 15)) (tm 17 (.t 1) (tq 18 (.bin .neq (.t 16) (.t 17)) .done))))))))
 (.cond (.t 18) (.seq (.reg (tq 4 (.mov (.c (.int .i64 (-1)))) .done))
 .ret)
 .skip))
 (.seq (.reg (tm 19 (.t 1) (tq 20 (.bin .add (.t 19) (.c (.int .i64 1))) (tm 1 (.t 20) .done))))
 (.seq (.seq (.reg (tm 21 (.t 0) (tm 22 (.t 5) (tq 23 (.iaddr 5 (.t 21) (.t 22)) (tq 24 (.faddr 1 (.t 23)) (tq 25 (.load 1 false (.t 24)) (tm 26 (.t 1) (tq 27 (.bin .neq (.t 25) (.t 26)) .done))))))))
 (.cond (.t 27) (.seq (.reg (tq 4 (.mov (.c (.int .i64 (-1)))) .done))
 .ret)
 .skip))
 (.seq (.reg (tm 28 (.t 1) (tq 29 (.bin .add (.t 28) (.c (.int .i64 1))) (tm 1 (.t 29) .done))))
 (.seq (.seq (.reg (tm 30 (.t 0) (tm 31 (.t 5) (tq 32 (.iaddr 5 (.t 30) (.t 31)) (tq 33 (.faddr 2 (.t 32)) (tq 34 (.load 1 false (.t 33)) (tm 35 (.t 1) (.l ⟨(some 36),none,.call 101 [(.t 35)]⟩ [⟨(some 34),none,.load 1 false (.t 33)⟩,⟨(some 33),none,.faddr 2 (.t 32)⟩,⟨(some 32),none,.iaddr 5 (.t 30) (.t 31)⟩]
 (tq 37 (.bin .neq (.t 34) (.t 36)) .done) .non))))))))
 (.cond (.t 37) (.seq (.reg (tq 4 (.mov (.c (.int .i64 (-1)))) .done))
 .ret)
 .skip))
 (.seq (.reg (tm 38 (.t 1) (tq 39 (.bin .add (.t 38) (.c (.int .i64 1))) (tm 1 (.t 39) .done))))
 (.seq (.reg (tm 40 (.t 0) (tm 41 (.t 5) (tq 42 (.iaddr 5 (.t 40) (.t 41)) (tq 43 (.faddr 3 (.t 42)) (tq 44 (.load 1 false (.t 43)) (tm 45 (.t 1) (tq 46 (.call 104 [(.t 44),(.t 45)]) (tm 1 (.t 46) .done)))))))))
 (.seq (.seq (.reg (tm 47 (.t 1) (tq 48 (.bin .lss (.t 47) (.c (.int .i64 0))) .done)))
 (.cond (.t 48) (.seq (.reg (tq 4 (.mov (.c (.int .i64 (-1)))) .done))
 .ret)
 .skip))
 (.seq (.reg (tm 49 (.t 0) (tm 50 (.t 5) (tq 51 (.iaddr 5 (.t 49) (.t 50)) (tq 52 (.faddr 4 (.t 51)) (tq 53 (.load 1 false (.t 52)) (tm 54 (.t 1) (tq 55 (.call 105 [(.t 53),(.t 54)]) (tm 1 (.t 55) .done)))))))))
 (.seq (.reg (tm 56 (.t 1) (tq 57 (.bin .lss (.t 56) (.c (.int .i64 0))) .done)))
 (.cond (.t 57) (.seq (.reg (tq 4 (.mov (.c (.int .i64 (-1)))) .done))
 .ret)
 .skip))))))))))))
 (.reg (tm 10 (.t 5) (tq 11 (.bin .add (.t 10) (.c (.int .i64 1))) (tm 5 (.t 11) .done)))))))))
 (.cut (.seq (.reg (tm 58 (.t 1) (tm 4 (.t 58) .done)))
 .ret))))
theorem e5p:a1a Tryz.prog Tryz.f105 = some (c105.erase,[.mov (.t 4)],59):=by kernel_rfl
def a2o (rec:((List o8) → Int → Option Int)):List o8 → Int → Option (Fl Int Int)
  | [],k_51 =>
    some (.go k_51)
  | x_85 :: xs,k_51 =>
    if (x_85.Kind != k_51) then
    some (.ret (-1))
    else
    if (x_85.N != w64 (k_51 + 1)) then
    some (.ret (-1))
    else
    (a3x (w64 ((w64 (k_51 + 1)) + 1))).bind fun r_90 =>
    if (!(x_85.T == r_90)) then
    some (.ret (-1))
    else
    (a5w x_85.Keys (w64 ((w64 ((w64 (k_51 + 1)) + 1)) + 1))).bind fun r_93 =>
    if (decide (r_93 < 0)) then
    some (.ret (-1))
    else
    (rec x_85.Items r_93).bind fun r_96 =>
    if (decide (r_96 < 0)) then
    some (.ret (-1))
    else
    a2o rec xs r_96 

def a8m (rec:((List o8) → Int → Option Int)) (a_1:(List o8)) (k_2:Int):Option Int :=
    (a2o rec a_1 k_2).bind fun q => (match q with
    | .ret r => some r
    | .go k_77 =>
    some k_77)
theorem b8h (rec:((List o8) → Int → Option Int)) (hrec:∀ a0 a1 r,rec a0 a1 = some r → x9 Tryz.prog 105 .flat [(.lst 5 (a0.map o5)),(.int .i64 a1)] (.int .i64 r)) (a_1:(List o8)) (k_2:Int) (r:Int) (hf:a8m rec a_1 k_2 = some r):x9 Tryz.prog 105 .flat [(.lst 5 (a_1.map o5)),(.int .i64 k_2)] (.int .i64 r):=by
 refine x9.of_awp mixed Tryz.func105 e5p nle ?_;rw [a0j];unfold a8m at hf;unfold c105;refine (show awp Tryz.prog false 0 _ (ofL [(0,(.lst 5 (a_1.map o5))),(1,(.int .i64 k_2))]) [] _ from ?_);refine sr<|l7 (.int .i64 0) rfl<|dk<|o6<|sr<|l7 (.int .i64 0) rfl<|dk<|?_
 obtain ⟨p78,hb1,hf⟩:=ob hf
 refine a4n (X:={q:Int // p78 = .go q}) (fun q => ([(1,(.int .i64 q.1))],[])) ?_ ?_
 ·refine a1g (X:={q:(Int × Nat) // a2o rec (a_1.drop q.2) q.1 = some p78}) (fun q => ([(0,(.lst 5 (a_1.map o5))),(1,(.int .i64 q.1.1)),(5,(.int .i64 (q.1.2:Int)))],[])) (fun q => a_1.length - q.1.2) ⟨(k_2,0),hb1⟩ ⟨[],[],_,_,rfl,rfl,⟨.refl _,⟨.refl _,⟨.refl _,trivial⟩⟩⟩,(.refl _)⟩ ?_
  rintro ⟨⟨k_51,i_52⟩,hc1⟩
  have hc1:a2o rec (a_1.drop i_52) k_51 = some p78:=hc1
  refine (show awp Tryz.prog false 0 _ (ofL [(0,(.lst 5 (a_1.map o5))),(1,(.int .i64 k_51)),(5,(.int .i64 (i_52:Int)))]) [] _ from ?_)
  rcases a5z a_1 i_52 with ⟨hie81,hd84⟩ | ⟨hlt79,x_85,hx80,hd84⟩
  ·rw [hd84,a2o.eq_1] at hc1
   have hq83:=dlf hie81
   refine o6<|sr<|l7 (.int .i64 (i_52:Int)) rfl<|l7 (.lst 5 (a_1.map o5)) rfl<|a0w (a1r (enc:=o5) rfl) fun hl86 => x8 (.bool (decide ((i_52:Int) < (a_1.length:Int)))) rfl rfl rfl<|dk<|y8 rfl hq83<|a2t<|a2s<|a1y<|a2r<|?_;obtain rfl:=os hc1;exact a6r ⟨_,rfl⟩ ⟨[],[],_,_,rfl,rfl,⟨.refl _,trivial⟩,(.refl _)⟩
  ·rw [hd84,a2o.eq_2] at hc1
   have hq83:=dlt hlt79
   refine o6<|sr<|l7 (.int .i64 (i_52:Int)) rfl<|l7 (.lst 5 (a_1.map o5)) rfl<|a0w (a1r (enc:=o5) rfl) fun hl87 => x8 (.bool (decide ((i_52:Int) < (a_1.length:Int)))) rfl rfl rfl<|dk<|y7 rfl hq83<|a0h<|a0f<|o6<|a3g<|o6<|sr<|l7 (.lst 5 (a_1.map o5)) rfl<|l7 (.int .i64 (i_52:Int)) rfl<|y5 (a2c (enc:=o5) rfl rfl hx80)<|x8 (.iptr (o5 x_85) 0) rfl trivial rfl<|y5 (a7u (v:=(.int .i64 x_85.Kind)) rfl (y9 _) nle rfl)<|l7 (.int .i64 k_51) rfl<|x8 (.bool (x_85.Kind != k_51)) rfl rfl rfl<|dk<|?_
   rcases oi hc1 with ⟨c88,hc1⟩ | ⟨c88,hc1⟩
   ·refine y7 rfl c88<|sr<|l7 (.int .i64 (-1)) rfl<|dk<|a0d<|?_;obtain rfl:=os hc1;obtain rfl:=os hf;exact a0e ⟨trivial,trivial⟩ rfl (.refl _)
   ·refine y8 rfl (bf c88)<|a0h<|a0f<|sr<|l7 (.int .i64 k_51) rfl<|x8 (.int .i64 (w64 (k_51 + 1))) rfl rfl rfl<|l7 (.int .i64 (w64 (k_51 + 1))) rfl<|dk<|o6<|sr<|l7 (.lst 5 (a_1.map o5)) rfl<|l7 (.int .i64 (i_52:Int)) rfl<|y5 (a2c (enc:=o5) rfl rfl hx80)<|x8 (.iptr (o5 x_85) 1) rfl trivial rfl<|y5 (a7u (v:=(.int .i64 x_85.N)) rfl (y9 _) nle rfl)<|l7 (.int .i64 (w64 (k_51 + 1))) rfl<|x8 (.bool (x_85.N != w64 (k_51 + 1))) rfl rfl rfl<|dk<|?_
    rcases oi hc1 with ⟨c89,hc1⟩ | ⟨c89,hc1⟩
    ·refine y7 rfl c89<|sr<|l7 (.int .i64 (-1)) rfl<|dk<|a0d<|?_;obtain rfl:=os hc1;obtain rfl:=os hf;exact a0e ⟨trivial,trivial⟩ rfl (.refl _)
    ·refine y8 rfl (bf c89)<|a0h<|a0f<|sr<|l7 (.int .i64 (w64 (k_51 + 1))) rfl<|x8 (.int .i64 (w64 ((w64 (k_51 + 1)) + 1))) rfl rfl rfl<|l7 (.int .i64 (w64 ((w64 (k_51 + 1)) + 1))) rfl<|dk<|o6<|sr<|?_
     obtain ⟨r_90,er91,hc1⟩:=ob hc1
     refine l7 (.lst 5 (a_1.map o5)) rfl<|l7 (.int .i64 (i_52:Int)) rfl<|y5 (a2c (enc:=o5) rfl rfl hx80)<|x8 (.iptr (o5 x_85) 2) rfl trivial rfl<|y5 (a7u (v:=(.str x_85.T)) rfl (y9 _) nle rfl)<|l7 (.int .i64 (w64 ((w64 (k_51 + 1)) + 1))) rfl<|a0r (a0v (a7d _ _ er91) rfl (.refl _) rfl) a7s trivial<|x8 (.bool (!(x_85.T == r_90))) rfl trivial rfl<|dk<|?_
     rcases oi hc1 with ⟨c92,hc1⟩ | ⟨c92,hc1⟩
     ·refine y7 rfl c92<|sr<|l7 (.int .i64 (-1)) rfl<|dk<|a0d<|?_;obtain rfl:=os hc1;obtain rfl:=os hf;exact a0e ⟨trivial,trivial⟩ rfl (.refl _)
     ·refine y8 rfl (bf c92)<|a0h<|a0f<|sr<|l7 (.int .i64 (w64 ((w64 (k_51 + 1)) + 1))) rfl<|x8 (.int .i64 (w64 ((w64 ((w64 (k_51 + 1)) + 1)) + 1))) rfl rfl rfl<|l7 (.int .i64 (w64 ((w64 ((w64 (k_51 + 1)) + 1)) + 1))) rfl<|dk<|sr<|?_
      obtain ⟨r_93,er94,hc1⟩:=ob hc1
      refine l7 (.lst 5 (a_1.map o5)) rfl<|l7 (.int .i64 (i_52:Int)) rfl<|y5 (a2c (enc:=o5) rfl rfl hx80)<|x8 (.iptr (o5 x_85) 3) rfl trivial rfl<|y5 (a7u (v:=(.lst 1 (x_85.Keys.map AV.str))) rfl (y9 _) nle rfl)<|l7 (.int .i64 (w64 ((w64 ((w64 (k_51 + 1)) + 1)) + 1))) rfl<|y5 (a0v (b3c _ _ _ er94) rfl (.refl _) rfl)<|l7 (.int .i64 r_93) rfl<|dk<|o6<|sr<|l7 (.int .i64 r_93) rfl<|x8 (.bool (decide (r_93 < 0))) rfl rfl rfl<|dk<|?_
      rcases oi hc1 with ⟨c95,hc1⟩ | ⟨c95,hc1⟩
      ·refine y7 rfl c95<|sr<|l7 (.int .i64 (-1)) rfl<|dk<|a0d<|?_;obtain rfl:=os hc1;obtain rfl:=os hf;exact a0e ⟨trivial,trivial⟩ rfl (.refl _)
      ·refine y8 rfl (bf c95)<|a0h<|a0f<|sr<|?_
       obtain ⟨r_96,er97,hc1⟩:=ob hc1
       refine l7 (.lst 5 (a_1.map o5)) rfl<|l7 (.int .i64 (i_52:Int)) rfl<|y5 (a2c (enc:=o5) rfl rfl hx80)<|x8 (.iptr (o5 x_85) 4) rfl trivial rfl<|y5 (a7u (v:=(.lst 5 (x_85.Items.map o5))) rfl (y9 _) nle rfl)<|l7 (.int .i64 r_93) rfl<|y5 (a0v (hrec _ _ _ er97) rfl (.refl _) rfl)<|l7 (.int .i64 r_96) rfl<|dk<|sr<|l7 (.int .i64 r_96) rfl<|x8 (.bool (decide (r_96 < 0))) rfl rfl rfl<|dk<|?_
       rcases oi hc1 with ⟨c98,hc1⟩ | ⟨c98,hc1⟩
       ·refine y7 rfl c98<|sr<|l7 (.int .i64 (-1)) rfl<|dk<|a0d<|?_;obtain rfl:=os hc1;obtain rfl:=os hf;exact a0e ⟨trivial,trivial⟩ rfl (.refl _)
       ·refine y8 rfl (bf c98)<|a0h<|a3f<|a0f<|a0s<|l7 (.int .i64 (i_52:Int)) rfl<|x8 (.int .i64 (w64 ((i_52:Int) + 1))) rfl rfl rfl<|l7 (.int .i64 (w64 ((i_52:Int) + 1))) rfl<|a0b<|?_;exact a1q ⟨(r_96,(i_52 + 1)),hc1⟩ (mul hlt79) ⟨[],[],_,_,rfl,rfl,⟨.refl _,⟨.refl _,⟨.of_eq (congrArg (AV.int _) (a1w hlt79 hl87)),trivial⟩⟩⟩,(.refl _)⟩
 ·rintro ⟨k_77,rfl⟩
  refine sr<|l7 (.int .i64 k_77) rfl<|l7 (.int .i64 k_77) rfl<|dk<|a0d<|?_;obtain rfl:=os hf;exact a0e ⟨trivial,trivial⟩ rfl (.refl _)
def a4u:Nat → (List o8) → Int → Option Int
 | 0,_,_ => none
 | k + 1,a_1,k_2 => a8m (a4u k) a_1 k_2
theorem b4f:∀ (k:Nat) (a_1:(List o8)) (k_2:Int) (r:Int),a4u k a_1 k_2 = some r → x9 Tryz.prog 105 .flat [(.lst 5 (a_1.map o5)),(.int .i64 k_2)] (.int .i64 r)
 | 0,a_1,k_2,r,h => by rw [a4u.eq_1] at h;cases h
 | k + 1,a_1,k_2,r,h => by
  rw [a4u.eq_2] at h;exact b8h _ (b4f k) a_1 k_2 r h

/- laws.heldJson -/
def c29:a0m :=
 (.seq (.reg (tq 2 (.box 5 (.t 0)) (tm 4 (.c (.int .i64 0)) .done)))
 (.seq (.reg (tq 5 (.faddr 3 (.t 2)) (tq 6 (.load 1 false (.t 5)) (tm 7 (.t 1) (tq 8 (.call 104 [(.t 6),(.t 7)]) (tm 1 (.t 8) .done))))))
 (.seq (.seq (.reg (tm 9 (.t 1) (tq 10 (.bin .lss (.t 9) (.c (.int .i64 0))) .done)))
 (.cond (.t 10) (.seq (.reg (tq 4 (.mov (.c (.int .i64 (-1)))) .done))
 .ret)
 .skip))
 (.seq (.reg (tq 11 (.faddr 4 (.t 2)) (tq 12 (.load 1 false (.t 11)) (tm 13 (.t 1) (tq 14 (.call 105 [(.t 12),(.t 13)]) (tm 1 (.t 14) .done))))))
 (.seq (.seq (.reg (tm 15 (.t 1) (tq 16 (.bin .lss (.t 15) (.c (.int .i64 0))) .done)))
 (.cond (.t 16) (.seq (.reg (tq 4 (.mov (.c (.int .i64 (-1)))) .done))
 .ret)
 .skip))
 (.seq (.reg (tm 17 (.t 1) (tm 4 (.t 17) .done)))
 .ret))))))
theorem e6p:a1a Tryz.prog Tryz.f29 = some (c29.erase,[.mov (.t 4)],18):=by kernel_rfl
def a7j (a_1:o8) (k_2:Int):Option Int :=
    (a5w a_1.Keys k_2).bind fun r_3 =>
    if (decide (r_3 < 0)) then
    some (-1)
    else
    (a4u FUEL a_1.Items r_3).bind fun r_6 =>
    if (decide (r_6 < 0)) then
    some (-1)
    else
    some r_6
theorem b5l (a_1:o8) (k_2:Int) (r:Int) (hf:a7j a_1 k_2 = some r):x9 Tryz.prog 29 .flat [(o5 a_1),(.int .i64 k_2)] (.int .i64 r):=by
 refine x9.of_awp mixed Tryz.func29 e6p nle ?_;rw [a0j];rw [y9 a_1];unfold a7j at hf;unfold c29;refine (show awp Tryz.prog false 0 _ (ofL [(0,(.agg [(.int .i64 a_1.Kind),(.int .i64 a_1.N),(.str a_1.T),(.lst 1 (a_1.Keys.map AV.str)),(.lst 5 (a_1.Items.map o5))])),(1,(.int .i64 k_2))]) [] _ from ?_);refine sr<|y5 (a1i (j:=0) (c:=(.agg [(.int .i64 a_1.Kind),(.int .i64 a_1.N),(.str a_1.T),(.lst 1 (a_1.Keys.map AV.str)),(.lst 5 (a_1.Items.map o5))])) rfl trivial rfl rfl)<|l7 (.int .i64 0) rfl<|dk<|sr<|?_
 obtain ⟨r_3,er4,hf⟩:=ob hf
 refine x8 (.ptr 0 0 3) rfl trivial rfl<|x8 (.lst 1 (a_1.Keys.map AV.str)) rfl nle rfl<|l7 (.int .i64 k_2) rfl<|y5 (a0v (b3c _ _ _ er4) rfl (.refl _) rfl)<|l7 (.int .i64 r_3) rfl<|dk<|o6<|sr<|l7 (.int .i64 r_3) rfl<|x8 (.bool (decide (r_3 < 0))) rfl rfl rfl<|dk<|?_
 rcases oi hf with ⟨c5,hf⟩ | ⟨c5,hf⟩
 ·refine y7 rfl c5<|sr<|l7 (.int .i64 (-1)) rfl<|dk<|a0d<|?_;obtain rfl:=os hf;exact a0e ⟨trivial,trivial⟩ rfl (.refl _)
 ·refine y8 rfl (bf c5)<|a0h<|a0f<|sr<|?_
  obtain ⟨r_6,er7,hf⟩:=ob hf
  refine x8 (.ptr 0 0 4) rfl trivial rfl<|x8 (.lst 5 (a_1.Items.map o5)) rfl nle rfl<|l7 (.int .i64 r_3) rfl<|y5 (a0v (b4f FUEL _ _ _ er7) rfl (.refl _) rfl)<|l7 (.int .i64 r_6) rfl<|dk<|o6<|sr<|l7 (.int .i64 r_6) rfl<|x8 (.bool (decide (r_6 < 0))) rfl rfl rfl<|dk<|?_
  rcases oi hf with ⟨c8,hf⟩ | ⟨c8,hf⟩
  ·refine y7 rfl c8<|sr<|l7 (.int .i64 (-1)) rfl<|dk<|a0d<|?_;obtain rfl:=os hf;exact a0e ⟨trivial,trivial⟩ rfl (.refl _)
  ·refine y8 rfl (bf c8)<|a0h<|a0f<|sr<|l7 (.int .i64 r_6) rfl<|l7 (.int .i64 r_6) rfl<|dk<|a0d<|?_;obtain rfl:=os hf;exact a0e ⟨trivial,trivial⟩ rfl (.refl _)

end Go.R
