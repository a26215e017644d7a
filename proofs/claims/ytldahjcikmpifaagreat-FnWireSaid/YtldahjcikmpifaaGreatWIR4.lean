/- Walks. -/
import Derived.Test.YtldahjcikmpifaaGreatWIR3
set_option linter.all false
namespace Go.R
open Go Go.Proofs
set_option linter.unusedVariables false
set_option linter.unusedSimpArgs false
set_option maxHeartbeats 8000000
/- slices.Sort[[]string,string] -/
def d4j:a0p :=
 (.seq (.reg (tm 3 (.t 0) (tq 4 (.len (.t 3)) (tm 2 (.t 4) .done))))
 (.reg (tm 5 (.t 0) (tm 6 (.t 2) (tm 7 (.t 2) (tq 8 (.convI .u64 (.t 7)) (tq 9 (.call 288 [(.t 8)]) (tq 10 (.call 287 [(.t 5),(.c (.int .i64 0)),(.t 6),(.t 9)]) .done))))))))
theorem d8j:a1b Tryz.prog Tryz.f198 = some (d4j.erase,[],11):=by kernel_rfl
def a3p (x_1:(List Str)):Option (List Str) :=
    (a6z (IntKind.u64.wrap (x_1.length:Int))).bind fun r_3 =>
    (a1u FUEL x_1 0 (x_1.length:Int) r_3).bind fun r_5 =>
    some r_5
theorem b1c (x_1:(List Str)) (r:(List Str)) (hf:a3p x_1 = some r):a0j Tryz.prog true 198 [(.own 0 0 x_1.length)] [.row 1 (x_1.map AV.str)] (.tup []) [.row 1 (r.map AV.str)]:=by
  refine a0j.of_awp mixed Tryz.func198 d8j nle ?_
  rw [a0f]
  unfold a3p at hf
  unfold d4j
  refine (show awp Tryz.prog true 1 _ (ofL [(0,(.own 0 0 x_1.length))]) [.row 1 (x_1.map AV.str)] _ from ?_)
  refine o6 ?_
  refine a0z ?_
  refine o8 (a2z (.own 0 0 x_1.length) rfl) ?_
  refine a1n (a6h rfl rfl) fun hl2 => ?_
  refine o8 (a2z (.int .i64 (x_1.length:Int)) rfl) ?_
  refine a0e ?_
  refine a0h ?_
  refine a0z ?_
  obtain ⟨r_3,er4,hf⟩:=ob hf
  obtain ⟨r_5,er6,hf⟩:=ob hf
  refine o8 (a2z (.own 0 0 x_1.length) rfl) ?_
  refine o8 (a2z (.int .i64 (x_1.length:Int)) rfl) ?_
  refine o8 (a2z (.int .i64 (x_1.length:Int)) rfl) ?_
  refine o8 (o_q (.int .u64 (IntKind.u64.wrap (x_1.length:Int))) rfl trivial rfl) ?_
  refine o8 (a1f (b5i _ _ er4) rfl (.refl _) rfl) ?_
  refine a1n (b4b (v:=(.tup [])) (h2:=[.row 1 (r_5.map AV.str)]) [] [0] (fun _ => rfl) (a6j FUEL _ _ _ _ _ er6) rfl (.refl _) (.refl _) rfl rfl) fun hl7 => ?_
  refine a0e ?_
  obtain rfl:=os hf
  exact a3a [] [0] rfl trivial rfl (.refl _) (.refl _)

/- slices.Compact[[]string,string] -/
def d4k:a0p :=
 (.seq (.reg (tm 2 (.c .nil) .done))
 (.seq (.seq (.reg (tm 6 (.t 0) (tq 7 (.len (.t 6)) (tq 8 (.bin .lss (.t 7) (.c (.int .i64 2))) .done))))
 (.cond (.t 8) (.seq (.reg (tm 9 (.t 0) (tm 2 (.t 9) .done)))
 .ret)
 .skip))
 (.seq (.seq (.reg (tm 3 (.c (.int .i64 1)) .done))
 (.block 0 (.loop (.seq (.seq (.reg (tm 10 (.t 3) (tm 11 (.t 0) (tq 12 (.len (.t 11)) (tq 13 (.bin .lss (.t 10) (.t 12)) .done)))))
 (.cond (.t 13) .skip
 (.exit 0)))
 (.seq (.block 1 (.seq (.reg (tm 16 (.t 0) (tm 17 (.t 3) (tq 18 (.iaddr 1 (.t 16) (.t 17)) (tq 19 (.load 1 false (.t 18)) (tm 20 (.t 0) (tm 21 (.t 3) (tq 22 (.bin .sub (.t 21) (.c (.int .i64 1))) (tq 23 (.iaddr 1 (.t 20) (.t 22)) (tq 24 (.load 1 false (.t 23)) (tq 25 (.bin .eql (.t 19) (.t 24)) .done)))))))))))
 (.cond (.t 25) (.seq (.reg (tm 26 (.t 0) (tm 27 (.t 3) (tq 28 (.slice 1 (.t 26) (some (.t 27)) none) (tm 4 (.t 28) .done)))))
 (.seq (.seq (.reg (tm 5 (.c (.int .i64 1)) .done))
 (.block 2 (.loop (.seq (.seq (.reg (tm 29 (.t 5) (tm 30 (.t 4) (tq 31 (.len (.t 30)) (tq 32 (.bin .lss (.t 29) (.t 31)) .done)))))
 (.cond (.t 32) .skip
 (.exit 2)))
 (.seq (.block 3 (.seq (.reg (tm 35 (.t 4) (tm 36 (.t 5) (tq 37 (.iaddr 1 (.t 35) (.t 36)) (tq 38 (.load 1 false (.t 37)) (tm 39 (.t 4) (tm 40 (.t 5) (tq 41 (.bin .sub (.t 40) (.c (.int .i64 1))) (tq 42 (.iaddr 1 (.t 39) (.t 41)) (tq 43 (.load 1 false (.t 42)) (tq 44 (.bin .neq (.t 38) (.t 43)) .done)))))))))))
 (.cond (.t 44) (.seq (.reg (tm 45 (.t 0) (tm 46 (.t 3) (tm 47 (.t 4) (tm 48 (.t 5) (tq 49 (.iaddr 1 (.t 47) (.t 48)) (tq 50 (.load 1 false (.t 49)) (tq 51 (.iaddr 1 (.t 45) (.t 46)) (.q ⟨none,none,.store 1 (.t 51) (.t 50)⟩
 .done)))))))))
 (.reg (tm 52 (.t 3) (tq 53 (.bin .add (.t 52) (.c (.int .i64 1))) (tm 3 (.t 53) .done)))))
 .skip)))
 (.reg (tm 33 (.t 5) (tq 34 (.bin .add (.t 33) (.c (.int .i64 1))) (tm 5 (.t 34) .done)))))))))
 (.cut (.seq (.reg (tm 54 (.t 0) (tm 55 (.t 3) (tq 56 (.slice 1 (.t 54) (some (.t 55)) none) (.q ⟨none,none,.clr 1 (.str []) (.t 56)⟩
 .done)))))
 (.seq (.reg (tm 57 (.t 0) (tm 58 (.t 3) (tq 59 (.slice 1 (.t 57) none (some (.t 58))) (tm 2 (.t 59) .done)))))
 .ret)))))
 .skip)))
 (.reg (tm 14 (.t 3) (tq 15 (.bin .add (.t 14) (.c (.int .i64 1))) (tm 3 (.t 15) .done)))))))))
 (.cut (.seq (.reg (tm 60 (.t 0) (tm 2 (.t 60) .done)))
 .ret)))))
theorem d8k:a1b Tryz.prog Tryz.f199 = some (d4k.erase,[.mov (.t 2)],61):=by kernel_rfl
def a0w (s_1:(List Str)) (k_235:Nat):Nat → Int → Int → (List Str) → Option (Int × (List Str))
  | 0,_,_,_ => none
  | k + 1,k_439,k2_440,s_441 =>
    if (decide (k2_440 < (((s_1.length - k_235):Nat):Int))) then
    if (0:Int) ≤ k2_440 ∧ k2_440 < (((s_1.length - k_235):Nat):Int) then
    (s_441[(k_235 + k2_440.toNat)]?).bind fun x_461 =>
    if (0:Int) ≤ w64 (k2_440 - 1) ∧ w64 (k2_440 - 1) < (((s_1.length - k_235):Nat):Int) then
    (s_441[(k_235 + (w64 (k2_440 - 1)).toNat)]?).bind fun x_464 =>
    if (!(x_461 == x_464)) then
    if (0:Int) ≤ k2_440 ∧ k2_440 < (((s_1.length - k_235):Nat):Int) then
    if (0:Int) ≤ k_439 ∧ k_439 < (s_441.length:Int) then
    (s_441[(0 + k_439.toNat)]?).bind fun x_469 =>
    a0w s_1 k_235 k (w64 (k_439 + 1)) (w64 (k2_440 + 1)) (s_441.set (0 + k_439.toNat) x_461)
    else none
    else none
    else
    a0w s_1 k_235 k k_439 (w64 (k2_440 + 1)) s_441
    else none
    else none
    else
    some (k_439,s_441)

def a1a (s_1:(List Str)):List Str → Nat → Option (Fl (List Str) Unit)
  | [],k_235 =>
    some (.go ())
  | x_359 :: xs,k_235 =>
    if k_235 < s_1.length then
    if (0:Int) ≤ w64 ((k_235:Int) - 1) ∧ w64 ((k_235:Int) - 1) < (s_1.length:Int) then
    (s_1[(0 + (w64 ((k_235:Int) - 1)).toNat)]?).bind fun x_364 =>
    if (x_359 == x_364) then
    if (0:Int) ≤ (k_235:Int) ∧ (k_235:Int) ≤ (s_1.length:Int) then
    (a0w s_1 k_235 FUEL (k_235:Int) 1 s_1).bind fun p457 =>
    (match p457 with
    | (k_455,s_456) =>
    if (0:Int) ≤ k_455 ∧ k_455 ≤ (s_456.length:Int) then
    if (0:Int) ≤ k_455 ∧ k_455 ≤ (s_456.length:Int) then
    some (.ret ((s_456.take k_455.toNat ++ List.replicate (s_456.length - k_455.toNat) [] ++ s_456.drop (k_455.toNat + (s_456.length - k_455.toNat))).take k_455.toNat))
    else none
    else none)
    else none
    else
    a1a s_1 xs (k_235 + 1)
    else none
    else none

def a3c (s_1:(List Str)):Option (List Str) :=
    if (decide ((s_1.length:Int) < 2)) then
    some s_1
    else
    (a1a s_1 (s_1.drop 1) 1).bind fun q => (match q with
    | .ret r => some r
    | .go _ =>
    some s_1)
theorem b0a (s_1:(List Str)) (r:(List Str)) (hf:a3c s_1 = some r):a0j Tryz.prog true 199 [(.own 0 0 s_1.length)] [.row 1 (s_1.map AV.str)] (.own 1 0 r.length) [.dead,.row 1 (r.map AV.str)]:=by
 refine a0j.of_awp mixed Tryz.func199 d8k nle ?_;rw [a0f];unfold a3c at hf;unfold d4k;refine (show awp Tryz.prog true 1 _ (ofL [(0,(.own 0 0 s_1.length))]) [.row 1 (s_1.map AV.str)] _ from ?_);refine sr<|l7 .nil rfl<|dk<|o6<|sr<|l7 (.own 0 0 s_1.length) rfl<|a1n (a6h rfl rfl) fun hl2 => o7 (.bool (decide ((s_1.length:Int) < 2))) rfl rfl rfl<|dk<|?_
 rcases oi hf with ⟨c3,hf⟩ | ⟨c3,hf⟩
 ·refine a0b rfl c3<|sr<|l7 (.own 0 0 s_1.length) rfl<|l7 (.own 0 0 s_1.length) rfl<|dk<|a0d<|?_;obtain rfl:=os hf;exact a3a [.mv 0] [0,1] rfl ⟨trivial,trivial⟩ rfl (.refl _) (.refl _)
 ·refine a0c rfl (bf c3)<|a0i<|a0h<|o6<|sr<|l7 (.int .i64 1) rfl<|dk<|?_
  obtain ⟨p352,hb1,hf⟩:=ob hf
  refine a4k (X:={q:Unit // p352 = .go q}) (fun q => ([(0,(.own 0 0 s_1.length))],[.row 1 (s_1.map AV.str)])) ?_ ?_
  ·refine a1v (X:={q:Nat // a1a s_1 (s_1.drop q) q = some p352}) (fun q => ([(0,(.own 0 0 s_1.length)),(3,(.int .i64 (q.1:Int)))],[.row 1 (s_1.map AV.str)])) (fun q => s_1.length - q.1) ⟨1,hb1⟩ ⟨[],[0],_,_,rfl,rfl,⟨.refl _,⟨.refl _,trivial⟩⟩,(.refl _)⟩ ?_
   rintro ⟨k_235,hc1⟩
   have hc1:a1a s_1 (s_1.drop k_235) k_235 = some p352:=hc1
   refine (show awp Tryz.prog true 1 _ (ofL [(0,(.own 0 0 s_1.length)),(3,(.int .i64 (k_235:Int)))]) [.row 1 (s_1.map AV.str)] _ from ?_)
   rcases a7j s_1 k_235 with ⟨hie355,hd358⟩ | ⟨hlt353,x_359,hx354,hd358⟩
   ·rw [hd358,a1a.eq_1] at hc1
    have hq357:=dlf hie355
    refine o6<|sr<|l7 (.int .i64 (k_235:Int)) rfl<|l7 (.own 0 0 s_1.length) rfl<|a1n (a6h rfl rfl) fun hl360 => o7 (.bool (decide ((k_235:Int) < (s_1.length:Int)))) rfl rfl rfl<|dk<|a0c rfl hq357<|a4b<|a4a<|a2w<|a3z<|?_;obtain rfl:=os hc1;exact a5z ⟨_,rfl⟩ ⟨[],[0],_,_,rfl,rfl,⟨.refl _,trivial⟩,(.refl _)⟩
   ·rw [hd358,a1a.eq_2] at hc1
    have hq357:=dlt hlt353
    refine o6<|sr<|l7 (.int .i64 (k_235:Int)) rfl<|l7 (.own 0 0 s_1.length) rfl<|a1n (a6h rfl rfl) fun hl361 => o7 (.bool (decide ((k_235:Int) < (s_1.length:Int)))) rfl rfl rfl<|dk<|a0b rfl hq357<|a0i<|a0h<|o6<|a3s<|sr<|?_
    obtain ⟨g362,hc1⟩:=og hc1
    obtain ⟨g363,hc1⟩:=og hc1
    obtain ⟨x_364,ex365,hc1⟩:=ob hc1
    refine l7 (.own 0 0 s_1.length) rfl<|l7 (.int .i64 (k_235:Int)) rfl<|o8 (b6b rfl rfl g362 rfl rfl)<|o8 (a3r (enc:=AV.str) (v:=(.str x_359)) rfl rfl hx354 ⟨rfl,rfl⟩ rfl)<|l7 (.own 0 0 s_1.length) rfl<|l7 (.int .i64 (k_235:Int)) rfl<|o7 (.int .i64 (w64 ((k_235:Int) - 1))) rfl rfl rfl<|o8 (a2i rfl rfl g363.1 g363.2 rfl rfl)<|o8 (a3r (enc:=AV.str) (v:=(.str x_364)) rfl rfl ex365 ⟨rfl,rfl⟩ rfl)<|o7 (.bool (x_359 == x_364)) rfl trivial rfl<|dk<|?_
    rcases oi hc1 with ⟨c366,hc1⟩ | ⟨c366,hc1⟩
    ·refine a0b rfl c366<|sr<|?_
     obtain ⟨g367,hc1⟩:=og hc1
     refine l7 (.own 0 0 s_1.length) rfl<|l7 (.int .i64 (k_235:Int)) rfl<|o8 (c0s rfl rfl rfl g367.1 g367.2)<|l7 (.own 0 k_235 (s_1.length - k_235)) rfl<|dk<|o6<|sr<|l7 (.int .i64 1) rfl<|dk<|?_
     obtain ⟨p457,hb2,hc1⟩:=ob hc1
     refine a2v ([(0,(.own 0 0 p457.2.length)),(3,(.int .i64 p457.1))],[.row 1 (p457.2.map AV.str)]) ?_ ?_
     ·refine a1v (X:={q:(Nat × Int × Int × (List Str)) // a0w s_1 k_235 q.1 q.2.1 q.2.2.1 q.2.2.2 = some p457}) (fun q => ([(0,(.own 0 0 q.1.2.2.2.length)),(3,(.int .i64 q.1.2.1)),(4,(.own 0 k_235 (s_1.length - k_235))),(5,(.int .i64 q.1.2.2.1))],[.row 1 (q.1.2.2.2.map AV.str)])) (fun q => q.1.1) ⟨(FUEL,(k_235:Int),1,s_1),hb2⟩ ⟨[],[0],_,_,rfl,rfl,⟨.refl _,⟨.refl _,⟨.refl _,⟨.refl _,trivial⟩⟩⟩⟩,(.refl _)⟩ ?_
      rintro ⟨⟨k,k_439,k2_440,s_441⟩,hc2⟩
      have hc2:a0w s_1 k_235 k k_439 k2_440 s_441 = some p457:=hc2
      refine (show awp Tryz.prog true 1 _ (ofL [(0,(.own 0 0 s_441.length)),(3,(.int .i64 k_439)),(4,(.own 0 k_235 (s_1.length - k_235))),(5,(.int .i64 k2_440))]) [.row 1 (s_441.map AV.str)] _ from ?_)
      rcases k with _ | k
      ·rw [a0w.eq_1] at hc2
       cases hc2
      ·rw [a0w.eq_2] at hc2;refine o6<|sr<|l7 (.int .i64 k2_440) rfl<|l7 (.own 0 k_235 (s_1.length - k_235)) rfl<|a1n (a6h rfl rfl) fun hl458 => o7 (.bool (decide (k2_440 < (((s_1.length - k_235):Nat):Int)))) rfl rfl rfl<|dk<|?_
       rcases oi hc2 with ⟨c459,hc2⟩ | ⟨c459,hc2⟩
       ·refine a0b rfl c459<|a0i<|a0h<|o6<|a3s<|sr<|?_
        obtain ⟨g460,hc2⟩:=og hc2
        obtain ⟨x_461,ex462,hc2⟩:=ob hc2
        obtain ⟨g463,hc2⟩:=og hc2
        obtain ⟨x_464,ex465,hc2⟩:=ob hc2
        refine l7 (.own 0 k_235 (s_1.length - k_235)) rfl<|l7 (.int .i64 k2_440) rfl<|o8 (a2i rfl rfl g460.1 g460.2 rfl rfl)<|o8 (a3r (enc:=AV.str) (v:=(.str x_461)) rfl rfl ex462 ⟨rfl,rfl⟩ rfl)<|l7 (.own 0 k_235 (s_1.length - k_235)) rfl<|l7 (.int .i64 k2_440) rfl<|o7 (.int .i64 (w64 (k2_440 - 1))) rfl rfl rfl<|o8 (a2i rfl rfl g463.1 g463.2 rfl rfl)<|o8 (a3r (enc:=AV.str) (v:=(.str x_464)) rfl rfl ex465 ⟨rfl,rfl⟩ rfl)<|o7 (.bool (!(x_461 == x_464))) rfl trivial rfl<|dk<|?_
        rcases oi hc2 with ⟨c466,hc2⟩ | ⟨c466,hc2⟩
        ·refine a0b rfl c466<|sr<|?_
         obtain ⟨g467,hc2⟩:=og hc2
         obtain ⟨g468,hc2⟩:=og hc2
         obtain ⟨x_469,ex470,hc2⟩:=ob hc2
         refine l7 (.own 0 0 s_441.length) rfl<|l7 (.int .i64 k_439) rfl<|l7 (.own 0 k_235 (s_1.length - k_235)) rfl<|l7 (.int .i64 k2_440) rfl<|o8 (a2i rfl rfl g467.1 g467.2 rfl rfl)<|o8 (a3r (enc:=AV.str) (v:=(.str x_461)) rfl rfl ex462 ⟨rfl,rfl⟩ rfl)<|o8 (a2i rfl rfl g468.1 g468.2 rfl rfl)<|?_;refine a1i (b1a (v':=(.str x_461)) (e':=x_461) rfl rfl ex470 rfl rfl rfl (by decide) (fun _ => by decide) ⟨rfl,rfl,rfl⟩ (.refl _) rfl) ?_;refine dk<|a0z<|l7 (.int .i64 k_439) rfl<|o7 (.int .i64 (w64 (k_439 + 1))) rfl rfl rfl<|l7 (.int .i64 (w64 (k_439 + 1))) rfl<|a0e<|a3l<|a0h<|a0z<|l7 (.int .i64 k2_440) rfl<|?_
         refine o7 (.int .i64 (w64 (k2_440 + 1))) rfl rfl rfl<|l7 (.int .i64 (w64 (k2_440 + 1))) rfl<|a0e<|?_;exact a2p ⟨(k,w64 (k_439 + 1),w64 (k2_440 + 1),s_441.set (0 + k_439.toNat) x_461),hc2⟩ (Nat.lt_succ_self _) ⟨[],[0],_,_,rfl,rfl,⟨.of_eq (congrArg (AV.own _ 0) (by simp)),⟨.refl _,⟨.refl _,⟨.refl _,trivial⟩⟩⟩⟩,(.refl _)⟩
        ·refine a0c rfl (bf c466)<|a0i<|a3l<|a0h<|a0z<|l7 (.int .i64 k2_440) rfl<|o7 (.int .i64 (w64 (k2_440 + 1))) rfl rfl rfl<|l7 (.int .i64 (w64 (k2_440 + 1))) rfl<|a0e<|?_;exact a2p ⟨(k,k_439,w64 (k2_440 + 1),s_441),hc2⟩ (Nat.lt_succ_self _) ⟨[],[0],_,_,rfl,rfl,⟨.refl _,⟨.refl _,⟨.refl _,⟨.refl _,trivial⟩⟩⟩⟩,(.refl _)⟩
       ·refine a0c rfl (bf c459)<|a4b<|a4a<|a2w<|a3z<|?_;obtain rfl:=os hc2;exact ⟨[],[0],_,_,rfl,rfl,⟨.refl _,⟨.refl _,trivial⟩⟩,(.refl _)⟩
     ·obtain ⟨k_455,s_456⟩:=p457
      refine sr<|?_
      obtain ⟨g471,hc1⟩:=og hc1
      refine l7 (.own 0 0 s_456.length) rfl<|l7 (.int .i64 k_455) rfl<|o8 (c0s rfl rfl rfl g471.1 g471.2)<|a1i (e0p (enc:=AV.str) (y:=[]) rfl rfl (.refl _) rfl)<|dk<|sr<|?_
      obtain ⟨g472,hc1⟩:=og hc1
      refine l7 (.own 0 0 s_456.length) rfl<|l7 (.int .i64 k_455) rfl<|o8 (c8u rfl rfl rfl g472.1 g472.2)<|l7 (.own 0 0 k_455.toNat) rfl<|dk<|a0d<|?_;obtain rfl:=os hc1;obtain rfl:=os hf;exact a3a [.trim 2] [0,1] rfl ⟨trivial,trivial⟩ rfl ((.cons (.refl _) (.cons ((LeO.tk (enc:=AV.str) (s_456.take k_455.toNat ++ List.replicate (s_456.length - k_455.toNat) [] ++ s_456.drop (k_455.toNat + (s_456.length - k_455.toNat))) _)) .nil))) (.of_eq (congrArg (AV.own _ 0) (by simp)))
    ·refine a0c rfl (bf c366)<|a0i<|a3l<|a0h<|a0z<|l7 (.int .i64 (k_235:Int)) rfl<|o7 (.int .i64 (w64 ((k_235:Int) + 1))) rfl rfl rfl<|l7 (.int .i64 (w64 ((k_235:Int) + 1))) rfl<|a0e<|?_;exact a2p ⟨(k_235 + 1),hc1⟩ (mul hlt353) ⟨[],[0],_,_,rfl,rfl,⟨.refl _,⟨.of_eq (congrArg (AV.int _) (a3h hlt353 hl361)),trivial⟩⟩,(.refl _)⟩
  ·rintro ⟨_,rfl⟩
   refine sr<|l7 (.own 0 0 s_1.length) rfl<|l7 (.own 0 0 s_1.length) rfl<|dk<|a0d<|?_;obtain rfl:=os hf;exact a3a [.mv 0] [0,1] rfl ⟨trivial,trivial⟩ rfl (.refl _) (.refl _)

/- impl.jsObject -/
def d4l:a0p :=
 (.seq (.reg (tq 4 (.box 5 (.c (.agg [(.int .i64 0),(.int .i64 0),(.str []),.nil,.nil]))) .done))
 (.seq (.reg (tm 5 (.t 0) (tm 6 (.t 1) (tq 7 (.build [(.int .i64 0),(.int .i64 0),(.str []),.nil,.nil] [(0,1,(.c (.int .i64 5))),(3,1,(.t 5)),(4,1,(.t 6))]) (.q ⟨none,none,.store 5 (.t 4) (.t 7)⟩
 .done)))))
 .ret))
theorem d8l:a1b Tryz.prog Tryz.f200 = some (d4l.erase,[.load 5 true (.t 4)],8):=by kernel_rfl
def b1d (keys_1:(List Str)) (items_2:(List y7)):Option y7 :=
    some (⟨5,0,[],keys_1,items_2⟩:y7)
theorem b8c (keys_1:(List Str)) (items_2:(List y7)) (r:y7) (hf:b1d keys_1 items_2 = some r):a0j Tryz.prog true 200 [(.own 0 0 keys_1.length),(.own 1 0 items_2.length)] [.row 1 (keys_1.map AV.str),.row 5 (items_2.map o5)] (.agg [(.int .i64 r.Kind),(.int .i64 r.N),(.str r.T),(.own 2 0 r.Keys.length),(.own 3 0 r.Items.length)]) [.dead,.dead,.row 1 (r.Keys.map AV.str),.row 5 (r.Items.map o5)]:=by
 refine a0j.of_awp mixed Tryz.func200 d8l nle ?_;rw [a0f];unfold b1d at hf;unfold d4l;refine (show awp Tryz.prog true 2 _ (ofL [(0,(.own 0 0 keys_1.length)),(1,(.own 1 0 items_2.length))]) [.row 1 (keys_1.map AV.str),.row 5 (items_2.map o5)] _ from ?_);refine sr<|o8 (a1g (j:=2) (c:=(.agg [(.int .i64 0),(.int .i64 0),(.str []),.nil,.nil])) rfl trivial rfl rfl)<|dk<|sr<|l7 (.own 0 0 keys_1.length) rfl<|l7 (.own 1 0 items_2.length) rfl<|o7 (.agg [(.int .i64 5),(.int .i64 0),(.str []),(.own 0 0 keys_1.length),(.own 1 0 items_2.length)]) rfl ⟨⟨rfl,nle,trivial⟩,⟨⟨rfl,nle,trivial⟩,⟨⟨rfl,nle,trivial⟩,trivial⟩⟩⟩ rfl<|?_
 refine a1i (x9 (v:=(.agg [(.int .i64 5),(.int .i64 0),(.str []),(.own 0 0 keys_1.length),(.own 1 0 items_2.length)])) (y':=(.agg [(.int .i64 5),(.int .i64 0),(.str []),(.own 0 0 keys_1.length),(.own 1 0 items_2.length)])) rfl rfl rfl trivial ⟨rfl,nle⟩ ⟨⟨rfl,trivial⟩,⟨⟨rfl,trivial⟩,⟨⟨rfl,trivial⟩,⟨⟨rfl,trivial⟩,⟨⟨rfl,trivial⟩,trivial⟩⟩⟩⟩⟩ rfl)<|dk<|a0d<|?_;obtain rfl:=os hf;exact a3a [.mv 0,.mv 1] [0,1,3,4] rfl ⟨nle,trivial⟩ rfl (.refl _) (.refl _)

/- impl.rowJson -/
def c98:a0p :=
 (.seq (.reg (tq 3 (.box 2 (.t 1)) (tq 4 (.box 5 (.c (.agg [(.int .i64 0),(.int .i64 0),(.str []),.nil,.nil]))) .done)))
 (.seq (.reg (tq 12 (.mkmap) (tm 5 (.t 12) .done)))
 (.seq (.seq (.reg (tm 13 (.t 0) (tq 14 (.len (.t 13)) (tm 15 (.c (.int .i64 0)) .done))))
 (.block 0 (.loop (.seq (.reg (tq 16 (.bin .lss (.t 15) (.t 14)) .done))
 (.seq (.cond (.t 16) .skip
 (.exit 0))
 (.seq (.block 1 (.seq (.reg (tm 17 (.t 15) (tq 18 (.iaddr 1 (.t 13) (.t 15)) (tq 19 (.load 1 false (.t 18)) (tm 6 (.t 17) (tm 7 (.t 19) .done))))))
 (.reg (tm 20 (.t 5) (tm 21 (.t 7) (tq 22 (.faddr 1 (.t 3)) (tq 23 (.load 1 false (.t 22)) (tm 24 (.t 6) (tq 25 (.iaddr 1 (.t 23) (.t 24)) (tq 26 (.load 1 false (.t 25)) (.q ⟨none,none,.mapset (.t 20) (.t 21) (.t 26)⟩
 .done)))))))))))
 (.reg (tq 27 (.bin .add (.t 15) (.c (.int .i64 1))) (tm 15 (.t 27) .done)))))))))
 (.cut (.seq (.reg (tm 28 (.t 0) (tq 29 (.call 197 [(.t 28)]) (tq 30 (.bslice 5 []) (tm 8 (.t 29) (tm 9 (.t 30) .done))))))
 (.seq (.reg (tm 31 (.t 8) (tq 32 (.call 198 [(.t 31)]) .done)))
 (.seq (.reg (tm 33 (.t 8) (tq 34 (.call 199 [(.t 33)]) (tm 8 (.t 34) .done))))
 (.seq (.seq (.reg (tm 35 (.t 8) (tq 36 (.len (.t 35)) (tm 37 (.c (.int .i64 0)) .done))))
 (.block 2 (.loop (.seq (.reg (tq 38 (.bin .lss (.t 37) (.t 36)) .done))
 (.seq (.cond (.t 38) .skip
 (.exit 2))
 (.seq (.block 3 (.seq (.reg (tq 39 (.iaddr 1 (.t 35) (.t 37)) (tq 40 (.load 1 false (.t 39)) (tm 11 (.t 40) .done))))
 (.reg (tm 41 (.t 9) (tm 42 (.t 5) (tm 43 (.t 11) (tq 44 (.mapget .nil (.t 42) (.t 43)) (tq 45 (.call 130 [(.t 44)]) (tq 46 (.bslice 5 [(.t 45)]) (tq 47 (.append 5 80 (.t 41) (.t 46)) (tm 9 (.t 47) .done)))))))))))
 (.reg (tq 48 (.bin .add (.t 37) (.c (.int .i64 1))) (tm 37 (.t 48) .done)))))))))
 (.cut (.seq (.reg (tm 49 (.t 8) (tm 50 (.t 9) (tq 51 (.call 200 [(.t 49),(.t 50)]) (.q ⟨none,none,.store 5 (.t 4) (.t 51)⟩
 .done)))))
 .ret))))))))))
theorem e7a:a1b Tryz.prog Tryz.f98 = some (c98.erase,[.load 5 true (.t 4)],52):=by kernel_rfl
def a4s (r_2:b1r):List Str → Nat → (List (Str × (List x8))) → Option (List (Str × (List x8)))
  | [],s15_16,m_17 =>
    some m_17
  | x_31 :: xs,s15_16,m_17 =>
    (idx r_2.Cells (s15_16:Int)).bind fun x_32 =>
    a4s r_2 xs (s15_16 + 1) (b2a m_17 x_31 x_32)

def a4t (r_39:(List Str)) (m_23:(List (Str × (List x8)))):List Str → Nat → (List y7) → Option (List y7)
  | [],s37_62,items_63 =>
    some items_63
  | x_81 :: xs,s37_62,items_63 =>
    if s37_62 < r_39.length then
    (a5m m_23 x_81).bind fun x_83 =>
    (a2y x_83).bind fun r_85 =>
    if (items_63 ++ [r_85]).length ≤ 2 ^ 30 then
    a4t r_39 m_23 xs (s37_62 + 1) (items_63 ++ [r_85])
    else none
    else none

def b0u (columns_1:(List Str)) (r_2:b1r):Option y7 :=
    (a4s r_2 columns_1 0 []).bind fun m_23 =>
    (a2o columns_1).bind fun r_34 =>
    (a3p r_34).bind fun r_36 =>
    (a3c r_36).bind fun r_39 =>
    (a4t r_39 m_23 r_39 0 []).bind fun items_73 =>
    (b1d r_39 items_73).bind fun r_88 =>
    some r_88
theorem c4t (columns_1:(List Str)) (r_2:b1r) (r:y7) (hf:b0u columns_1 r_2 = some r):y9 Tryz.prog 98 .fresh [(.lst 1 (columns_1.map AV.str)),(b1i r_2)] (o5 r):=by
 refine y9.of_awp mixed Tryz.func98 e7a nle ?_;rw [a0f];unfold b0u at hf;unfold c98;refine (show awp Tryz.prog true 0 _ (ofL [(0,(.lst 1 (columns_1.map AV.str))),(1,(b1i r_2))]) [] _ from ?_);refine sr<|o8 (a1g (j:=0) (c:=(.agg [(.int .i64 r_2.Id),(.lst 1 (r_2.Cells.map (a4z 3 l9)))])) rfl trivial rfl rfl)<|o8 (a1g (j:=1) (c:=(.agg [(.int .i64 0),(.int .i64 0),(.str []),.nil,.nil])) rfl trivial rfl rfl)<|dk<|sr<|o8 (d9v (j:=2) rfl)<|l7 (.ptr 2 0 0) rfl<|dk<|o6<|sr<|l7 (.lst 1 (columns_1.map AV.str)) rfl<|a1n (a3d (enc:=AV.str) rfl) fun hl3 => l7 (.int .i64 0) rfl<|?_
 refine dk<|?_
 obtain ⟨m_23,hb1,hf⟩:=ob hf
 refine a2v ([(0,(.lst 1 (columns_1.map AV.str))),(4,(.ptr 0 0 0)),(5,(.ptr 1 0 0))],[.box 5 (.agg [(.int .i64 0),(.int .i64 0),(.str []),.nil,.nil]),.map (m_23.map fun p => (p.1,(a4z 3 l9) p.2))]) ?_ ?_
 ·refine a1v (X:={q:(Nat × (List (Str × (List x8)))) // a4s r_2 (columns_1.drop q.1) q.1 q.2 = some m_23}) (fun q => ([(0,(.lst 1 (columns_1.map AV.str))),(3,(.ptr 0 0 0)),(4,(.ptr 1 0 0)),(5,(.ptr 2 0 0)),(13,(.lst 1 (columns_1.map AV.str))),(14,(.int .i64 (columns_1.length:Int))),(15,(.int .i64 (q.1.1:Int)))],[.box 2 (.agg [(.int .i64 r_2.Id),(.lst 1 (r_2.Cells.map (a4z 3 l9)))]),.box 5 (.agg [(.int .i64 0),(.int .i64 0),(.str []),.nil,.nil]),.map (q.1.2.map fun p => (p.1,(a4z 3 l9) p.2))])) (fun q => columns_1.length - q.1.1) ⟨(0,[]),hb1⟩ ⟨[],[0,1,2],_,_,rfl,rfl,⟨.refl _,⟨.refl _,⟨.refl _,⟨.refl _,⟨.refl _,⟨.refl _,⟨.refl _,trivial⟩⟩⟩⟩⟩⟩⟩,(.cons (.refl _) (.cons (.refl _) (.cons ((b9d (enc:=(a4z 3 l9)) (m:=([]:List (Str × (List x8)))) (fun _ => rfl))) .nil)))⟩ ?_
  rintro ⟨⟨s15_16,m_17⟩,hc1⟩
  have hc1:a4s r_2 (columns_1.drop s15_16) s15_16 m_17 = some m_23:=hc1
  refine (show awp Tryz.prog true 0 _ (ofL [(0,(.lst 1 (columns_1.map AV.str))),(3,(.ptr 0 0 0)),(4,(.ptr 1 0 0)),(5,(.ptr 2 0 0)),(13,(.lst 1 (columns_1.map AV.str))),(14,(.int .i64 (columns_1.length:Int))),(15,(.int .i64 (s15_16:Int)))]) [.box 2 (.agg [(.int .i64 r_2.Id),(.lst 1 (r_2.Cells.map (a4z 3 l9)))]),.box 5 (.agg [(.int .i64 0),(.int .i64 0),(.str []),.nil,.nil]),.map (m_17.map fun p => (p.1,(a4z 3 l9) p.2))] _ from ?_)
  rcases a7j columns_1 s15_16 with ⟨hie27,hd30⟩ | ⟨hlt25,x_31,hx26,hd30⟩
  ·rw [hd30,a4s.eq_1] at hc1
   have hq29:=dlf hie27
   refine sr<|o7 (.bool (decide ((s15_16:Int) < (columns_1.length:Int)))) rfl rfl rfl<|dk<|o6<|a0c rfl hq29<|a4b<|a4a<|a2w<|a3z<|?_;obtain rfl:=os hc1;exact ⟨[],[1,2],_,_,rfl,rfl,⟨.refl _,⟨.refl _,⟨.refl _,trivial⟩⟩⟩,(.cons (.refl _) (.cons ((b9d (enc:=(a4z 3 l9)) (m:=m_17) (fun _ => rfl))) .nil))⟩
  ·rw [hd30,a4s.eq_2] at hc1
   have hq29:=dlt hlt25
   refine sr<|o7 (.bool (decide ((s15_16:Int) < (columns_1.length:Int)))) rfl rfl rfl<|dk<|o6<|a0b rfl hq29<|a0i<|a0h<|o6<|a3s<|sr<|l7 (.int .i64 (s15_16:Int)) rfl<|o8 (a3o (enc:=AV.str) rfl rfl hx26)<|o7 (.str x_31) rfl ⟨rfl,rfl⟩ rfl<|l7 (.int .i64 (s15_16:Int)) rfl<|l7 (.str x_31) rfl<|dk<|a0z<|?_
   obtain ⟨x_32,ex33,hc1⟩:=ob hc1
   refine l7 (.ptr 2 0 0) rfl<|l7 (.str x_31) rfl<|o7 (.ptr 0 0 1) rfl trivial rfl<|o7 (.lst 1 (r_2.Cells.map (a4z 3 l9))) rfl nle rfl<|l7 (.int .i64 (s15_16:Int)) rfl<|o8 (a5l (enc:=(a4z 3 l9)) rfl rfl (b2x ex33) (b2y ex33))<|o7 (.lst 3 (x_32.map l9)) rfl ⟨rfl,rfl⟩ rfl<|a1i (d7g (enc:=(a4z 3 l9)) (m:=m_17) (v:=x_32) rfl rfl rfl rfl)<|a0e<|a3l<|a0h<|a0z<|o7 (.int .i64 (w64 ((s15_16:Int) + 1))) rfl rfl rfl<|l7 (.int .i64 (w64 ((s15_16:Int) + 1))) rfl<|a0e<|?_;exact a2p ⟨((s15_16 + 1),b2a m_17 x_31 x_32),hc1⟩ (mul hlt25) ⟨[],[0,1,2],_,_,rfl,rfl,⟨.refl _,⟨.refl _,⟨.refl _,⟨.refl _,⟨.refl _,⟨.refl _,⟨.of_eq (congrArg (AV.int _) (a3h hlt25 hl3)),trivial⟩⟩⟩⟩⟩⟩⟩,(.cons (.refl _) (.cons (.refl _) (.cons ((b9d (enc:=(a4z 3 l9)) (m:=(b2a m_17 x_31 x_32)) (fun _ => rfl))) .nil)))⟩
 ·refine sr<|?_
  obtain ⟨r_34,er35,hf⟩:=ob hf
  refine l7 (.lst 1 (columns_1.map AV.str)) rfl<|o8 (a3j (v:=(.own 2 0 r_34.length)) (h':=[.row 1 (r_34.map AV.str)]) (a7z _ _ er35) rfl (.refl _) (by simp only [a2b,a2c,List.length_map,List.nil_append,List.append_nil,List.cons_append];rfl))<|?_;refine o8 (a1c (j:=3) (as':=[]) rfl (fun _ => by decide) trivial (.refl _) rfl rfl rfl) ?_;refine l7 (.own 2 0 r_34.length) rfl<|l7 (.own 3 0 0) rfl<|dk<|sr<|?_
  obtain ⟨r_36,er37,hf⟩:=ob hf
  refine l7 (.own 2 0 r_34.length) rfl ?_;refine a1n (b4b (v:=(.tup [])) (h2:=[.box 5 (.agg [(.int .i64 0),(.int .i64 0),(.str []),.nil,.nil]),.map (m_23.map fun p => (p.1,(a4z 3 l9) p.2)),.row 1 (r_36.map AV.str),.row 5 ([].map o5)]) [] [2] (fun _ => rfl) (b1c _ _ er37) rfl (.refl _) (.refl _) rfl rfl) fun hl38 => ?_;refine dk<|sr<|?_
  obtain ⟨r_39,er40,hf⟩:=ob hf
  refine l7 (.own 2 0 r_34.length) rfl ?_;refine o8 (a3e (v:=(.own 4 0 r_39.length)) (h2:=[.box 5 (.agg [(.int .i64 0),(.int .i64 0),(.str []),.nil,.nil]),.map (m_23.map fun p => (p.1,(a4z 3 l9) p.2)),.dead,.row 5 ([].map o5),.row 1 (r_39.map AV.str)]) [] [2] (fun _ => rfl) (b0a _ _ er40) rfl (.cons (.of_eq (congrArg (AV.own _ 0) (by have h:=(hl38 0 _ _ _ _ rfl rfl);simpa using h.symm))) .nil) (.refl _) rfl rfl) ?_;refine l7 (.own 4 0 r_39.length) rfl<|dk<|o6<|sr<|l7 (.own 4 0 r_39.length) rfl<|a1n (a6h rfl rfl) fun hl41 => l7 (.int .i64 0) rfl<|dk<|?_
  obtain ⟨items_73,hb1,hf⟩:=ob hf
  refine a2v ([(4,(.ptr 0 0 0)),(8,(.own 1 0 r_39.length)),(9,(.own 2 0 items_73.length))],[.box 5 (.agg [(.int .i64 0),(.int .i64 0),(.str []),.nil,.nil]),.row 1 (r_39.map AV.str),.row 5 (items_73.map o5)]) ?_ ?_
  ·refine a1v (X:={q:(Nat × (List y7)) // a4t r_39 m_23 (r_39.drop q.1) q.1 q.2 = some items_73}) (fun q => ([(4,(.ptr 0 0 0)),(5,(.ptr 1 0 0)),(8,(.own 2 0 r_39.length)),(9,(.own 3 0 q.1.2.length)),(35,(.own 2 0 r_39.length)),(36,(.int .i64 (r_39.length:Int))),(37,(.int .i64 (q.1.1:Int)))],[.box 5 (.agg [(.int .i64 0),(.int .i64 0),(.str []),.nil,.nil]),.map (m_23.map fun p => (p.1,(a4z 3 l9) p.2)),.row 1 (r_39.map AV.str),.row 5 (q.1.2.map o5)])) (fun q => r_39.length - q.1.1) ⟨(0,[]),hb1⟩ ⟨[],[0,1,4,3],_,_,rfl,rfl,⟨.refl _,⟨.refl _,⟨.refl _,⟨.of_eq (congrArg (AV.own _ 0) (by simp)),⟨.refl _,⟨.refl _,⟨.refl _,trivial⟩⟩⟩⟩⟩⟩⟩,(.cons (.refl _) (.cons ((b9d (enc:=(a4z 3 l9)) (m:=m_23) (fun _ => rfl))) (.cons (.refl _) (.cons (.refl _) .nil))))⟩ ?_
   rintro ⟨⟨s37_62,items_63⟩,hc1⟩
   have hc1:a4t r_39 m_23 (r_39.drop s37_62) s37_62 items_63 = some items_73:=hc1
   refine (show awp Tryz.prog true 0 _ (ofL [(4,(.ptr 0 0 0)),(5,(.ptr 1 0 0)),(8,(.own 2 0 r_39.length)),(9,(.own 3 0 items_63.length)),(35,(.own 2 0 r_39.length)),(36,(.int .i64 (r_39.length:Int))),(37,(.int .i64 (s37_62:Int)))]) [.box 5 (.agg [(.int .i64 0),(.int .i64 0),(.str []),.nil,.nil]),.map (m_23.map fun p => (p.1,(a4z 3 l9) p.2)),.row 1 (r_39.map AV.str),.row 5 (items_63.map o5)] _ from ?_)
   rcases a7j r_39 s37_62 with ⟨hie77,hd80⟩ | ⟨hlt75,x_81,hx76,hd80⟩
   ·rw [hd80,a4t.eq_1] at hc1
    have hq79:=dlf hie77
    refine sr<|o7 (.bool (decide ((s37_62:Int) < (r_39.length:Int)))) rfl rfl rfl<|dk<|o6<|a0c rfl hq79<|a4b<|a4a<|a2w<|a3z<|?_;obtain rfl:=os hc1;exact ⟨[],[0,2,3],_,_,rfl,rfl,⟨.refl _,⟨.refl _,⟨.refl _,trivial⟩⟩⟩,(.refl _)⟩
   ·rw [hd80,a4t.eq_2] at hc1
    have hq79:=dlt hlt75
    refine sr<|o7 (.bool (decide ((s37_62:Int) < (r_39.length:Int)))) rfl rfl rfl<|dk<|o6<|a0b rfl hq79<|a0i<|a0h<|o6<|a3s<|sr<|?_
    obtain ⟨g82,hc1⟩:=og hc1
    refine o8 (b6b rfl rfl g82 rfl rfl)<|o8 (a3r (enc:=AV.str) (v:=(.str x_81)) rfl rfl hx76 ⟨rfl,rfl⟩ rfl)<|l7 (.str x_81) rfl<|dk<|a0z<|?_
    obtain ⟨x_83,ex84,hc1⟩:=ob hc1
    obtain ⟨r_85,er86,hc1⟩:=ob hc1
    obtain ⟨g87,hc1⟩:=og hc1
    refine l7 (.own 3 0 items_63.length) rfl<|l7 (.ptr 1 0 0) rfl<|l7 (.str x_81) rfl<|o8 (d7h (enc:=(a4z 3 l9)) rfl rfl rfl ex84)<|o8 (a3j (v:=(.agg [(.int .i64 r_85.Kind),(.int .i64 r_85.N),(.str r_85.T),(.own 4 0 r_85.Keys.length),(.own 5 0 r_85.Items.length)])) (h':=[.row 1 (r_85.Keys.map AV.str),.row 5 (r_85.Items.map o5)]) (b4f _ _ er86) rfl (.refl _) (by simp only [a2b,a2c,List.length_map,y8,List.nil_append,List.append_nil,List.cons_append];rfl))<|?_;refine o8 (a1c (j:=6) (as':=[(o5 r_85)]) rfl (fun _ => by decide) ⟨rfl,trivial⟩ (.cons (leJ (x:=r_85) (.agg (.cons (.refl _) (.cons (.refl _) (.cons (.refl _) (.cons (.of_eq (congrArg (AV.lst _) (tk (enc:=AV.str) r_85.Keys))) (.cons (.of_eq (congrArg (AV.lst _) (tk (enc:=o5) r_85.Items))) .nil))))))) .nil) rfl rfl rfl) ?_
    refine o8 (a2a (j:=7) (L:=((items_63 ++ [r_85]).map o5)) (len:=(items_63 ++ [r_85]).length) rfl true rfl rfl (fun h => Bool.noConfusion h) (fun _ _ h => (b7c (show AV.own _ _ _ = AV.lst _ _ from h)).elim) (by decide) (c5s (enc:=o5) items_63 [r_85] _ (by rfl)) (by simp <;> omega) g87 rfl rfl) ?_
    refine l7 (.own 7 0 ((items_63 ++ [r_85]).length)) rfl<|a0e<|a3l<|a0h<|a0z<|o7 (.int .i64 (w64 ((s37_62:Int) + 1))) rfl rfl rfl<|l7 (.int .i64 (w64 ((s37_62:Int) + 1))) rfl<|a0e<|?_;exact a2p ⟨((s37_62 + 1),items_63 ++ [r_85]),hc1⟩ (mul hlt75) ⟨[],[0,1,2,7],_,_,rfl,rfl,⟨.refl _,⟨.refl _,⟨.refl _,⟨.refl _,⟨.refl _,⟨.refl _,⟨.of_eq (congrArg (AV.int _) (a3h hlt75 hl41)),trivial⟩⟩⟩⟩⟩⟩⟩,(.cons (.refl _) (.cons ((b9d (enc:=(a4z 3 l9)) (m:=m_23) (fun _ => rfl))) (.cons (.refl _) (.cons (.refl _) .nil))))⟩
  ·refine sr<|?_
   obtain ⟨r_88,er89,hf⟩:=ob hf
   refine l7 (.own 1 0 r_39.length) rfl<|l7 (.own 2 0 items_73.length) rfl<|?_;refine o8 (a3e (v:=(.agg [(.int .i64 r_88.Kind),(.int .i64 r_88.N),(.str r_88.T),(.own 3 0 r_88.Keys.length),(.own 4 0 r_88.Items.length)])) (h2:=[.box 5 (.agg [(.int .i64 0),(.int .i64 0),(.str []),.nil,.nil]),.dead,.dead,.row 1 (r_88.Keys.map AV.str),.row 5 (r_88.Items.map o5)]) [] [1,2] (fun _ => rfl) (b8c _ _ _ er89) rfl (.refl _) (.refl _) rfl rfl) ?_;refine a1i (x9 (v:=(.agg [(.int .i64 r_88.Kind),(.int .i64 r_88.N),(.str r_88.T),(.own 3 0 r_88.Keys.length),(.own 4 0 r_88.Items.length)])) (y':=(.agg [(.int .i64 r_88.Kind),(.int .i64 r_88.N),(.str r_88.T),(.own 3 0 r_88.Keys.length),(.own 4 0 r_88.Items.length)])) rfl rfl rfl trivial ⟨rfl,nle⟩ ⟨⟨rfl,trivial⟩,⟨⟨rfl,trivial⟩,⟨⟨rfl,trivial⟩,⟨⟨rfl,trivial⟩,⟨⟨rfl,trivial⟩,trivial⟩⟩⟩⟩⟩ rfl) ?_
   refine dk<|a0d<|?_;obtain rfl:=os hf;exact a1j ⟨nle,trivial⟩ rfl (by decide) (leJ (x:=r_88) (.agg (.cons (.refl _) (.cons (.refl _) (.cons (.refl _) (.cons (.of_eq (congrArg (AV.lst _) (tk (enc:=AV.str) r_88.Keys))) (.cons (.of_eq (congrArg (AV.lst _) (tk (enc:=o5) r_88.Items))) .nil)))))))

/- impl.RowJson -/
def c22:a0p :=
 (.seq (.reg (tq 3 (.box 2 (.t 1)) (tq 4 (.box 5 (.c (.agg [(.int .i64 0),(.int .i64 0),(.str []),.nil,.nil]))) (tm 5 (.c (.int .i64 0)) .done))))
 (.seq (.block 0 (.seq (.reg (tm 7 (.t 0) (tq 8 (.call 96 [(.t 7)]) (tq 9 (.not (.t 8)) (tm 6 (.t 9) .done)))))
 (.cond (.t 6) (.seq (.reg (tq 10 (.build [(.int .i64 0),(.int .i64 0),(.str []),.nil,.nil] []) (.q ⟨none,none,.store 5 (.t 4) (.t 10)⟩
 (tm 5 (.c (.int .i64 2)) .done))))
 .ret)
 (.seq (.reg (tm 12 (.t 0) (tq 13 (.load 2 true (.t 3)) (tq 14 (.call 97 [(.t 12),(.t 13)]) (tq 15 (.not (.t 14)) (tm 11 (.t 15) .done))))))
 (.cond (.t 11) (.seq (.reg (tq 16 (.build [(.int .i64 0),(.int .i64 0),(.str []),.nil,.nil] []) (.q ⟨none,none,.store 5 (.t 4) (.t 16)⟩
 (tm 5 (.c (.int .i64 1)) .done))))
 .ret)
 .skip)))))
 (.seq (.reg (tm 17 (.t 0) (tq 18 (.load 2 true (.t 3)) (tq 19 (.call 98 [(.t 17),(.t 18)]) (.q ⟨none,none,.store 5 (.t 4) (.t 19)⟩
 (tm 5 (.c (.int .i64 0)) .done))))))
 .ret)))
theorem e7b:a1b Tryz.prog Tryz.f22 = some (c22.erase,[.load 5 true (.t 4),.mov (.t 5)],20):=by kernel_rfl
def b0v (columns_1:(List Str)) (r_2:b1r):Option (y7 × Int) :=
    (a7u columns_1).bind fun r_3 =>
    if (!r_3) then
    some ((⟨0,0,[],[],[]⟩:y7),2)
    else
    (b0t columns_1 r_2).bind fun r_6 =>
    if (!r_6) then
    some ((⟨0,0,[],[],[]⟩:y7),1)
    else
    (b0u columns_1 r_2).bind fun r_9 =>
    some (r_9,0)
theorem c4u (columns_1:(List Str)) (r_2:b1r) (r:(y7 × Int)) (hf:b0v columns_1 r_2 = some r):y9 Tryz.prog 22 .fresh [(.lst 1 (columns_1.map AV.str)),(b1i r_2)] (.tup [(o5 r.1),(.int .i64 r.2)]):=by
 refine y9.of_awp mixed Tryz.func22 e7b nle ?_;rw [a0f];unfold b0v at hf;unfold c22;refine (show awp Tryz.prog true 0 _ (ofL [(0,(.lst 1 (columns_1.map AV.str))),(1,(b1i r_2))]) [] _ from ?_);refine sr<|o8 (a1g (j:=0) (c:=(.agg [(.int .i64 r_2.Id),(.lst 1 (r_2.Cells.map (a4z 3 l9)))])) rfl trivial rfl rfl)<|o8 (a1g (j:=1) (c:=(.agg [(.int .i64 0),(.int .i64 0),(.str []),.nil,.nil])) rfl trivial rfl rfl)<|l7 (.int .i64 0) rfl<|dk<|o6<|a3s<|sr<|?_
 obtain ⟨r_3,er4,hf⟩:=ob hf
 refine l7 (.lst 1 (columns_1.map AV.str)) rfl<|o8 (a1f (b6i _ _ er4) rfl (.refl _) rfl)<|o7 (.bool (!r_3)) rfl trivial rfl<|l7 (.bool (!r_3)) rfl<|dk<|?_
 rcases oi hf with ⟨c5,hf⟩ | ⟨c5,hf⟩
 ·refine a0b rfl c5<|sr<|o7 (.agg [(.int .i64 0),(.int .i64 0),(.str []),.nil,.nil]) rfl trivial rfl<|a1i (x9 (v:=(.agg [(.int .i64 0),(.int .i64 0),(.str []),.nil,.nil])) (y':=(.agg [(.int .i64 0),(.int .i64 0),(.str []),.nil,.nil])) rfl rfl rfl trivial ⟨rfl,nle⟩ ⟨⟨rfl,trivial⟩,⟨⟨rfl,trivial⟩,⟨⟨rfl,trivial⟩,⟨⟨rfl,trivial⟩,⟨⟨rfl,trivial⟩,trivial⟩⟩⟩⟩⟩ rfl)<|l7 (.int .i64 2) rfl<|dk<|a0d<|?_;obtain rfl:=os hf;exact a1j ⟨nle,⟨trivial,trivial⟩⟩ rfl (by decide) (.tup (.cons (leJ (x:=(⟨0,0,[],[],[]⟩:y7)) (.agg (.cons (.refl _) (.cons (.refl _) (.cons (.refl _) (.cons (.nil _) (.cons (.nil _) .nil))))))) (.cons (.refl _) .nil)))
 ·refine a0c rfl (bf c5)<|sr<|?_
  obtain ⟨r_6,er7,hf⟩:=ob hf
  refine l7 (.lst 1 (columns_1.map AV.str)) rfl<|o7 (.agg [(.int .i64 r_2.Id),(.lst 1 (r_2.Cells.map (a4z 3 l9)))]) rfl nle rfl<|o8 (a1f (c4s _ _ _ er7) rfl (.refl _) rfl)<|o7 (.bool (!r_6)) rfl trivial rfl<|l7 (.bool (!r_6)) rfl<|dk<|?_
  rcases oi hf with ⟨c8,hf⟩ | ⟨c8,hf⟩
  ·refine a0b rfl c8<|sr<|o7 (.agg [(.int .i64 0),(.int .i64 0),(.str []),.nil,.nil]) rfl trivial rfl<|a1i (x9 (v:=(.agg [(.int .i64 0),(.int .i64 0),(.str []),.nil,.nil])) (y':=(.agg [(.int .i64 0),(.int .i64 0),(.str []),.nil,.nil])) rfl rfl rfl trivial ⟨rfl,nle⟩ ⟨⟨rfl,trivial⟩,⟨⟨rfl,trivial⟩,⟨⟨rfl,trivial⟩,⟨⟨rfl,trivial⟩,⟨⟨rfl,trivial⟩,trivial⟩⟩⟩⟩⟩ rfl)<|l7 (.int .i64 1) rfl<|dk<|a0d<|?_;obtain rfl:=os hf;exact a1j ⟨nle,⟨trivial,trivial⟩⟩ rfl (by decide) (.tup (.cons (leJ (x:=(⟨0,0,[],[],[]⟩:y7)) (.agg (.cons (.refl _) (.cons (.refl _) (.cons (.refl _) (.cons (.nil _) (.cons (.nil _) .nil))))))) (.cons (.refl _) .nil)))
  ·refine a0c rfl (bf c8)<|a0i<|a3l<|a0h<|sr<|?_
   obtain ⟨r_9,er10,hf⟩:=ob hf
   refine l7 (.lst 1 (columns_1.map AV.str)) rfl<|o7 (.agg [(.int .i64 r_2.Id),(.lst 1 (r_2.Cells.map (a4z 3 l9)))]) rfl nle rfl<|o8 (a3j (v:=(.agg [(.int .i64 r_9.Kind),(.int .i64 r_9.N),(.str r_9.T),(.own 2 0 r_9.Keys.length),(.own 3 0 r_9.Items.length)])) (h':=[.row 1 (r_9.Keys.map AV.str),.row 5 (r_9.Items.map o5)]) (c4t _ _ _ er10) rfl (.refl _) (by simp only [a2b,a2c,List.length_map,y8,List.nil_append,List.append_nil,List.cons_append];rfl))<|a1i (x9 (v:=(.agg [(.int .i64 r_9.Kind),(.int .i64 r_9.N),(.str r_9.T),(.own 2 0 r_9.Keys.length),(.own 3 0 r_9.Items.length)])) (y':=(.agg [(.int .i64 r_9.Kind),(.int .i64 r_9.N),(.str r_9.T),(.own 2 0 r_9.Keys.length),(.own 3 0 r_9.Items.length)])) rfl rfl rfl trivial ⟨rfl,nle⟩ ⟨⟨rfl,trivial⟩,⟨⟨rfl,trivial⟩,⟨⟨rfl,trivial⟩,⟨⟨rfl,trivial⟩,⟨⟨rfl,trivial⟩,trivial⟩⟩⟩⟩⟩ rfl)<|?_
   refine l7 (.int .i64 0) rfl<|dk<|a0d<|?_;obtain rfl:=os hf;exact a1j ⟨nle,⟨trivial,trivial⟩⟩ rfl (by decide) (.tup (.cons (leJ (x:=r_9) (.agg (.cons (.refl _) (.cons (.refl _) (.cons (.refl _) (.cons (.of_eq (congrArg (AV.lst _) (tk (enc:=AV.str) r_9.Keys))) (.cons (.of_eq (congrArg (AV.lst _) (tk (enc:=o5) r_9.Items))) .nil))))))) (.cons (.refl _) .nil)))

/- impl.isText -/
def c139:a0p :=
 (.seq (.reg (tm 2 (.c (.bool false)) .done))
 (.seq (.reg (tm 3 (.t 0) (tq 4 (.lenS (.t 3)) (tq 5 (.bin .leq (.t 4) (.c (.int .i64 65536))) (tm 2 (.t 5) .done)))))
 .ret))
theorem e5p:a1b Tryz.prog Tryz.f139 = some (c139.erase,[.mov (.t 2)],6):=by kernel_rfl
def b3k (t_1:Str):Option Bool :=
    some (decide ((t_1.length:Int) ≤ 65536))
theorem c5y (t_1:Str) (r:Bool) (hf:b3k t_1 = some r):y9 Tryz.prog 139 .flat [(.str t_1)] (.bool r):=by
  refine y9.of_awp mixed Tryz.func139 e5p nle ?_
  rw [a0f]
  unfold b3k at hf
  unfold c139
  refine (show awp Tryz.prog false 0 _ (ofL [(0,(.str t_1))]) [] _ from ?_)
  refine o6 ?_
  refine a0z ?_
  refine o8 (a2z (.bool false) rfl) ?_
  refine a0e ?_
  refine a0h ?_
  refine o6 ?_
  refine a0z ?_
  refine o8 (a2z (.str t_1) rfl) ?_
  refine a1n (b6a rfl) fun hl2 => ?_
  refine o8 (o_q (.bool (decide ((t_1.length:Int) ≤ 65536))) rfl rfl rfl) ?_
  refine o8 (a2z (.bool (decide ((t_1.length:Int) ≤ 65536))) rfl) ?_
  refine a0e ?_
  refine a0h ?_
  refine a0d ?_
  obtain rfl:=os hf
  exact a0m ⟨trivial,trivial⟩ rfl (.refl _)

/- slices.Index[[]string,string] -/
def e5q:a0p :=
 (.seq (.reg (tm 4 (.c (.int .i64 0)) .done))
 (.seq (.seq (.reg (tm 6 (.t 0) (tq 7 (.len (.t 6)) (tm 8 (.c (.int .i64 0)) .done))))
 (.block 0 (.loop (.seq (.reg (tq 9 (.bin .lss (.t 8) (.t 7)) .done))
 (.seq (.cond (.t 9) .skip
 (.exit 0))
 (.seq (.block 1 (.seq (.reg (tm 10 (.t 8) (tm 5 (.t 10) .done)))
 (.seq (.reg (tm 11 (.t 1) (tm 12 (.t 0) (tm 13 (.t 5) (tq 14 (.iaddr 1 (.t 12) (.t 13)) (tq 15 (.load 1 false (.t 14)) (tq 16 (.bin .eql (.t 11) (.t 15)) .done)))))))
 (.cond (.t 16) (.seq (.reg (tm 17 (.t 5) (tm 4 (.t 17) .done)))
 .ret)
 .skip))))
 (.reg (tq 18 (.bin .add (.t 8) (.c (.int .i64 1))) (tm 8 (.t 18) .done)))))))))
 (.cut (.seq (.reg (tq 4 (.mov (.c (.int .i64 (-1)))) .done))
 .ret))))
theorem e5r:a1b Tryz.prog Tryz.f239 = some (e5q.erase,[.mov (.t 4)],19):=by kernel_rfl
def a2e (v_2:Str):List Str → Nat → Option (Fl Int Unit)
  | [],s8_13 =>
    some (.go ())
  | x_25 :: xs,s8_13 =>
    if (v_2 == x_25) then
    some (.ret (s8_13:Int))
    else
    a2e v_2 xs (s8_13 + 1)

def a5f (s_1:(List Str)) (v_2:Str):Option Int :=
    (a2e v_2 s_1 0).bind fun q => (match q with
    | .ret r => some r
    | .go _ =>
    some (-1))
theorem b2d (s_1:(List Str)) (v_2:Str) (r:Int) (hf:a5f s_1 v_2 = some r):y9 Tryz.prog 239 .flat [(.lst 1 (s_1.map AV.str)),(.str v_2)] (.int .i64 r):=by
 refine y9.of_awp mixed Tryz.func239 e5r nle ?_;rw [a0f];unfold a5f at hf;unfold e5q;refine (show awp Tryz.prog false 0 _ (ofL [(0,(.lst 1 (s_1.map AV.str))),(1,(.str v_2))]) [] _ from ?_);refine sr<|l7 (.int .i64 0) rfl<|dk<|o6<|sr<|l7 (.lst 1 (s_1.map AV.str)) rfl<|a1n (a3d (enc:=AV.str) rfl) fun hl3 => l7 (.int .i64 0) rfl<|dk<|?_
 obtain ⟨p18,hb1,hf⟩:=ob hf
 refine a4k (X:={q:Unit // p18 = .go q}) (fun q => ([],[])) ?_ ?_
 ·refine a1v (X:={q:Nat // a2e v_2 (s_1.drop q) q = some p18}) (fun q => ([(0,(.lst 1 (s_1.map AV.str))),(1,(.str v_2)),(7,(.int .i64 (s_1.length:Int))),(8,(.int .i64 (q.1:Int)))],[])) (fun q => s_1.length - q.1) ⟨0,hb1⟩ ⟨[],[],_,_,rfl,rfl,⟨.refl _,⟨.refl _,⟨.refl _,⟨.refl _,trivial⟩⟩⟩⟩,(.refl _)⟩ ?_
  rintro ⟨s8_13,hc1⟩
  have hc1:a2e v_2 (s_1.drop s8_13) s8_13 = some p18:=hc1
  refine (show awp Tryz.prog false 0 _ (ofL [(0,(.lst 1 (s_1.map AV.str))),(1,(.str v_2)),(7,(.int .i64 (s_1.length:Int))),(8,(.int .i64 (s8_13:Int)))]) [] _ from ?_)
  rcases a7j s_1 s8_13 with ⟨hie21,hd24⟩ | ⟨hlt19,x_25,hx20,hd24⟩
  ·rw [hd24,a2e.eq_1] at hc1
   have hq23:=dlf hie21
   refine sr<|o7 (.bool (decide ((s8_13:Int) < (s_1.length:Int)))) rfl rfl rfl<|dk<|o6<|a0c rfl hq23<|a4b<|a4a<|a2w<|a3z<|?_;obtain rfl:=os hc1;exact a5z ⟨_,rfl⟩ ⟨[],[],_,_,rfl,rfl,trivial,(.refl _)⟩
  ·rw [hd24,a2e.eq_2] at hc1
   have hq23:=dlt hlt19
   refine sr<|o7 (.bool (decide ((s8_13:Int) < (s_1.length:Int)))) rfl rfl rfl<|dk<|o6<|a0b rfl hq23<|a0i<|a0h<|o6<|a3s<|sr<|l7 (.int .i64 (s8_13:Int)) rfl<|l7 (.int .i64 (s8_13:Int)) rfl<|dk<|sr<|l7 (.str v_2) rfl<|l7 (.lst 1 (s_1.map AV.str)) rfl<|l7 (.int .i64 (s8_13:Int)) rfl<|o8 (a3o (enc:=AV.str) rfl rfl hx20)<|o7 (.str x_25) rfl ⟨rfl,rfl⟩ rfl<|o7 (.bool (v_2 == x_25)) rfl trivial rfl<|dk<|?_
   rcases oi hc1 with ⟨c26,hc1⟩ | ⟨c26,hc1⟩
   ·refine a0b rfl c26<|sr<|l7 (.int .i64 (s8_13:Int)) rfl<|l7 (.int .i64 (s8_13:Int)) rfl<|dk<|a0d<|?_;obtain rfl:=os hc1;obtain rfl:=os hf;exact a0m ⟨trivial,trivial⟩ rfl (.refl _)
   ·refine a0c rfl (bf c26)<|a0i<|a3l<|a0h<|a0z<|o7 (.int .i64 (w64 ((s8_13:Int) + 1))) rfl rfl rfl<|l7 (.int .i64 (w64 ((s8_13:Int) + 1))) rfl<|a0e<|?_;exact a2p ⟨(s8_13 + 1),hc1⟩ (mul hlt19) ⟨[],[],_,_,rfl,rfl,⟨.refl _,⟨.refl _,⟨.refl _,⟨.of_eq (congrArg (AV.int _) (a3h hlt19 hl3)),trivial⟩⟩⟩⟩,(.refl _)⟩
 ·rintro ⟨_,rfl⟩
  refine sr<|l7 (.int .i64 (-1)) rfl<|dk<|a0d<|?_;obtain rfl:=os hf;exact a0m ⟨trivial,trivial⟩ rfl (.refl _)

/- (impl.Json).field -/
def e5s:a0p :=
 (.seq (.reg (tq 2 (.box 5 (.t 0)) (tq 4 (.box 5 (.c (.agg [(.int .i64 0),(.int .i64 0),(.str []),.nil,.nil]))) (tm 5 (.c (.bool false)) .done))))
 (.seq (.reg (tq 7 (.faddr 3 (.t 2)) (tq 8 (.load 1 false (.t 7)) (tm 9 (.t 1) (tq 10 (.call 239 [(.t 8),(.t 9)]) (tm 6 (.t 10) .done))))))
 (.seq (.seq (.reg (tq 11 (.faddr 0 (.t 2)) (tq 12 (.load 1 false (.t 11)) (tq 13 (.bin .neq (.t 12) (.c (.int .i64 5))) (tm 14 (.t 13) (tg 15 14 false (.mov (.t 6)) (tg 16 14 false (.bin .lss (.t 15) (.c (.int .i64 0))) (tq 17 (.pick (.t 14) (.c (.bool true)) (.t 16)) .done))))))))
 (.cut (.cond (.t 17) (.seq (.reg (tq 18 (.build [(.int .i64 0),(.int .i64 0),(.str []),.nil,.nil] []) (.q ⟨none,none,.store 5 (.t 4) (.t 18)⟩
 (tm 5 (.c (.bool false)) .done))))
 .ret)
 .skip)))
 (.seq (.reg (tq 19 (.faddr 4 (.t 2)) (tq 20 (.load 1 false (.t 19)) (tm 21 (.t 6) (tq 22 (.iaddr 5 (.t 20) (.t 21)) (tq 23 (.load 5 true (.t 22)) (.q ⟨none,none,.store 5 (.t 4) (.t 23)⟩
 (tm 5 (.c (.bool true)) .done))))))))
 .ret))))
theorem e5t:a1b Tryz.prog Tryz.f140 = some (e5s.erase,[.load 5 true (.t 4),.mov (.t 5)],24):=by kernel_rfl
def a8a (j_1:y7) (name_2:Str):Option (y7 × Bool) :=
    (a5f j_1.Keys name_2).bind fun r_3 =>
    ((if (j_1.Kind != 5) then
    some true
    else
    some (decide (r_3 < 0)):Option Bool)).bind fun s17_6 =>
    if s17_6 then
    some ((⟨0,0,[],[],[]⟩:y7),false)
    else
    (idx j_1.Items r_3).bind fun x_10 =>
    some (x_10,true)
theorem b9p (j_1:y7) (name_2:Str) (r:(y7 × Bool)) (hf:a8a j_1 name_2 = some r):y9 Tryz.prog 140 .weak [(o5 j_1),(.str name_2)] (.tup [(o5 r.1),(.bool r.2)]):=by
 refine y9.of_awp mixed Tryz.func140 e5t nle ?_;rw [a0f];rw [y8 j_1];unfold a8a at hf;unfold e5s;refine (show awp Tryz.prog false 0 _ (ofL [(0,(.agg [(.int .i64 j_1.Kind),(.int .i64 j_1.N),(.str j_1.T),(.lst 1 (j_1.Keys.map AV.str)),(.lst 5 (j_1.Items.map o5))])),(1,(.str name_2))]) [] _ from ?_);refine sr<|o8 (a1g (j:=0) (c:=(.agg [(.int .i64 j_1.Kind),(.int .i64 j_1.N),(.str j_1.T),(.lst 1 (j_1.Keys.map AV.str)),(.lst 5 (j_1.Items.map o5))])) rfl trivial rfl rfl)<|o8 (a1g (j:=1) (c:=(.agg [(.int .i64 0),(.int .i64 0),(.str []),.nil,.nil])) rfl trivial rfl rfl)<|l7 (.bool false) rfl<|dk<|sr<|?_
 obtain ⟨r_3,er4,hf⟩:=ob hf
 refine o7 (.ptr 0 0 3) rfl trivial rfl<|o7 (.lst 1 (j_1.Keys.map AV.str)) rfl nle rfl<|l7 (.str name_2) rfl<|o8 (a1f (b2d _ _ _ er4) rfl (.refl _) rfl)<|l7 (.int .i64 r_3) rfl<|dk<|o6<|o6<|?_
 obtain ⟨s17_6,hb1,hf⟩:=ob hf
 refine a2v ([(2,(.ptr 0 0 0)),(4,(.ptr 1 0 0)),(6,(.int .i64 r_3)),(17,(.bool s17_6))],[.box 5 (.agg [(.int .i64 j_1.Kind),(.int .i64 j_1.N),(.str j_1.T),(.lst 1 (j_1.Keys.map AV.str)),(.lst 5 (j_1.Items.map o5))]),.box 5 (.agg [(.int .i64 0),(.int .i64 0),(.str []),.nil,.nil])]) ?_ ?_
 ·refine a0z ?_
  rcases oi hb1 with ⟨c8,hb1⟩ | ⟨c8,hb1⟩
  ·refine o7 (.ptr 0 0 0) rfl trivial rfl<|o7 (.int .i64 j_1.Kind) rfl nle rfl<|o7 (.bool (j_1.Kind != 5)) rfl rfl rfl<|l7 (.bool (j_1.Kind != 5)) rfl<|a1k (s:=14) (b:=true) rfl c8<|a0a rfl rfl<|a0a rfl rfl<|o7 (.bool true) rfl trivial rfl<|a0e<|?_;obtain rfl:=os hb1;exact ⟨[],[0,1],_,_,rfl,rfl,⟨.refl _,⟨.refl _,⟨.refl _,⟨.refl _,trivial⟩⟩⟩⟩,(.refl _)⟩
  ·refine o7 (.ptr 0 0 0) rfl trivial rfl<|o7 (.int .i64 j_1.Kind) rfl nle rfl<|o7 (.bool (j_1.Kind != 5)) rfl rfl rfl<|l7 (.bool (j_1.Kind != 5)) rfl<|a1k (s:=14) (b:=false) rfl (bf c8)<|s_on rfl<|l7 (.int .i64 r_3) rfl<|s_on rfl<|o7 (.bool (decide (r_3 < 0))) rfl rfl rfl<|o7 (.bool (decide (r_3 < 0))) rfl trivial rfl<|a0e<|?_;obtain rfl:=os hb1;exact ⟨[],[0,1],_,_,rfl,rfl,⟨.refl _,⟨.refl _,⟨.refl _,⟨.refl _,trivial⟩⟩⟩⟩,(.refl _)⟩
 ·rcases oi hf with ⟨c9,hf⟩ | ⟨c9,hf⟩
  ·refine a0b rfl c9<|sr<|o7 (.agg [(.int .i64 0),(.int .i64 0),(.str []),.nil,.nil]) rfl trivial rfl<|a1i (x9 (v:=(.agg [(.int .i64 0),(.int .i64 0),(.str []),.nil,.nil])) (y':=(.agg [(.int .i64 0),(.int .i64 0),(.str []),.nil,.nil])) rfl rfl rfl trivial ⟨rfl,nle⟩ ⟨⟨rfl,trivial⟩,⟨⟨rfl,trivial⟩,⟨⟨rfl,trivial⟩,⟨⟨rfl,trivial⟩,⟨⟨rfl,trivial⟩,trivial⟩⟩⟩⟩⟩ rfl)<|l7 (.bool false) rfl<|dk<|a0d<|?_;obtain rfl:=os hf;exact c0r ⟨nle,⟨trivial,trivial⟩⟩ rfl (.tup (.cons (leJ (x:=(⟨0,0,[],[],[]⟩:y7)) (.agg (.cons (.refl _) (.cons (.refl _) (.cons (.refl _) (.cons (.nil _) (.cons (.nil _) .nil))))))) (.cons (.refl _) .nil)))
  ·refine a0c rfl (bf c9)<|a0i<|a0h<|sr<|?_
   obtain ⟨x_10,ex11,hf⟩:=ob hf
   refine o7 (.ptr 0 0 4) rfl trivial rfl<|o7 (.lst 5 (j_1.Items.map o5)) rfl nle rfl<|l7 (.int .i64 r_3) rfl<|o8 (a5l (enc:=o5) rfl rfl (b2x ex11) (b2y ex11))<|o8 (a9d (v:=(.agg [(.int .i64 x_10.Kind),(.int .i64 x_10.N),(.str x_10.T),(.lst 1 (x_10.Keys.map AV.str)),(.lst 5 (x_10.Items.map o5))])) rfl (y8 _) nle rfl)<|a1i (x9 (v:=(.agg [(.int .i64 x_10.Kind),(.int .i64 x_10.N),(.str x_10.T),(.lst 1 (x_10.Keys.map AV.str)),(.lst 5 (x_10.Items.map o5))])) (y':=(.agg [(.int .i64 x_10.Kind),(.int .i64 x_10.N),(.str x_10.T),(.lst 1 (x_10.Keys.map AV.str)),(.lst 5 (x_10.Items.map o5))])) rfl rfl rfl trivial ⟨rfl,nle⟩ ⟨⟨rfl,trivial⟩,⟨⟨rfl,trivial⟩,⟨⟨rfl,trivial⟩,⟨⟨rfl,trivial⟩,⟨⟨rfl,trivial⟩,trivial⟩⟩⟩⟩⟩ rfl)<|?_
   refine l7 (.bool true) rfl<|dk<|a0d<|?_;obtain rfl:=os hf;exact c0r ⟨nle,⟨trivial,trivial⟩⟩ rfl (.tup (.cons (.of_eq (y8 x_10).symm) (.cons (.refl _) .nil)))

/- impl.copyJson -/
def c141:a0p :=
 (.seq (.reg (tq 1 (.box 5 (.t 0)) (tq 2 (.box 5 (.c (.agg [(.int .i64 0),(.int .i64 0),(.str []),.nil,.nil]))) .done)))
 (.seq (.reg (tq 6 (.faddr 3 (.t 1)) (tq 7 (.load 1 false (.t 6)) (tq 8 (.call 197 [(.t 7)]) (tq 9 (.faddr 3 (.t 1)) (.q ⟨none,none,.store 1 (.t 9) (.t 8)⟩
 .done))))))
 (.seq (.reg (tq 10 (.bslice 5 []) (tm 3 (.t 10) .done)))
 (.seq (.seq (.reg (tq 11 (.faddr 4 (.t 1)) (tq 12 (.load 1 false (.t 11)) (tq 13 (.len (.t 12)) (tm 14 (.c (.int .i64 0)) .done)))))
 (.block 0 (.loop (.seq (.reg (tq 15 (.bin .lss (.t 14) (.t 13)) .done))
 (.seq (.cond (.t 15) .skip
 (.exit 0))
 (.seq (.block 1 (.seq (.reg (tq 16 (.iaddr 5 (.t 12) (.t 14)) (tq 17 (.load 5 true (.t 16)) (tq 5 (.box 5 (.c (.agg [(.int .i64 0),(.int .i64 0),(.str []),.nil,.nil]))) (.q ⟨none,none,.store 5 (.t 5) (.t 17)⟩
 .done)))))
 (.reg (tm 18 (.t 3) (tq 19 (.load 5 true (.t 5)) (tq 20 (.call 141 [(.t 19)]) (tq 21 (.bslice 5 [(.t 20)]) (tq 22 (.append 5 80 (.t 18) (.t 21)) (tm 3 (.t 22) .done)))))))))
 (.reg (tq 23 (.bin .add (.t 14) (.c (.int .i64 1))) (tm 14 (.t 23) .done)))))))))
 (.cut (.seq (.seq (.reg (tq 24 (.faddr 4 (.t 1)) (.q ⟨none,none,.store 1 (.t 24) (.c .nil)⟩
 .done)))
 (.seq (.reg (tm 25 (.t 3) (tq 26 (.len (.t 25)) (tq 27 (.bin .gtr (.t 26) (.c (.int .i64 0))) .done))))
 (.cond (.t 27) (.reg (tm 28 (.t 3) (tq 29 (.faddr 4 (.t 1)) (.q ⟨none,none,.store 1 (.t 29) (.t 28)⟩
 .done))))
 .skip)))
 (.seq (.reg (tq 30 (.load 5 true (.t 1)) (.q ⟨none,none,.store 5 (.t 2) (.t 30)⟩
 .done)))
 .ret)))))))
theorem e5u:a1b Tryz.prog Tryz.f141 = some (c141.erase,[.load 5 true (.t 2)],31):=by kernel_rfl
def a3n (rec:(y7 → Option y7)):List y7 → (List y7) → Option (List y7)
  | [],items_20 =>
    some items_20
  | x_35 :: xs,items_20 =>
    (rec x_35).bind fun r_36 =>
    if (items_20 ++ [r_36]).length ≤ 2 ^ 30 then
    a3n rec xs  (items_20 ++ [r_36])
    else none

def a9p (rec:(y7 → Option y7)) (j_1:y7):Option y7 :=
    (a2o j_1.Keys).bind fun r_2 =>
    (a3n rec j_1.Items []).bind fun items_27 =>
    if (decide ((items_27.length:Int) > 0)) then
    some (⟨j_1.Kind,j_1.N,j_1.T,r_2,items_27⟩:y7)
    else
    some (⟨j_1.Kind,j_1.N,j_1.T,r_2,[]⟩:y7)
theorem b9q (rec:(y7 → Option y7)) (hrec:∀ a0 r,rec a0 = some r → y9 Tryz.prog 141 .fresh [(o5 a0)] (o5 r)) (j_1:y7) (r:y7) (hf:a9p rec j_1 = some r):y9 Tryz.prog 141 .fresh [(o5 j_1)] (o5 r):=by
 refine y9.of_awp mixed Tryz.func141 e5u nle ?_;rw [a0f];rw [y8 j_1];unfold a9p at hf;unfold c141;refine (show awp Tryz.prog true 0 _ (ofL [(0,(.agg [(.int .i64 j_1.Kind),(.int .i64 j_1.N),(.str j_1.T),(.lst 1 (j_1.Keys.map AV.str)),(.lst 5 (j_1.Items.map o5))]))]) [] _ from ?_);refine sr<|o8 (a1g (j:=0) (c:=(.agg [(.int .i64 j_1.Kind),(.int .i64 j_1.N),(.str j_1.T),(.lst 1 (j_1.Keys.map AV.str)),(.lst 5 (j_1.Items.map o5))])) rfl trivial rfl rfl)<|o8 (a1g (j:=1) (c:=(.agg [(.int .i64 0),(.int .i64 0),(.str []),.nil,.nil])) rfl trivial rfl rfl)<|dk<|sr<|?_
 obtain ⟨r_2,er3,hf⟩:=ob hf
 refine o7 (.ptr 0 0 3) rfl trivial rfl<|o7 (.lst 1 (j_1.Keys.map AV.str)) rfl nle rfl<|o8 (a3j (v:=(.own 2 0 r_2.length)) (h':=[.row 1 (r_2.map AV.str)]) (a7z _ _ er3) rfl (.refl _) (by simp only [a2b,a2c,List.length_map,List.nil_append,List.append_nil,List.cons_append];rfl))<|o7 (.ptr 0 0 3) rfl trivial rfl<|a1i (x9 (v:=(.own 2 0 r_2.length)) (y':=(.agg [(.int .i64 j_1.Kind),(.int .i64 j_1.N),(.str j_1.T),(.own 2 0 r_2.length),(.lst 5 (j_1.Items.map o5))])) rfl rfl rfl trivial ⟨rfl,nle⟩ ⟨⟨rfl,trivial⟩,trivial⟩ rfl)<|dk<|sr<|?_;refine o8 (a1c (j:=3) (as':=[]) rfl (fun _ => by decide) trivial (.refl _) rfl rfl rfl) ?_
 refine l7 (.own 3 0 0) rfl<|dk<|o6<|sr<|o7 (.ptr 0 0 4) rfl trivial rfl<|o7 (.lst 5 (j_1.Items.map o5)) rfl nle rfl<|a1n (a3d (enc:=o5) rfl) fun hl4 => l7 (.int .i64 0) rfl<|dk<|?_
 obtain ⟨items_27,hb1,hf⟩:=ob hf
 refine a2v ([(1,(.ptr 0 0 0)),(2,(.ptr 1 0 0)),(3,(.own 2 0 items_27.length))],[.box 5 (.agg [(.int .i64 j_1.Kind),(.int .i64 j_1.N),(.str j_1.T),(.own 3 0 r_2.length),(.lst 5 (j_1.Items.map o5))]),.box 5 (.agg [(.int .i64 0),(.int .i64 0),(.str []),.nil,.nil]),.row 5 (items_27.map o5),.row 1 (r_2.map AV.str)]) ?_ ?_
 ·refine a1v (X:={q:(Nat × (List y7)) // a3n rec (j_1.Items.drop q.1) q.2 = some items_27}) (fun q => ([(1,(.ptr 0 0 0)),(2,(.ptr 1 0 0)),(3,(.own 2 0 q.1.2.length)),(12,(.lst 5 (j_1.Items.map o5))),(13,(.int .i64 (j_1.Items.length:Int))),(14,(.int .i64 (q.1.1:Int)))],[.box 5 (.agg [(.int .i64 j_1.Kind),(.int .i64 j_1.N),(.str j_1.T),(.own 3 0 r_2.length),(.lst 5 (j_1.Items.map o5))]),.box 5 (.agg [(.int .i64 0),(.int .i64 0),(.str []),.nil,.nil]),.row 5 (q.1.2.map o5),.row 1 (r_2.map AV.str)])) (fun q => j_1.Items.length - q.1.1) ⟨(0,[]),hb1⟩ ⟨[],[0,1,3,2],_,_,rfl,rfl,⟨.refl _,⟨.refl _,⟨.of_eq (congrArg (AV.own _ 0) (by simp)),⟨.refl _,⟨.refl _,⟨.refl _,trivial⟩⟩⟩⟩⟩⟩,(.refl _)⟩ ?_
  rintro ⟨⟨s14_19,items_20⟩,hc1⟩
  have hc1:a3n rec (j_1.Items.drop s14_19) items_20 = some items_27:=hc1
  refine (show awp Tryz.prog true 0 _ (ofL [(1,(.ptr 0 0 0)),(2,(.ptr 1 0 0)),(3,(.own 2 0 items_20.length)),(12,(.lst 5 (j_1.Items.map o5))),(13,(.int .i64 (j_1.Items.length:Int))),(14,(.int .i64 (s14_19:Int)))]) [.box 5 (.agg [(.int .i64 j_1.Kind),(.int .i64 j_1.N),(.str j_1.T),(.own 3 0 r_2.length),(.lst 5 (j_1.Items.map o5))]),.box 5 (.agg [(.int .i64 0),(.int .i64 0),(.str []),.nil,.nil]),.row 5 (items_20.map o5),.row 1 (r_2.map AV.str)] _ from ?_)
  rcases a7j j_1.Items s14_19 with ⟨hie31,hd34⟩ | ⟨hlt29,x_35,hx30,hd34⟩
  ·rw [hd34,a3n.eq_1] at hc1
   have hq33:=dlf hie31
   refine sr<|o7 (.bool (decide ((s14_19:Int) < (j_1.Items.length:Int)))) rfl rfl rfl<|dk<|o6<|a0c rfl hq33<|a4b<|a4a<|a2w<|a3z<|?_;obtain rfl:=os hc1;exact ⟨[],[0,1,2,3],_,_,rfl,rfl,⟨.refl _,⟨.refl _,⟨.refl _,trivial⟩⟩⟩,(.refl _)⟩
  ·rw [hd34,a3n.eq_2] at hc1
   have hq33:=dlt hlt29
   refine sr<|o7 (.bool (decide ((s14_19:Int) < (j_1.Items.length:Int)))) rfl rfl rfl<|dk<|o6<|a0b rfl hq33<|a0i<|a0h<|o6<|a3s<|sr<|o8 (a3o (enc:=o5) rfl rfl hx30)<|o8 (a9d (v:=(.agg [(.int .i64 x_35.Kind),(.int .i64 x_35.N),(.str x_35.T),(.lst 1 (x_35.Keys.map AV.str)),(.lst 5 (x_35.Items.map o5))])) rfl (y8 _) nle rfl)<|o8 (a1g (j:=4) (c:=(.agg [(.int .i64 0),(.int .i64 0),(.str []),.nil,.nil])) rfl trivial rfl rfl)<|a1i (x9 (v:=(.agg [(.int .i64 x_35.Kind),(.int .i64 x_35.N),(.str x_35.T),(.lst 1 (x_35.Keys.map AV.str)),(.lst 5 (x_35.Items.map o5))])) (y':=(.agg [(.int .i64 x_35.Kind),(.int .i64 x_35.N),(.str x_35.T),(.lst 1 (x_35.Keys.map AV.str)),(.lst 5 (x_35.Items.map o5))])) rfl rfl rfl trivial ⟨rfl,nle⟩ ⟨⟨rfl,trivial⟩,⟨⟨rfl,trivial⟩,⟨⟨rfl,trivial⟩,⟨⟨rfl,trivial⟩,⟨⟨rfl,trivial⟩,trivial⟩⟩⟩⟩⟩ rfl)<|?_
   refine dk<|a0z<|?_
   obtain ⟨r_36,er37,hc1⟩:=ob hc1
   obtain ⟨g38,hc1⟩:=og hc1
   refine l7 (.own 2 0 items_20.length) rfl<|o7 (.agg [(.int .i64 x_35.Kind),(.int .i64 x_35.N),(.str x_35.T),(.lst 1 (x_35.Keys.map AV.str)),(.lst 5 (x_35.Items.map o5))]) rfl nle rfl<|o8 (a3j (v:=(.agg [(.int .i64 r_36.Kind),(.int .i64 r_36.N),(.str r_36.T),(.own 5 0 r_36.Keys.length),(.own 6 0 r_36.Items.length)])) (h':=[.row 1 (r_36.Keys.map AV.str),.row 5 (r_36.Items.map o5)]) (hrec _ _ er37) rfl (.cons (.of_eq (y8 x_35).symm) .nil) (by simp only [a2b,a2c,List.length_map,y8,List.nil_append,List.append_nil,List.cons_append];rfl))<|?_;refine o8 (a1c (j:=7) (as':=[(o5 r_36)]) rfl (fun _ => by decide) ⟨rfl,trivial⟩ (.cons (leJ (x:=r_36) (.agg (.cons (.refl _) (.cons (.refl _) (.cons (.refl _) (.cons (.of_eq (congrArg (AV.lst _) (tk (enc:=AV.str) r_36.Keys))) (.cons (.of_eq (congrArg (AV.lst _) (tk (enc:=o5) r_36.Items))) .nil))))))) .nil) rfl rfl rfl) ?_
   refine o8 (a2a (j:=8) (L:=((items_20 ++ [r_36]).map o5)) (len:=(items_20 ++ [r_36]).length) rfl true rfl rfl (fun h => Bool.noConfusion h) (fun _ _ h => (b7c (show AV.own _ _ _ = AV.lst _ _ from h)).elim) (by decide) (c5s (enc:=o5) items_20 [r_36] _ (by rfl)) (by simp <;> omega) g38 rfl rfl) ?_
   refine l7 (.own 8 0 ((items_20 ++ [r_36]).length)) rfl<|a0e<|a3l<|a0h<|a0z<|o7 (.int .i64 (w64 ((s14_19:Int) + 1))) rfl rfl rfl<|l7 (.int .i64 (w64 ((s14_19:Int) + 1))) rfl<|a0e<|?_;exact a2p ⟨((s14_19 + 1),items_20 ++ [r_36]),hc1⟩ (mul hlt29) ⟨[],[0,1,8,3],_,_,rfl,rfl,⟨.refl _,⟨.refl _,⟨.refl _,⟨.refl _,⟨.refl _,⟨.of_eq (congrArg (AV.int _) (a3h hlt29 hl4)),trivial⟩⟩⟩⟩⟩⟩,(.refl _)⟩
 ·refine o6<|sr<|o7 (.ptr 0 0 4) rfl trivial rfl<|a1i (x9 (v:=.nil) (y':=(.agg [(.int .i64 j_1.Kind),(.int .i64 j_1.N),(.str j_1.T),(.own 3 0 r_2.length),.nil])) rfl rfl rfl trivial ⟨rfl,nle⟩ ⟨⟨rfl,trivial⟩,trivial⟩ rfl)<|dk<|sr<|l7 (.own 2 0 items_27.length) rfl<|a1n (a6h rfl rfl) fun hl39 => o7 (.bool (decide ((items_27.length:Int) > 0))) rfl rfl rfl<|dk<|?_
  rcases oi hf with ⟨c40,hf⟩ | ⟨c40,hf⟩
  ·refine a0b rfl c40<|a0z<|l7 (.own 2 0 items_27.length) rfl<|o7 (.ptr 0 0 4) rfl trivial rfl<|a1i (x9 (v:=(.own 2 0 items_27.length)) (y':=(.agg [(.int .i64 j_1.Kind),(.int .i64 j_1.N),(.str j_1.T),(.own 3 0 r_2.length),(.own 2 0 items_27.length)])) rfl rfl rfl trivial ⟨rfl,nle⟩ ⟨⟨rfl,trivial⟩,trivial⟩ rfl)<|dk<|sr<|o7 (.agg [(.int .i64 j_1.Kind),(.int .i64 j_1.N),(.str j_1.T),(.own 3 0 r_2.length),(.own 2 0 items_27.length)]) rfl nle rfl<|a1i (x9 (v:=(.agg [(.int .i64 j_1.Kind),(.int .i64 j_1.N),(.str j_1.T),(.own 3 0 r_2.length),(.own 2 0 items_27.length)])) (y':=(.agg [(.int .i64 j_1.Kind),(.int .i64 j_1.N),(.str j_1.T),(.own 3 0 r_2.length),(.own 2 0 items_27.length)])) rfl rfl rfl trivial ⟨rfl,nle⟩ ⟨⟨rfl,trivial⟩,⟨⟨rfl,trivial⟩,⟨⟨rfl,trivial⟩,⟨⟨rfl,trivial⟩,⟨⟨rfl,trivial⟩,trivial⟩⟩⟩⟩⟩ rfl)<|?_
   refine dk<|a0d<|?_;obtain rfl:=os hf;exact a1j ⟨nle,trivial⟩ rfl (by decide) (leJ (x:=(⟨j_1.Kind,j_1.N,j_1.T,r_2,items_27⟩:y7)) (.agg (.cons (.refl _) (.cons (.refl _) (.cons (.refl _) (.cons (.of_eq (congrArg (AV.lst _) (tk (enc:=AV.str) r_2))) (.cons (.of_eq (congrArg (AV.lst _) (tk (enc:=o5) items_27))) .nil)))))))
  ·refine a0c rfl (bf c40)<|a0i<|a0h<|sr<|o7 (.agg [(.int .i64 j_1.Kind),(.int .i64 j_1.N),(.str j_1.T),(.own 3 0 r_2.length),.nil]) rfl nle rfl<|a1i (x9 (v:=(.agg [(.int .i64 j_1.Kind),(.int .i64 j_1.N),(.str j_1.T),(.own 3 0 r_2.length),.nil])) (y':=(.agg [(.int .i64 j_1.Kind),(.int .i64 j_1.N),(.str j_1.T),(.own 3 0 r_2.length),.nil])) rfl rfl rfl trivial ⟨rfl,nle⟩ ⟨⟨rfl,trivial⟩,⟨⟨rfl,trivial⟩,⟨⟨rfl,trivial⟩,⟨⟨rfl,trivial⟩,⟨⟨rfl,trivial⟩,trivial⟩⟩⟩⟩⟩ rfl)<|dk<|a0d<|?_;obtain rfl:=os hf;exact a1j ⟨nle,trivial⟩ rfl (by decide) (leJ (x:=(⟨j_1.Kind,j_1.N,j_1.T,r_2,[]⟩:y7)) (.agg (.cons (.refl _) (.cons (.refl _) (.cons (.refl _) (.cons (.of_eq (congrArg (AV.lst _) (tk (enc:=AV.str) r_2))) (.cons (.nil _) .nil)))))))
def a5u:Nat → y7 → Option y7
 | 0,_ => none
 | k + 1,j_1 => a9p (a5u k) j_1
theorem b5k:∀ (k:Nat) (j_1:y7) (r:y7),a5u k j_1 = some r → y9 Tryz.prog 141 .fresh [(o5 j_1)] (o5 r)
 | 0,j_1,r,h => by rw [a5u.eq_1] at h;cases h
 | k + 1,j_1,r,h => by
  rw [a5u.eq_2] at h;exact b9q _ (b5k k) j_1 r h

/- impl.FieldOf -/
def c57:a0p :=
 (.seq (.reg (tq 2 (.box 5 (.t 0)) (tq 4 (.box 5 (.c (.agg [(.int .i64 0),(.int .i64 0),(.str []),.nil,.nil]))) (tm 5 (.c (.int .i64 0)) .done))))
 (.seq (.block 0 (.seq (.reg (tm 9 (.t 1) (tq 10 (.call 139 [(.t 9)]) (tq 11 (.not (.t 10)) (tm 8 (.t 11) .done)))))
 (.cond (.t 8) (.seq (.reg (tq 12 (.build [(.int .i64 0),(.int .i64 0),(.str []),.nil,.nil] []) (.q ⟨none,none,.store 5 (.t 4) (.t 12)⟩
 (tm 5 (.c (.int .i64 2)) .done))))
 .ret)
 (.seq (.reg (tq 14 (.load 5 true (.t 2)) (tq 15 (.call 124 [(.t 14)]) (tq 16 (.not (.t 15)) (tm 13 (.t 16) .done)))))
 (.cond (.t 13) (.seq (.reg (tq 17 (.build [(.int .i64 0),(.int .i64 0),(.str []),.nil,.nil] []) (.q ⟨none,none,.store 5 (.t 4) (.t 17)⟩
 (tm 5 (.c (.int .i64 1)) .done))))
 .ret)
 (.seq (.reg (tq 19 (.faddr 0 (.t 2)) (tq 20 (.load 1 false (.t 19)) (tq 21 (.bin .neq (.t 20) (.c (.int .i64 5))) (tm 18 (.t 21) .done)))))
 (.cond (.t 18) (.seq (.reg (tq 22 (.build [(.int .i64 0),(.int .i64 0),(.str []),.nil,.nil] []) (.q ⟨none,none,.store 5 (.t 4) (.t 22)⟩
 (tm 5 (.c (.int .i64 9)) .done))))
 .ret)
 .skip)))))))
 (.seq (.reg (tq 24 (.load 5 true (.t 2)) (tm 25 (.t 1) (tq 26 (.call 140 [(.t 24),(.t 25)]) (tm 23 (.t 26) (tq 27 (.extract 0 (.t 23)) (tq 28 (.extract 1 (.t 23)) (tq 6 (.box 5 (.c (.agg [(.int .i64 0),(.int .i64 0),(.str []),.nil,.nil]))) (.q ⟨none,none,.store 5 (.t 6) (.t 27)⟩
 (tm 7 (.t 28) .done))))))))))
 (.seq (.seq (.reg (tm 29 (.t 7) (tq 30 (.not (.t 29)) .done)))
 (.cond (.t 30) (.seq (.reg (tq 31 (.build [(.int .i64 0),(.int .i64 0),(.str []),.nil,.nil] []) (.q ⟨none,none,.store 5 (.t 4) (.t 31)⟩
 (tm 5 (.c (.int .i64 5)) .done))))
 .ret)
 .skip))
 (.seq (.reg (tq 32 (.load 5 true (.t 6)) (tq 33 (.call 141 [(.t 32)]) (.q ⟨none,none,.store 5 (.t 4) (.t 33)⟩
 (tm 5 (.c (.int .i64 0)) .done)))))
 .ret)))))
theorem e7c:a1b Tryz.prog Tryz.f57 = some (c57.erase,[.load 5 true (.t 4),.mov (.t 5)],34):=by kernel_rfl
def b0w (j_1:y7) (name_2:Str):Option (y7 × Int) :=
    (b3k name_2).bind fun r_3 =>
    if (!r_3) then
    some ((⟨0,0,[],[],[]⟩:y7),2)
    else
    (a8s j_1).bind fun r_6 =>
    if (!r_6) then
    some ((⟨0,0,[],[],[]⟩:y7),1)
    else
    if (j_1.Kind != 5) then
    some ((⟨0,0,[],[],[]⟩:y7),9)
    else
    (a8a j_1 name_2).bind fun r_10 =>
    if (!r_10.2) then
    some ((⟨0,0,[],[],[]⟩:y7),5)
    else
    (a5u FUEL r_10.1).bind fun r_13 =>
    some (r_13,0)
theorem c4v (j_1:y7) (name_2:Str) (r:(y7 × Int)) (hf:b0w j_1 name_2 = some r):y9 Tryz.prog 57 .fresh [(o5 j_1),(.str name_2)] (.tup [(o5 r.1),(.int .i64 r.2)]):=by
 refine y9.of_awp mixed Tryz.func57 e7c nle ?_;rw [a0f];rw [y8 j_1];unfold b0w at hf;unfold c57;refine (show awp Tryz.prog true 0 _ (ofL [(0,(.agg [(.int .i64 j_1.Kind),(.int .i64 j_1.N),(.str j_1.T),(.lst 1 (j_1.Keys.map AV.str)),(.lst 5 (j_1.Items.map o5))])),(1,(.str name_2))]) [] _ from ?_);refine sr<|o8 (a1g (j:=0) (c:=(.agg [(.int .i64 j_1.Kind),(.int .i64 j_1.N),(.str j_1.T),(.lst 1 (j_1.Keys.map AV.str)),(.lst 5 (j_1.Items.map o5))])) rfl trivial rfl rfl)<|o8 (a1g (j:=1) (c:=(.agg [(.int .i64 0),(.int .i64 0),(.str []),.nil,.nil])) rfl trivial rfl rfl)<|l7 (.int .i64 0) rfl<|dk<|o6<|a3s<|o6<|?_
 refine a0z ?_
 obtain ⟨r_3,er4,hf⟩:=ob hf
 refine l7 (.str name_2) rfl<|o8 (a1f (c5y _ _ er4) rfl (.refl _) rfl)<|o7 (.bool (!r_3)) rfl trivial rfl<|l7 (.bool (!r_3)) rfl<|dk<|?_
 rcases oi hf with ⟨c5,hf⟩ | ⟨c5,hf⟩
 ·refine a0b rfl c5<|sr<|o7 (.agg [(.int .i64 0),(.int .i64 0),(.str []),.nil,.nil]) rfl trivial rfl<|a1i (x9 (v:=(.agg [(.int .i64 0),(.int .i64 0),(.str []),.nil,.nil])) (y':=(.agg [(.int .i64 0),(.int .i64 0),(.str []),.nil,.nil])) rfl rfl rfl trivial ⟨rfl,nle⟩ ⟨⟨rfl,trivial⟩,⟨⟨rfl,trivial⟩,⟨⟨rfl,trivial⟩,⟨⟨rfl,trivial⟩,⟨⟨rfl,trivial⟩,trivial⟩⟩⟩⟩⟩ rfl)<|l7 (.int .i64 2) rfl<|dk<|a0d<|?_;obtain rfl:=os hf;exact a1j ⟨nle,⟨trivial,trivial⟩⟩ rfl (by decide) (.tup (.cons (leJ (x:=(⟨0,0,[],[],[]⟩:y7)) (.agg (.cons (.refl _) (.cons (.refl _) (.cons (.refl _) (.cons (.nil _) (.cons (.nil _) .nil))))))) (.cons (.refl _) .nil)))
 ·refine a0c rfl (bf c5)<|sr<|?_
  obtain ⟨r_6,er7,hf⟩:=ob hf
  refine o7 (.agg [(.int .i64 j_1.Kind),(.int .i64 j_1.N),(.str j_1.T),(.lst 1 (j_1.Keys.map AV.str)),(.lst 5 (j_1.Items.map o5))]) rfl nle rfl<|o8 (a1f (b3x _ _ er7) rfl (.cons (.of_eq (y8 j_1).symm) .nil) rfl)<|o7 (.bool (!r_6)) rfl trivial rfl<|l7 (.bool (!r_6)) rfl<|dk<|?_
  rcases oi hf with ⟨c8,hf⟩ | ⟨c8,hf⟩
  ·refine a0b rfl c8<|sr<|o7 (.agg [(.int .i64 0),(.int .i64 0),(.str []),.nil,.nil]) rfl trivial rfl<|a1i (x9 (v:=(.agg [(.int .i64 0),(.int .i64 0),(.str []),.nil,.nil])) (y':=(.agg [(.int .i64 0),(.int .i64 0),(.str []),.nil,.nil])) rfl rfl rfl trivial ⟨rfl,nle⟩ ⟨⟨rfl,trivial⟩,⟨⟨rfl,trivial⟩,⟨⟨rfl,trivial⟩,⟨⟨rfl,trivial⟩,⟨⟨rfl,trivial⟩,trivial⟩⟩⟩⟩⟩ rfl)<|l7 (.int .i64 1) rfl<|dk<|a0d<|?_;obtain rfl:=os hf;exact a1j ⟨nle,⟨trivial,trivial⟩⟩ rfl (by decide) (.tup (.cons (leJ (x:=(⟨0,0,[],[],[]⟩:y7)) (.agg (.cons (.refl _) (.cons (.refl _) (.cons (.refl _) (.cons (.nil _) (.cons (.nil _) .nil))))))) (.cons (.refl _) .nil)))
  ·refine a0c rfl (bf c8)<|sr<|o7 (.ptr 0 0 0) rfl trivial rfl<|o7 (.int .i64 j_1.Kind) rfl nle rfl<|o7 (.bool (j_1.Kind != 5)) rfl rfl rfl<|l7 (.bool (j_1.Kind != 5)) rfl<|dk<|?_
   rcases oi hf with ⟨c9,hf⟩ | ⟨c9,hf⟩
   ·refine a0b rfl c9<|sr<|o7 (.agg [(.int .i64 0),(.int .i64 0),(.str []),.nil,.nil]) rfl trivial rfl<|a1i (x9 (v:=(.agg [(.int .i64 0),(.int .i64 0),(.str []),.nil,.nil])) (y':=(.agg [(.int .i64 0),(.int .i64 0),(.str []),.nil,.nil])) rfl rfl rfl trivial ⟨rfl,nle⟩ ⟨⟨rfl,trivial⟩,⟨⟨rfl,trivial⟩,⟨⟨rfl,trivial⟩,⟨⟨rfl,trivial⟩,⟨⟨rfl,trivial⟩,trivial⟩⟩⟩⟩⟩ rfl)<|l7 (.int .i64 9) rfl<|dk<|a0d<|?_;obtain rfl:=os hf;exact a1j ⟨nle,⟨trivial,trivial⟩⟩ rfl (by decide) (.tup (.cons (leJ (x:=(⟨0,0,[],[],[]⟩:y7)) (.agg (.cons (.refl _) (.cons (.refl _) (.cons (.refl _) (.cons (.nil _) (.cons (.nil _) .nil))))))) (.cons (.refl _) .nil)))
   ·refine a0c rfl (bf c9)<|a0i<|a3l<|a0h<|sr<|?_
    obtain ⟨r_10,er11,hf⟩:=ob hf
    refine o7 (.agg [(.int .i64 j_1.Kind),(.int .i64 j_1.N),(.str j_1.T),(.lst 1 (j_1.Keys.map AV.str)),(.lst 5 (j_1.Items.map o5))]) rfl nle rfl<|l7 (.str name_2) rfl<|o8 (c2x (v:=(.tup [(.agg [(.int .i64 r_10.1.Kind),(.int .i64 r_10.1.N),(.str r_10.1.T),(.lst 1 (r_10.1.Keys.map AV.str)),(.lst 5 (r_10.1.Items.map o5))]),(.bool r_10.2)])) rfl (b9p _ _ _ er11) rfl (.cons (.of_eq (y8 j_1).symm) (.cons (.refl _) .nil)) (by simp only [y8]) rfl)<|l7 (.tup [(.agg [(.int .i64 r_10.1.Kind),(.int .i64 r_10.1.N),(.str r_10.1.T),(.lst 1 (r_10.1.Keys.map AV.str)),(.lst 5 (r_10.1.Items.map o5))]),(.bool r_10.2)]) rfl<|o7 (.agg [(.int .i64 r_10.1.Kind),(.int .i64 r_10.1.N),(.str r_10.1.T),(.lst 1 (r_10.1.Keys.map AV.str)),(.lst 5 (r_10.1.Items.map o5))]) rfl nle rfl<|?_
    refine o7 (.bool r_10.2) rfl nle rfl<|o8 (a1g (j:=2) (c:=(.agg [(.int .i64 0),(.int .i64 0),(.str []),.nil,.nil])) rfl trivial rfl rfl)<|a1i (x9 (v:=(.agg [(.int .i64 r_10.1.Kind),(.int .i64 r_10.1.N),(.str r_10.1.T),(.lst 1 (r_10.1.Keys.map AV.str)),(.lst 5 (r_10.1.Items.map o5))])) (y':=(.agg [(.int .i64 r_10.1.Kind),(.int .i64 r_10.1.N),(.str r_10.1.T),(.lst 1 (r_10.1.Keys.map AV.str)),(.lst 5 (r_10.1.Items.map o5))])) rfl rfl rfl trivial ⟨rfl,nle⟩ ⟨⟨rfl,trivial⟩,⟨⟨rfl,trivial⟩,⟨⟨rfl,trivial⟩,⟨⟨rfl,trivial⟩,⟨⟨rfl,trivial⟩,trivial⟩⟩⟩⟩⟩ rfl)<|l7 (.bool r_10.2) rfl<|dk<|o6<|sr<|l7 (.bool r_10.2) rfl<|?_
    refine o7 (.bool (!r_10.2)) rfl trivial rfl<|dk<|?_
    rcases oi hf with ⟨c12,hf⟩ | ⟨c12,hf⟩
    ·refine a0b rfl c12<|sr<|o7 (.agg [(.int .i64 0),(.int .i64 0),(.str []),.nil,.nil]) rfl trivial rfl<|a1i (x9 (v:=(.agg [(.int .i64 0),(.int .i64 0),(.str []),.nil,.nil])) (y':=(.agg [(.int .i64 0),(.int .i64 0),(.str []),.nil,.nil])) rfl rfl rfl trivial ⟨rfl,nle⟩ ⟨⟨rfl,trivial⟩,⟨⟨rfl,trivial⟩,⟨⟨rfl,trivial⟩,⟨⟨rfl,trivial⟩,⟨⟨rfl,trivial⟩,trivial⟩⟩⟩⟩⟩ rfl)<|l7 (.int .i64 5) rfl<|dk<|a0d<|?_;obtain rfl:=os hf;exact a1j ⟨nle,⟨trivial,trivial⟩⟩ rfl (by decide) (.tup (.cons (leJ (x:=(⟨0,0,[],[],[]⟩:y7)) (.agg (.cons (.refl _) (.cons (.refl _) (.cons (.refl _) (.cons (.nil _) (.cons (.nil _) .nil))))))) (.cons (.refl _) .nil)))
    ·refine a0c rfl (bf c12)<|a0i<|a0h<|sr<|?_
     obtain ⟨r_13,er14,hf⟩:=ob hf
     refine o7 (.agg [(.int .i64 r_10.1.Kind),(.int .i64 r_10.1.N),(.str r_10.1.T),(.lst 1 (r_10.1.Keys.map AV.str)),(.lst 5 (r_10.1.Items.map o5))]) rfl nle rfl<|o8 (a3j (v:=(.agg [(.int .i64 r_13.Kind),(.int .i64 r_13.N),(.str r_13.T),(.own 3 0 r_13.Keys.length),(.own 4 0 r_13.Items.length)])) (h':=[.row 1 (r_13.Keys.map AV.str),.row 5 (r_13.Items.map o5)]) (b5k FUEL _ _ er14) rfl (.cons (.of_eq (y8 r_10.1).symm) .nil) (by simp only [a2b,a2c,List.length_map,y8,List.nil_append,List.append_nil,List.cons_append];rfl))<|a1i (x9 (v:=(.agg [(.int .i64 r_13.Kind),(.int .i64 r_13.N),(.str r_13.T),(.own 3 0 r_13.Keys.length),(.own 4 0 r_13.Items.length)])) (y':=(.agg [(.int .i64 r_13.Kind),(.int .i64 r_13.N),(.str r_13.T),(.own 3 0 r_13.Keys.length),(.own 4 0 r_13.Items.length)])) rfl rfl rfl trivial ⟨rfl,nle⟩ ⟨⟨rfl,trivial⟩,⟨⟨rfl,trivial⟩,⟨⟨rfl,trivial⟩,⟨⟨rfl,trivial⟩,⟨⟨rfl,trivial⟩,trivial⟩⟩⟩⟩⟩ rfl)<|?_
     refine l7 (.int .i64 0) rfl<|dk<|a0d<|?_;obtain rfl:=os hf;exact a1j ⟨nle,⟨trivial,trivial⟩⟩ rfl (by decide) (.tup (.cons (leJ (x:=r_13) (.agg (.cons (.refl _) (.cons (.refl _) (.cons (.refl _) (.cons (.of_eq (congrArg (AV.lst _) (tk (enc:=AV.str) r_13.Keys))) (.cons (.of_eq (congrArg (AV.lst _) (tk (enc:=o5) r_13.Items))) .nil))))))) (.cons (.refl _) .nil)))

/- laws.FnWire -/
def c7:a0p :=
 (.seq (.reg (tm 4 (.c (.bool false)) .done))
 (.seq (.seq (.reg (tm 24 (.t 0) (tq 25 (.len (.t 24)) (tq 26 (.bin .gtr (.t 25) (.c (.int .i64 1048576))) (tm 27 (.t 26) (tg 28 27 false (.mov (.t 1)) (tg 29 27 false (.len (.t 28)) (tg 30 27 false (.bin .gtr (.t 29) (.c (.int .i64 1048576))) (tq 31 (.pick (.t 27) (.c (.bool true)) (.t 30)) .done)))))))))
 (.cut (.cond (.t 31) (.seq (.reg (tm 4 (.c (.bool true)) .done))
 .ret)
 .skip)))
 (.seq (.reg (tm 32 (.t 0) (tm 33 (.t 1) (tq 34 (.call 48 [(.t 33),(.c (.int .i64 0)),(.c (.int .i64 4))]) (tq 35 (.bin .add (.c (.int .i64 1)) (.t 34)) (tq 36 (.call 47 [(.t 32),(.t 35)]) (tm 5 (.t 36) .done)))))))
 (.seq (.reg (tm 38 (.t 5) (tq 39 (.call 49 [(.t 38)]) (tm 37 (.t 39) (tq 40 (.extract 0 (.t 37)) (tq 41 (.extract 1 (.t 37)) (tq 6 (.box 5 (.c (.agg [(.int .i64 0),(.int .i64 0),(.str []),.nil,.nil]))) (.q ⟨none,none,.store 5 (.t 6) (.t 40)⟩
 (tm 7 (.t 41) .done)))))))))
 (.seq (.reg (tm 43 (.t 5) (tq 44 (.call 50 [(.t 43)]) (tm 42 (.t 44) (tq 45 (.extract 0 (.t 42)) (tq 46 (.extract 1 (.t 42)) (tq 8 (.box 5 (.c (.agg [(.int .i64 0),(.int .i64 0),(.str []),.nil,.nil]))) (.q ⟨none,none,.store 5 (.t 8) (.t 45)⟩
 (tm 9 (.t 46) .done)))))))))
 (.seq (.reg (tq 48 (.load 5 true (.t 6)) (tq 49 (.call 51 [(.t 48)]) (tm 47 (.t 49) (tq 50 (.extract 0 (.t 47)) (tq 51 (.extract 1 (.t 47)) (tm 10 (.t 50) (tm 11 (.t 51) .done))))))))
 (.seq (.seq (.reg (tm 52 (.t 7) (tq 53 (.bin .neq (.t 52) (.c (.int .i64 0))) (tm 54 (.t 53) (tg 55 54 false (.load 5 true (.t 6)) (tg 56 54 false (.load 5 true (.t 8)) (tg 57 54 false (.call 52 [(.t 55),(.t 56)]) (tg 58 54 false (.not (.t 57)) (tq 59 (.pick (.t 54) (.c (.bool true)) (.t 58)) (tm 60 (.t 59) (tg 61 60 false (.mov (.t 11)) (tg 62 60 false (.bin .neq (.t 61) (.c (.int .i64 0))) (tq 63 (.pick (.t 60) (.c (.bool true)) (.t 62)) (tm 64 (.t 63) (tg 65 64 false (.mov (.t 10)) (tg 66 64 false (.mov (.t 5)) (tg 67 64 false (.call 53 [(.t 65),(.t 66)]) (tg 68 64 false (.not (.t 67)) (tq 69 (.pick (.t 64) (.c (.bool true)) (.t 68)) (tm 70 (.t 69) (tg 71 70 false (.faddr 0 (.t 6)) (tg 72 70 false (.load 1 false (.t 71)) (tg 73 70 false (.bin .eql (.t 72) (.c (.int .i64 0))) (tq 74 (.pick (.t 70) (.c (.bool true)) (.t 73)) .done))))))))))))))))))))))))
 (.cut (.cond (.t 74) (.seq (.reg (tm 4 (.c (.bool false)) .done))
 .ret)
 .skip)))
 (.seq (.seq (.reg (tm 12 (.c (.int .i64 0)) .done))
 (.block 0 (.loop (.seq (.seq (.reg (tm 75 (.t 12) (tm 76 (.t 5) (tq 77 (.len (.t 76)) (tq 78 (.bin .lss (.t 75) (.t 77)) .done)))))
 (.cond (.t 78) .skip
 (.exit 0)))
 (.seq (.block 1 (.seq (.reg (tm 82 (.t 5) (tm 83 (.t 12) (tq 84 (.iaddr 3 (.t 82) (.t 83)) (tq 85 (.load 3 true (.t 84)) (tq 86 (.call 54 [(.t 85)]) (tm 81 (.t 86) (tq 87 (.extract 0 (.t 81)) (tq 88 (.extract 1 (.t 81)) (tq 13 (.box 5 (.c (.agg [(.int .i64 0),(.int .i64 0),(.str []),.nil,.nil]))) (.q ⟨none,none,.store 5 (.t 13) (.t 87)⟩
 (tm 14 (.t 88) .done))))))))))))
 (.seq (.reg (tq 90 (.load 5 true (.t 13)) (tq 91 (.call 55 [(.t 90)]) (tm 89 (.t 91) (tq 92 (.extract 0 (.t 89)) (tq 93 (.extract 1 (.t 89)) (tq 15 (.box 3 (.c (.agg [(.int .i64 0),(.int .i64 0),(.str [])]))) (.q ⟨none,none,.store 3 (.t 15) (.t 92)⟩
 (tm 16 (.t 93) .done)))))))))
 (.seq (.reg (tm 94 (.t 14) (tq 95 (.bin .neq (.t 94) (.c (.int .i64 0))) (tm 96 (.t 95) (tg 97 96 false (.mov (.t 16)) (tg 98 96 false (.bin .neq (.t 97) (.c (.int .i64 0))) (tq 99 (.pick (.t 96) (.c (.bool true)) (.t 98)) (tm 100 (.t 99) (tg 101 100 false (.load 3 true (.t 15)) (tg 102 100 false (.mov (.t 5)) (tg 103 100 false (.mov (.t 12)) (tg 104 100 false (.iaddr 3 (.t 102) (.t 103)) (tg 105 100 false (.load 3 true (.t 104)) (tg 106 100 false (.eqs true [0,0,2] (.t 101) (.t 105)) (tq 107 (.pick (.t 100) (.c (.bool true)) (.t 106)) .done)))))))))))))))
 (.cut (.cond (.t 107) (.seq (.reg (tm 4 (.c (.bool false)) .done))
 .ret)
 .skip))))))
 (.reg (tm 79 (.t 12) (tq 80 (.bin .add (.t 79) (.c (.int .i64 1))) (tm 12 (.t 80) .done)))))))))
 (.cut (.seq (.reg (tm 108 (.t 1) (tq 109 (.call 56 [(.t 108),(.c (.int .i64 1))]) (tq 17 (.box 2 (.c (.agg [(.int .i64 0),.nil]))) (.q ⟨none,none,.store 2 (.t 17) (.t 109)⟩
 .done)))))
 (.seq (.reg (tq 111 (.bslice 1 [(.c (.str [110,97,109,101])),(.c (.str [116,97,103])),(.c (.str [117,112]))]) (tq 112 (.load 2 true (.t 17)) (tq 113 (.call 22 [(.t 111),(.t 112)]) (tm 110 (.t 113) (tq 114 (.extract 0 (.t 110)) (tq 115 (.extract 1 (.t 110)) (tq 18 (.box 5 (.c (.agg [(.int .i64 0),(.int .i64 0),(.str []),.nil,.nil]))) (.q ⟨none,none,.store 5 (.t 18) (.t 114)⟩
 (tm 19 (.t 115) .done))))))))))
 (.seq (.reg (tq 117 (.load 5 true (.t 18)) (tq 118 (.call 57 [(.t 117),(.c (.str [110,97,109,101]))]) (tm 116 (.t 118) (tq 119 (.extract 0 (.t 116)) (tq 120 (.extract 1 (.t 116)) (tq 20 (.box 5 (.c (.agg [(.int .i64 0),(.int .i64 0),(.str []),.nil,.nil]))) (.q ⟨none,none,.store 5 (.t 20) (.t 119)⟩
 (tm 21 (.t 120) .done)))))))))
 (.seq (.reg (tq 122 (.load 5 true (.t 20)) (tq 123 (.call 51 [(.t 122)]) (tm 121 (.t 123) (tq 124 (.extract 0 (.t 121)) (tq 125 (.extract 1 (.t 121)) (tm 22 (.t 124) (tm 23 (.t 125) .done))))))))
 (.seq (.reg (tm 126 (.t 19) (tq 127 (.bin .eql (.t 126) (.c (.int .i64 0))) (tm 128 (.t 127) (tg 129 128 true (.mov (.t 21)) (tg 130 128 true (.bin .eql (.t 129) (.c (.int .i64 0))) (tq 131 (.pick (.t 128) (.t 130) (.c (.bool false))) (tm 132 (.t 131) (tg 133 132 true (.mov (.t 23)) (tg 134 132 true (.bin .eql (.t 133) (.c (.int .i64 0))) (tq 135 (.pick (.t 132) (.t 134) (.c (.bool false))) (tm 136 (.t 135) (tg 137 136 true (.mov (.t 22)) (tg 138 136 true (.faddr 1 (.t 17)) (tg 139 136 true (.load 1 false (.t 138)) (tg 140 136 true (.iaddr 1 (.t 139) (.c (.int .i64 0))) (tg 141 136 true (.load 1 false (.t 140)) (tg 142 136 true (.call 53 [(.t 137),(.t 141)]) (tq 143 (.pick (.t 136) (.t 142) (.c (.bool false))) (tm 4 (.t 143) .done))))))))))))))))))))
 .ret))))))))))))))
theorem fc7:a1b Tryz.prog Tryz.f7 = some (c7.erase,[.mov (.t 4)],144):=by kernel_rfl
def a5g :List x8 → Option (Fl Bool Unit)
  | [] =>
    some (.go ())
  | x_98 :: xs =>
    (a9e x_98).bind fun r_101 =>
    (a9f r_101.1).bind fun r_103 =>
    ((if (bif (r_101.2 != 0) then true else (r_103.2 != 0)) then
    some true
    else
    some (!(r_103.1.Kind == x_98.Kind && (r_103.1.N == x_98.N && (r_103.1.T == x_98.T && true)))):Option Bool)).bind fun s107_106 =>
    if s107_106 then
    some (.ret false)
    else
    a5g xs 

def b3l (code_1:(List Int)) (more_2:(List Int)):Option Bool :=
    ((if (decide ((code_1.length:Int) > 1048576)) then
    some true
    else
    some (decide ((more_2.length:Int) > 1048576)):Option Bool)).bind fun s31_6 =>
    if s31_6 then
    some true
    else
    (b9h more_2 0 4).bind fun r_12 =>
    (a7x code_1 (w64 (1 + r_12))).bind fun r_14 =>
    (a8q r_14).bind fun r_16 =>
    (a8r r_14).bind fun r_18 =>
    (a7n r_16.1).bind fun r_20 =>
    ((if (r_16.2 != 0) then
    some true
    else
    (a5t FUEL r_16.1 r_18.1).bind fun r_31 =>
    if (bif (!r_31) then true else (r_20.2 != 0)) then
    some true
    else
    (a7o r_20.1 r_14).bind fun r_34 =>
    some (bif (!r_34) then true else (r_16.1.Kind == 0)):Option Bool)).bind fun s74_28 =>
    if s74_28 then
    some false
    else
    (a5g r_14 ).bind fun q => (match q with
    | .ret r => some r
    | .go _ =>
    (a9g more_2 1).bind fun r_110 =>
    (b0v [[110,97,109,101],[116,97,103],[117,112]] r_110).bind fun r_112 =>
    (b0w r_112.1 [110,97,109,101]).bind fun r_114 =>
    (a7n r_114.1).bind fun r_116 =>
    if (bif (bif (r_112.2 == 0) then (r_114.2 == 0) else false) then (r_116.2 == 0) else false) then
    (idx r_110.Cells 0).bind fun x_119 =>
    (a7o r_116.1 x_119).bind fun r_121 =>
    some r_121
    else
    some false)
theorem c5z (code_1:(List Int)) (more_2:(List Int)) (r:Bool) (hf:b3l code_1 more_2 = some r):y9 Tryz.prog 7 .flat [(.lst 1 (code_1.map a0q)),(.lst 1 (more_2.map a0q))] (.bool r):=by
 refine y9.of_awp mixed Tryz.func7 fc7 nle ?_;rw [a0f];unfold b3l at hf;unfold c7;refine (show awp Tryz.prog false 0 _ (ofL [(0,(.lst 1 (code_1.map a0q))),(1,(.lst 1 (more_2.map a0q)))]) [] _ from ?_);refine sr<|l7 (.bool false) rfl<|dk<|o6<|o6<|?_
 obtain ⟨s31_6,hb1,hf⟩:=ob hf
 refine a2v ([(0,(.lst 1 (code_1.map a0q))),(1,(.lst 1 (more_2.map a0q))),(31,(.bool s31_6))],[]) ?_ ?_
 ·refine a0z ?_
  rcases oi hb1 with ⟨c9,hb1⟩ | ⟨c9,hb1⟩
  ·refine l7 (.lst 1 (code_1.map a0q)) rfl<|a1n (a3d (enc:=a0q) rfl) fun hl8 => o7 (.bool (decide ((code_1.length:Int) > 1048576))) rfl rfl rfl<|l7 (.bool (decide ((code_1.length:Int) > 1048576))) rfl<|a1k (s:=27) (b:=true) rfl c9<|a0a rfl rfl<|a0a rfl rfl<|a0a rfl rfl<|o7 (.bool true) rfl trivial rfl<|a0e<|?_;obtain rfl:=os hb1;exact ⟨[],[],_,_,rfl,rfl,⟨.refl _,⟨.refl _,⟨.refl _,trivial⟩⟩⟩,(.refl _)⟩
  ·refine l7 (.lst 1 (code_1.map a0q)) rfl<|a1n (a3d (enc:=a0q) rfl) fun hl8 => o7 (.bool (decide ((code_1.length:Int) > 1048576))) rfl rfl rfl<|l7 (.bool (decide ((code_1.length:Int) > 1048576))) rfl<|a1k (s:=27) (b:=false) rfl (bf c9)<|s_on rfl<|l7 (.lst 1 (more_2.map a0q)) rfl<|s_on rfl<|a1n (a3d (enc:=a0q) rfl) fun hl10 => s_on rfl<|o7 (.bool (decide ((more_2.length:Int) > 1048576))) rfl rfl rfl<|o7 (.bool (decide ((more_2.length:Int) > 1048576))) rfl trivial rfl<|a0e<|?_;obtain rfl:=os hb1;exact ⟨[],[],_,_,rfl,rfl,⟨.refl _,⟨.refl _,⟨.refl _,trivial⟩⟩⟩,(.refl _)⟩
 ·rcases oi hf with ⟨c11,hf⟩ | ⟨c11,hf⟩
  ·refine a0b rfl c11<|sr<|l7 (.bool true) rfl<|dk<|a0d<|?_;obtain rfl:=os hf;exact a0m ⟨trivial,trivial⟩ rfl (.refl _)
  ·refine a0c rfl (bf c11)<|a0i<|a0h<|sr<|?_
   obtain ⟨r_12,er13,hf⟩:=ob hf
   obtain ⟨r_14,er15,hf⟩:=ob hf
   refine l7 (.lst 1 (code_1.map a0q)) rfl<|l7 (.lst 1 (more_2.map a0q)) rfl<|o8 (a1f (d5j _ _ _ _ er13) rfl (.refl _) rfl)<|o7 (.int .i64 (w64 (1 + r_12))) rfl rfl rfl<|o8 (b2l rfl (b9i _ _ _ er15) rfl (.refl _) rfl)<|l7 (.lst 3 (r_14.map l9)) rfl<|dk<|sr<|?_
   obtain ⟨r_16,er17,hf⟩:=ob hf
   refine l7 (.lst 3 (r_14.map l9)) rfl<|o8 (b2l (v:=(.tup [(.agg [(.int .i64 r_16.1.Kind),(.int .i64 r_16.1.N),(.str r_16.1.T),(.lst 1 (r_16.1.Keys.map AV.str)),(.lst 5 (r_16.1.Items.map o5))]),(.int .i64 r_16.2)])) rfl (c0z _ _ er17) rfl (.refl _) (by simp only [y8]))<|l7 (.tup [(.agg [(.int .i64 r_16.1.Kind),(.int .i64 r_16.1.N),(.str r_16.1.T),(.lst 1 (r_16.1.Keys.map AV.str)),(.lst 5 (r_16.1.Items.map o5))]),(.int .i64 r_16.2)]) rfl<|o7 (.agg [(.int .i64 r_16.1.Kind),(.int .i64 r_16.1.N),(.str r_16.1.T),(.lst 1 (r_16.1.Keys.map AV.str)),(.lst 5 (r_16.1.Items.map o5))]) rfl nle rfl<|o7 (.int .i64 r_16.2) rfl nle rfl<|?_
   refine o8 (a1g (j:=0) (c:=(.agg [(.int .i64 0),(.int .i64 0),(.str []),.nil,.nil])) rfl trivial rfl rfl)<|a1i (x9 (v:=(.agg [(.int .i64 r_16.1.Kind),(.int .i64 r_16.1.N),(.str r_16.1.T),(.lst 1 (r_16.1.Keys.map AV.str)),(.lst 5 (r_16.1.Items.map o5))])) (y':=(.agg [(.int .i64 r_16.1.Kind),(.int .i64 r_16.1.N),(.str r_16.1.T),(.lst 1 (r_16.1.Keys.map AV.str)),(.lst 5 (r_16.1.Items.map o5))])) rfl rfl rfl trivial ⟨rfl,nle⟩ ⟨⟨rfl,trivial⟩,⟨⟨rfl,trivial⟩,⟨⟨rfl,trivial⟩,⟨⟨rfl,trivial⟩,⟨⟨rfl,trivial⟩,trivial⟩⟩⟩⟩⟩ rfl)<|l7 (.int .i64 r_16.2) rfl<|dk<|sr<|?_
   obtain ⟨r_18,er19,hf⟩:=ob hf
   refine l7 (.lst 3 (r_14.map l9)) rfl<|o8 (b2l (v:=(.tup [(.agg [(.int .i64 r_18.1.Kind),(.int .i64 r_18.1.N),(.str r_18.1.T),(.lst 1 (r_18.1.Keys.map AV.str)),(.lst 5 (r_18.1.Items.map o5))]),(.int .i64 r_18.2)])) rfl (c1b _ _ er19) rfl (.refl _) (by simp only [y8]))<|l7 (.tup [(.agg [(.int .i64 r_18.1.Kind),(.int .i64 r_18.1.N),(.str r_18.1.T),(.lst 1 (r_18.1.Keys.map AV.str)),(.lst 5 (r_18.1.Items.map o5))]),(.int .i64 r_18.2)]) rfl<|o7 (.agg [(.int .i64 r_18.1.Kind),(.int .i64 r_18.1.N),(.str r_18.1.T),(.lst 1 (r_18.1.Keys.map AV.str)),(.lst 5 (r_18.1.Items.map o5))]) rfl nle rfl<|o7 (.int .i64 r_18.2) rfl nle rfl<|?_
   refine o8 (a1g (j:=1) (c:=(.agg [(.int .i64 0),(.int .i64 0),(.str []),.nil,.nil])) rfl trivial rfl rfl)<|a1i (x9 (v:=(.agg [(.int .i64 r_18.1.Kind),(.int .i64 r_18.1.N),(.str r_18.1.T),(.lst 1 (r_18.1.Keys.map AV.str)),(.lst 5 (r_18.1.Items.map o5))])) (y':=(.agg [(.int .i64 r_18.1.Kind),(.int .i64 r_18.1.N),(.str r_18.1.T),(.lst 1 (r_18.1.Keys.map AV.str)),(.lst 5 (r_18.1.Items.map o5))])) rfl rfl rfl trivial ⟨rfl,nle⟩ ⟨⟨rfl,trivial⟩,⟨⟨rfl,trivial⟩,⟨⟨rfl,trivial⟩,⟨⟨rfl,trivial⟩,⟨⟨rfl,trivial⟩,trivial⟩⟩⟩⟩⟩ rfl)<|l7 (.int .i64 r_18.2) rfl<|dk<|sr<|?_
   obtain ⟨r_20,er21,hf⟩:=ob hf
   refine o7 (.agg [(.int .i64 r_16.1.Kind),(.int .i64 r_16.1.N),(.str r_16.1.T),(.lst 1 (r_16.1.Keys.map AV.str)),(.lst 5 (r_16.1.Items.map o5))]) rfl nle rfl<|o8 (b2l rfl (b4g _ _ er21) rfl (.cons (.of_eq (y8 r_16.1).symm) .nil) rfl)<|l7 (.tup [(.lst 3 (r_20.1.map l9)),(.int .i64 r_20.2)]) rfl<|o7 (.lst 3 (r_20.1.map l9)) rfl nle rfl<|o7 (.int .i64 r_20.2) rfl nle rfl<|l7 (.lst 3 (r_20.1.map l9)) rfl<|l7 (.int .i64 r_20.2) rfl<|dk<|o6<|o6<|?_
   obtain ⟨s74_28,hb1,hf⟩:=ob hf
   refine a2v ([(1,(.lst 1 (more_2.map a0q))),(5,(.lst 3 (r_14.map l9))),(74,(.bool s74_28))],[]) ?_ ?_
   ·refine a0z<|l7 (.int .i64 r_16.2) rfl<|o7 (.bool (r_16.2 != 0)) rfl rfl rfl<|l7 (.bool (r_16.2 != 0)) rfl<|?_
    rcases oi hb1 with ⟨c30,hb1⟩ | ⟨c30,hb1⟩
    ·refine a1k (s:=54) (b:=true) rfl c30<|a0a rfl rfl<|a0a rfl rfl<|a0a rfl rfl<|a0a rfl rfl<|o7 (.bool true) rfl trivial rfl<|l7 (.bool true) rfl<|a0a rfl rfl<|a0a rfl rfl<|o7 (.bool true) rfl trivial rfl<|l7 (.bool true) rfl<|a0a rfl rfl<|a0a rfl rfl<|a0a rfl rfl<|a0a rfl rfl<|o7 (.bool true) rfl trivial rfl<|l7 (.bool true) rfl<|a0a rfl rfl<|a0a rfl rfl<|a0a rfl rfl<|o7 (.bool true) rfl trivial rfl<|a0e<|?_;obtain rfl:=os hb1;exact ⟨[],[],_,_,rfl,rfl,⟨.refl _,⟨.refl _,⟨.refl _,trivial⟩⟩⟩,(.refl _)⟩
    ·refine a1k (s:=54) (b:=false) rfl (bf c30)<|s_on rfl<|o7 (.agg [(.int .i64 r_16.1.Kind),(.int .i64 r_16.1.N),(.str r_16.1.T),(.lst 1 (r_16.1.Keys.map AV.str)),(.lst 5 (r_16.1.Items.map o5))]) rfl nle rfl<|s_on rfl<|o7 (.agg [(.int .i64 r_18.1.Kind),(.int .i64 r_18.1.N),(.str r_18.1.T),(.lst 1 (r_18.1.Keys.map AV.str)),(.lst 5 (r_18.1.Items.map o5))]) rfl nle rfl<|s_on rfl<|?_
     obtain ⟨r_31,er32,hb1⟩:=ob hb1
     refine o8 (a1f (b5j FUEL _ _ _ er32) rfl (.cons (.of_eq (y8 r_16.1).symm) (.cons (.of_eq (y8 r_18.1).symm) .nil)) rfl)<|s_on rfl<|o7 (.bool (!r_31)) rfl trivial rfl<|o7 (.bool (!r_31)) rfl trivial rfl<|l7 (.bool (!r_31)) rfl<|?_;refine s_g (v:=(!r_31)) (.int .i64 r_20.2) rfl (fun hv => by (try simp only [a0g hv]);exact ⟨rfl,trivial,rfl⟩) ?_;refine s_g (v:=(!r_31)) (.bool (r_20.2 != 0)) rfl (fun hv => by (try simp only [a0g hv]);exact ⟨rfl,rfl,rfl⟩) ?_;refine a5a (x:=true) (y:=(r_20.2 != 0)) rfl (fun hv => by (try simp only [a0g hv]);rfl) (fun hv => by (try simp only [a0g hv]);rfl) ?_;refine l7 (.bool (bif (!r_31) then true else (r_20.2 != 0))) rfl ?_
     rcases oi hb1 with ⟨c33,hb1⟩ | ⟨c33,hb1⟩
     ·refine a1k (s:=64) (b:=true) rfl c33<|a0a rfl rfl<|a0a rfl rfl<|a0a rfl rfl<|a0a rfl rfl<|o7 (.bool true) rfl trivial rfl<|l7 (.bool true) rfl<|a0a rfl rfl<|a0a rfl rfl<|a0a rfl rfl<|o7 (.bool true) rfl trivial rfl<|a0e<|?_;obtain rfl:=os hb1;exact ⟨[],[],_,_,rfl,rfl,⟨.refl _,⟨.refl _,⟨.refl _,trivial⟩⟩⟩,(.refl _)⟩
     ·refine a1k (s:=64) (b:=false) rfl (bf c33)<|s_on rfl<|l7 (.lst 3 (r_20.1.map l9)) rfl<|s_on rfl<|l7 (.lst 3 (r_14.map l9)) rfl<|s_on rfl<|?_
      obtain ⟨r_34,er35,hb1⟩:=ob hb1
      refine o8 (a1f (b4h _ _ _ er35) rfl (.refl _) rfl)<|s_on rfl<|o7 (.bool (!r_34)) rfl trivial rfl<|o7 (.bool (!r_34)) rfl trivial rfl<|l7 (.bool (!r_34)) rfl<|?_;refine s_g (v:=(!r_34)) (.ptr 0 0 0) rfl (fun hv => by (try simp only [a0g hv]);exact ⟨rfl,trivial,rfl⟩) ?_;refine s_g (v:=(!r_34)) (.int .i64 r_16.1.Kind) rfl (fun hv => by (try simp only [a0g hv]);exact ⟨rfl,nle,rfl⟩) ?_;refine s_g (v:=(!r_34)) (.bool (r_16.1.Kind == 0)) rfl (fun hv => by (try simp only [a0g hv]);exact ⟨rfl,rfl,rfl⟩) ?_;refine a5a (x:=true) (y:=(r_16.1.Kind == 0)) rfl (fun hv => by (try simp only [a0g hv]);rfl) (fun hv => by (try simp only [a0g hv]);rfl) ?_;refine a0e ?_;obtain rfl:=os hb1
      exact ⟨[],[],_,_,rfl,rfl,⟨.refl _,⟨.refl _,⟨.refl _,trivial⟩⟩⟩,(.refl _)⟩
   ·rcases oi hf with ⟨c36,hf⟩ | ⟨c36,hf⟩
    ·refine a0b rfl c36<|sr<|l7 (.bool false) rfl<|dk<|a0d<|?_;obtain rfl:=os hf;exact a0m ⟨trivial,trivial⟩ rfl (.refl _)
    ·refine a0c rfl (bf c36)<|a0i<|a0h<|o6<|sr<|l7 (.int .i64 0) rfl<|dk<|?_
     obtain ⟨p91,hb1,hf⟩:=ob hf
     refine a4k (X:={q:Unit // p91 = .go q}) (fun q => ([(1,(.lst 1 (more_2.map a0q)))],[])) ?_ ?_
     ·refine a1v (X:={q:Nat // a5g (r_14.drop q)  = some p91}) (fun q => ([(1,(.lst 1 (more_2.map a0q))),(5,(.lst 3 (r_14.map l9))),(12,(.int .i64 (q.1:Int)))],[])) (fun q => r_14.length - q.1) ⟨0,hb1⟩ ⟨[],[],_,_,rfl,rfl,⟨.refl _,⟨.refl _,⟨.refl _,trivial⟩⟩⟩,(.refl _)⟩ ?_
      rintro ⟨i_72,hc1⟩
      have hc1:a5g (r_14.drop i_72)  = some p91:=hc1
      refine (show awp Tryz.prog false 0 _ (ofL [(1,(.lst 1 (more_2.map a0q))),(5,(.lst 3 (r_14.map l9))),(12,(.int .i64 (i_72:Int)))]) [] _ from ?_)
      rcases a7j r_14 i_72 with ⟨hie94,hd97⟩ | ⟨hlt92,x_98,hx93,hd97⟩
      ·rw [hd97,a5g.eq_1] at hc1
       have hq96:=dlf hie94
       refine o6<|sr<|l7 (.int .i64 (i_72:Int)) rfl<|l7 (.lst 3 (r_14.map l9)) rfl<|a1n (a3d (enc:=l9) rfl) fun hl99 => o7 (.bool (decide ((i_72:Int) < (r_14.length:Int)))) rfl rfl rfl<|dk<|a0c rfl hq96<|a4b<|a4a<|a2w<|a3z<|?_;obtain rfl:=os hc1;exact a5z ⟨_,rfl⟩ ⟨[],[],_,_,rfl,rfl,⟨.refl _,trivial⟩,(.refl _)⟩
      ·rw [hd97,a5g.eq_2] at hc1
       have hq96:=dlt hlt92
       refine o6<|sr<|l7 (.int .i64 (i_72:Int)) rfl<|l7 (.lst 3 (r_14.map l9)) rfl<|a1n (a3d (enc:=l9) rfl) fun hl100 => o7 (.bool (decide ((i_72:Int) < (r_14.length:Int)))) rfl rfl rfl<|dk<|a0b rfl hq96<|a0i<|a0h<|o6<|a3s<|sr<|?_
       obtain ⟨r_101,er102,hc1⟩:=ob hc1
       refine l7 (.lst 3 (r_14.map l9)) rfl<|l7 (.int .i64 (i_72:Int)) rfl<|o8 (a3o (enc:=l9) rfl rfl hx93)<|o7 (l9 x_98) rfl nle rfl<|o8 (b2l (v:=(.tup [(.agg [(.int .i64 r_101.1.Kind),(.int .i64 r_101.1.N),(.str r_101.1.T),(.lst 1 (r_101.1.Keys.map AV.str)),(.lst 5 (r_101.1.Items.map o5))]),(.int .i64 r_101.2)])) rfl (c2l _ _ er102) rfl (.refl _) (by simp only [y8]))<|l7 (.tup [(.agg [(.int .i64 r_101.1.Kind),(.int .i64 r_101.1.N),(.str r_101.1.T),(.lst 1 (r_101.1.Keys.map AV.str)),(.lst 5 (r_101.1.Items.map o5))]),(.int .i64 r_101.2)]) rfl<|o7 (.agg [(.int .i64 r_101.1.Kind),(.int .i64 r_101.1.N),(.str r_101.1.T),(.lst 1 (r_101.1.Keys.map AV.str)),(.lst 5 (r_101.1.Items.map o5))]) rfl nle rfl<|?_
       refine o7 (.int .i64 r_101.2) rfl nle rfl<|o8 (a1g (j:=0) (c:=(.agg [(.int .i64 0),(.int .i64 0),(.str []),.nil,.nil])) rfl trivial rfl rfl)<|a1i (x9 (v:=(.agg [(.int .i64 r_101.1.Kind),(.int .i64 r_101.1.N),(.str r_101.1.T),(.lst 1 (r_101.1.Keys.map AV.str)),(.lst 5 (r_101.1.Items.map o5))])) (y':=(.agg [(.int .i64 r_101.1.Kind),(.int .i64 r_101.1.N),(.str r_101.1.T),(.lst 1 (r_101.1.Keys.map AV.str)),(.lst 5 (r_101.1.Items.map o5))])) rfl rfl rfl trivial ⟨rfl,nle⟩ ⟨⟨rfl,trivial⟩,⟨⟨rfl,trivial⟩,⟨⟨rfl,trivial⟩,⟨⟨rfl,trivial⟩,⟨⟨rfl,trivial⟩,trivial⟩⟩⟩⟩⟩ rfl)<|l7 (.int .i64 r_101.2) rfl<|dk<|sr<|?_
       obtain ⟨r_103,er104,hc1⟩:=ob hc1
       refine o7 (.agg [(.int .i64 r_101.1.Kind),(.int .i64 r_101.1.N),(.str r_101.1.T),(.lst 1 (r_101.1.Keys.map AV.str)),(.lst 5 (r_101.1.Items.map o5))]) rfl nle rfl<|o8 (a1f (c2n _ _ er104) rfl (.cons (.of_eq (y8 r_101.1).symm) .nil) rfl)<|l7 (.tup [(l9 r_103.1),(.int .i64 r_103.2)]) rfl<|o7 (l9 r_103.1) rfl nle rfl<|o7 (.int .i64 r_103.2) rfl nle rfl<|o8 (a1g (j:=1) (c:=(.agg [(.int .i64 0),(.int .i64 0),(.str [])])) rfl trivial rfl rfl)<|a1i (x9 (v:=(.agg [(.int .i64 r_103.1.Kind),(.int .i64 r_103.1.N),(.str r_103.1.T)])) (y':=(.agg [(.int .i64 r_103.1.Kind),(.int .i64 r_103.1.N),(.str r_103.1.T)])) rfl rfl rfl trivial ⟨rfl,nle⟩ ⟨⟨rfl,trivial⟩,⟨⟨rfl,trivial⟩,⟨⟨rfl,trivial⟩,trivial⟩⟩⟩ rfl)<|?_
       refine l7 (.int .i64 r_103.2) rfl<|dk<|o6<|?_
       obtain ⟨s107_106,hb2,hc1⟩:=ob hc1
       refine a2v ([(1,(.lst 1 (more_2.map a0q))),(5,(.lst 3 (r_14.map l9))),(12,(.int .i64 (i_72:Int))),(107,(.bool s107_106))],[]) ?_ ?_
       ·refine a0z<|l7 (.int .i64 r_101.2) rfl<|o7 (.bool (r_101.2 != 0)) rfl rfl rfl<|l7 (.bool (r_101.2 != 0)) rfl<|?_;refine s_g (v:=(r_101.2 != 0)) (.int .i64 r_103.2) rfl (fun hv => by (try simp only [a0g hv]);exact ⟨rfl,trivial,rfl⟩) ?_;refine s_g (v:=(r_101.2 != 0)) (.bool (r_103.2 != 0)) rfl (fun hv => by (try simp only [a0g hv]);exact ⟨rfl,rfl,rfl⟩) ?_;refine a5a (x:=true) (y:=(r_103.2 != 0)) rfl (fun hv => by (try simp only [a0g hv]);rfl) (fun hv => by (try simp only [a0g hv]);rfl) ?_;refine l7 (.bool (bif (r_101.2 != 0) then true else (r_103.2 != 0))) rfl ?_
        rcases oi hb2 with ⟨c108,hb2⟩ | ⟨c108,hb2⟩
        ·refine a1k (s:=100) (b:=true) rfl c108<|a0a rfl rfl<|a0a rfl rfl<|a0a rfl rfl<|a0a rfl rfl<|a0a rfl rfl<|a0a rfl rfl<|o7 (.bool true) rfl trivial rfl<|a0e<|?_;obtain rfl:=os hb2;exact ⟨[],[],_,_,rfl,rfl,⟨.refl _,⟨.refl _,⟨.refl _,⟨.refl _,trivial⟩⟩⟩⟩,(.refl _)⟩
        ·refine a1k (s:=100) (b:=false) rfl (bf c108)<|s_on rfl<|o7 (.agg [(.int .i64 r_103.1.Kind),(.int .i64 r_103.1.N),(.str r_103.1.T)]) rfl nle rfl<|s_on rfl<|l7 (.lst 3 (r_14.map l9)) rfl<|s_on rfl<|l7 (.int .i64 (i_72:Int)) rfl<|s_on rfl<|o8 (a3o (enc:=l9) rfl rfl hx93)<|s_on rfl<|o7 (l9 x_98) rfl nle rfl<|s_on rfl<|o7 (.bool (!(r_103.1.Kind == x_98.Kind && (r_103.1.N == x_98.N && (r_103.1.T == x_98.T && true))))) rfl ⟨⟨rfl,rfl⟩,⟨⟨rfl,rfl⟩,⟨rfl,trivial⟩⟩⟩ rfl<|o7 (.bool (!(r_103.1.Kind == x_98.Kind && (r_103.1.N == x_98.N && (r_103.1.T == x_98.T && true))))) rfl trivial rfl<|a0e<|?_;obtain rfl:=os hb2;exact ⟨[],[],_,_,rfl,rfl,⟨.refl _,⟨.refl _,⟨.refl _,⟨.refl _,trivial⟩⟩⟩⟩,(.refl _)⟩
       ·rcases oi hc1 with ⟨c109,hc1⟩ | ⟨c109,hc1⟩
        ·refine a0b rfl c109<|sr<|l7 (.bool false) rfl<|dk<|a0d<|?_;obtain rfl:=os hc1;obtain rfl:=os hf;exact a0m ⟨trivial,trivial⟩ rfl (.refl _)
        ·refine a0c rfl (bf c109)<|a0i<|a3l<|a0h<|a0z<|l7 (.int .i64 (i_72:Int)) rfl<|o7 (.int .i64 (w64 ((i_72:Int) + 1))) rfl rfl rfl<|l7 (.int .i64 (w64 ((i_72:Int) + 1))) rfl<|a0e<|?_;exact a2p ⟨(i_72 + 1),hc1⟩ (mul hlt92) ⟨[],[],_,_,rfl,rfl,⟨.refl _,⟨.refl _,⟨.of_eq (congrArg (AV.int _) (a3h hlt92 hl100)),trivial⟩⟩⟩,(.refl _)⟩
     ·rintro ⟨_,rfl⟩
      refine sr<|?_
      obtain ⟨r_110,er111,hf⟩:=ob hf
      refine l7 (.lst 1 (more_2.map a0q)) rfl<|o8 (b2l rfl (c2o _ _ _ er111) rfl (.refl _) rfl)<|o8 (a1g (j:=0) (c:=(.agg [(.int .i64 0),.nil])) rfl trivial rfl rfl)<|a1i (x9 (v:=(.agg [(.int .i64 r_110.Id),(.lst 1 (r_110.Cells.map (a4z 3 l9)))])) (y':=(.agg [(.int .i64 r_110.Id),(.lst 1 (r_110.Cells.map (a4z 3 l9)))])) rfl rfl rfl trivial ⟨rfl,nle⟩ ⟨⟨rfl,trivial⟩,⟨⟨rfl,trivial⟩,trivial⟩⟩ rfl)<|dk<|sr<|?_
      obtain ⟨r_112,er113,hf⟩:=ob hf
      refine o8 (a1c (j:=1) (as':=[(.str [110,97,109,101]),(.str [116,97,103]),(.str [117,112])]) rfl (fun _ => by decide) ⟨rfl,⟨rfl,⟨rfl,trivial⟩⟩⟩ (.refl _) rfl rfl rfl) ?_;refine o7 (.agg [(.int .i64 r_110.Id),(.lst 1 (r_110.Cells.map (a4z 3 l9)))]) rfl nle rfl<|o8 (b2l (v:=(.tup [(.agg [(.int .i64 r_112.1.Kind),(.int .i64 r_112.1.N),(.str r_112.1.T),(.lst 1 (r_112.1.Keys.map AV.str)),(.lst 5 (r_112.1.Items.map o5))]),(.int .i64 r_112.2)])) rfl (c4u _ _ _ er113) rfl (.cons (.of_eq (congrArg (AV.lst _) (by rfl))) (.cons (.refl _) .nil)) (by simp only [y8]))<|l7 (.tup [(.agg [(.int .i64 r_112.1.Kind),(.int .i64 r_112.1.N),(.str r_112.1.T),(.lst 1 (r_112.1.Keys.map AV.str)),(.lst 5 (r_112.1.Items.map o5))]),(.int .i64 r_112.2)]) rfl<|?_
      refine o7 (.agg [(.int .i64 r_112.1.Kind),(.int .i64 r_112.1.N),(.str r_112.1.T),(.lst 1 (r_112.1.Keys.map AV.str)),(.lst 5 (r_112.1.Items.map o5))]) rfl nle rfl<|o7 (.int .i64 r_112.2) rfl nle rfl<|o8 (a1g (j:=2) (c:=(.agg [(.int .i64 0),(.int .i64 0),(.str []),.nil,.nil])) rfl trivial rfl rfl)<|a1i (x9 (v:=(.agg [(.int .i64 r_112.1.Kind),(.int .i64 r_112.1.N),(.str r_112.1.T),(.lst 1 (r_112.1.Keys.map AV.str)),(.lst 5 (r_112.1.Items.map o5))])) (y':=(.agg [(.int .i64 r_112.1.Kind),(.int .i64 r_112.1.N),(.str r_112.1.T),(.lst 1 (r_112.1.Keys.map AV.str)),(.lst 5 (r_112.1.Items.map o5))])) rfl rfl rfl trivial ⟨rfl,nle⟩ ⟨⟨rfl,trivial⟩,⟨⟨rfl,trivial⟩,⟨⟨rfl,trivial⟩,⟨⟨rfl,trivial⟩,⟨⟨rfl,trivial⟩,trivial⟩⟩⟩⟩⟩ rfl)<|?_
      refine l7 (.int .i64 r_112.2) rfl<|dk<|sr<|?_
      obtain ⟨r_114,er115,hf⟩:=ob hf
      refine o7 (.agg [(.int .i64 r_112.1.Kind),(.int .i64 r_112.1.N),(.str r_112.1.T),(.lst 1 (r_112.1.Keys.map AV.str)),(.lst 5 (r_112.1.Items.map o5))]) rfl nle rfl<|o8 (b2l (v:=(.tup [(.agg [(.int .i64 r_114.1.Kind),(.int .i64 r_114.1.N),(.str r_114.1.T),(.lst 1 (r_114.1.Keys.map AV.str)),(.lst 5 (r_114.1.Items.map o5))]),(.int .i64 r_114.2)])) rfl (c4v _ _ _ er115) rfl (.cons (.of_eq (y8 r_112.1).symm) (.cons (.refl _) .nil)) (by simp only [y8]))<|l7 (.tup [(.agg [(.int .i64 r_114.1.Kind),(.int .i64 r_114.1.N),(.str r_114.1.T),(.lst 1 (r_114.1.Keys.map AV.str)),(.lst 5 (r_114.1.Items.map o5))]),(.int .i64 r_114.2)]) rfl<|o7 (.agg [(.int .i64 r_114.1.Kind),(.int .i64 r_114.1.N),(.str r_114.1.T),(.lst 1 (r_114.1.Keys.map AV.str)),(.lst 5 (r_114.1.Items.map o5))]) rfl nle rfl<|?_
      refine o7 (.int .i64 r_114.2) rfl nle rfl<|o8 (a1g (j:=3) (c:=(.agg [(.int .i64 0),(.int .i64 0),(.str []),.nil,.nil])) rfl trivial rfl rfl)<|a1i (x9 (v:=(.agg [(.int .i64 r_114.1.Kind),(.int .i64 r_114.1.N),(.str r_114.1.T),(.lst 1 (r_114.1.Keys.map AV.str)),(.lst 5 (r_114.1.Items.map o5))])) (y':=(.agg [(.int .i64 r_114.1.Kind),(.int .i64 r_114.1.N),(.str r_114.1.T),(.lst 1 (r_114.1.Keys.map AV.str)),(.lst 5 (r_114.1.Items.map o5))])) rfl rfl rfl trivial ⟨rfl,nle⟩ ⟨⟨rfl,trivial⟩,⟨⟨rfl,trivial⟩,⟨⟨rfl,trivial⟩,⟨⟨rfl,trivial⟩,⟨⟨rfl,trivial⟩,trivial⟩⟩⟩⟩⟩ rfl)<|l7 (.int .i64 r_114.2) rfl<|dk<|sr<|?_
      obtain ⟨r_116,er117,hf⟩:=ob hf
      refine o7 (.agg [(.int .i64 r_114.1.Kind),(.int .i64 r_114.1.N),(.str r_114.1.T),(.lst 1 (r_114.1.Keys.map AV.str)),(.lst 5 (r_114.1.Items.map o5))]) rfl nle rfl<|o8 (b2l rfl (b4g _ _ er117) rfl (.cons (.of_eq (y8 r_114.1).symm) .nil) rfl)<|l7 (.tup [(.lst 3 (r_116.1.map l9)),(.int .i64 r_116.2)]) rfl<|o7 (.lst 3 (r_116.1.map l9)) rfl nle rfl<|o7 (.int .i64 r_116.2) rfl nle rfl<|l7 (.lst 3 (r_116.1.map l9)) rfl<|l7 (.int .i64 r_116.2) rfl<|dk<|sr<|l7 (.int .i64 r_112.2) rfl<|o7 (.bool (r_112.2 == 0)) rfl rfl rfl<|l7 (.bool (r_112.2 == 0)) rfl<|?_;refine s_g (v:=(r_112.2 == 0)) (.int .i64 r_114.2) rfl (fun hv => by (try simp only [a0g hv]);exact ⟨rfl,trivial,rfl⟩) ?_
      refine s_g (v:=(r_112.2 == 0)) (.bool (r_114.2 == 0)) rfl (fun hv => by (try simp only [a0g hv]);exact ⟨rfl,rfl,rfl⟩) ?_;refine a5a (x:=(r_114.2 == 0)) (y:=false) rfl (fun hv => by (try simp only [a0g hv]);rfl) (fun hv => by (try simp only [a0g hv]);rfl) ?_;refine l7 (.bool (bif (r_112.2 == 0) then (r_114.2 == 0) else false)) rfl ?_;refine s_g (v:=(bif (r_112.2 == 0) then (r_114.2 == 0) else false)) (.int .i64 r_116.2) rfl (fun hv => by (try simp only [a0g hv]);exact ⟨rfl,trivial,rfl⟩) ?_;refine s_g (v:=(bif (r_112.2 == 0) then (r_114.2 == 0) else false)) (.bool (r_116.2 == 0)) rfl (fun hv => by (try simp only [a0g hv]);exact ⟨rfl,rfl,rfl⟩) ?_;refine a5a (x:=(r_116.2 == 0)) (y:=false) rfl (fun hv => by (try simp only [a0g hv]);rfl) (fun hv => by (try simp only [a0g hv]);rfl) ?_
      refine l7 (.bool (bif (bif (r_112.2 == 0) then (r_114.2 == 0) else false) then (r_116.2 == 0) else false)) rfl ?_
      rcases oi hf with ⟨c118,hf⟩ | ⟨c118,hf⟩
      ·refine a1k (s:=136) (b:=true) rfl c118<|s_on rfl<|l7 (.lst 3 (r_116.1.map l9)) rfl<|s_on rfl<|o7 (.ptr 0 0 1) rfl trivial rfl<|s_on rfl<|o7 (.lst 1 (r_110.Cells.map (a4z 3 l9))) rfl nle rfl<|s_on rfl<|?_
       obtain ⟨x_119,ex120,hf⟩:=ob hf
       refine o8 (a5l (enc:=(a4z 3 l9)) rfl rfl (b2x ex120) (b2y ex120))<|s_on rfl<|o7 (.lst 3 (x_119.map l9)) rfl ⟨rfl,rfl⟩ rfl<|s_on rfl<|?_
       obtain ⟨r_121,er122,hf⟩:=ob hf
       refine o8 (a1f (b4h _ _ _ er122) rfl (.refl _) rfl)<|o7 (.bool r_121) rfl trivial rfl<|l7 (.bool r_121) rfl<|dk<|a0d<|?_;obtain rfl:=os hf;exact a0m ⟨trivial,trivial⟩ rfl (.refl _)
      ·refine a1k (s:=136) (b:=false) rfl (bf c118)<|a0a rfl rfl<|a0a rfl rfl<|a0a rfl rfl<|a0a rfl rfl<|a0a rfl rfl<|a0a rfl rfl<|o7 (.bool false) rfl trivial rfl<|l7 (.bool false) rfl<|dk<|a0d<|?_;obtain rfl:=os hf;exact a0m ⟨trivial,trivial⟩ rfl (.refl _)

end Go.R
