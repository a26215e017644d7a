/- Walks. -/
import Derived.Test.YtgdkfnndbknjpaaGreatMT2
set_option linter.all false
namespace Go.R
open Go Go.Proofs
set_option linter.unusedVariables false
set_option linter.unusedSimpArgs false
set_option maxHeartbeats 8000000
/- slices.SortFunc[[]impl.Atom,impl.Atom] -/
def d3h:a0n :=
 (.seq (.reg (tm 5 (.t 0) (tq 6 (.len (.t 5)) (tm 4 (.t 6) .done))))
 (.reg (tm 7 (.t 0) (tm 8 (.t 4) (tm 9 (.t 4) (tq 10 (.convI .u64 (.t 9)) (tq 11 (.call 332 [(.t 10)]) (tm 12 (.t 1) (tq 13 (.call 439 [(.t 7),(.c (.int .i64 0)),(.t 8),(.t 11),(.t 12)]) .done)))))))))
theorem d7m:a1c Tryz.prog Tryz.f409 = some (d3h.erase,[],14):=by kernel_rfl
def a2m (x_1:(List o8)):Option (List o8) :=
    (b0a (IntKind.u64.wrap (x_1.length:Int))).bind fun r_3 =>
    (a1v FUEL x_1 0 (x_1.length:Int) r_3).bind fun r_5 =>
    some r_5
theorem a8h (x_1:(List o8)) (r:(List o8)) (hf:a2m x_1 = some r):a1q Tryz.prog true 409 [(.own 0 0 x_1.length),(.fn 286 [])] [.row 3 (x_1.map l7)] (.tup []) [.row 3 (r.map l7)]:=by
 refine a1q.of_awp mixed Tryz.func409 d7m nle ?_;rw [a0h];unfold a2m at hf;unfold d3h;refine (show awp Tryz.prog true 1 _ (ofL [(0,(.own 0 0 x_1.length)),(1,(.fn 286 []))]) [.row 3 (x_1.map l7)] _ from ?_);refine sr<|l9 (.own 0 0 x_1.length) rfl<|a1e (b2l rfl rfl) fun hl2 => l9 (.int .i64 (x_1.length:Int)) rfl<|dk<|a0k<|?_
 obtain ⟨r_3,er4,hf⟩:=ob hf
 obtain ⟨r_5,er6,hf⟩:=ob hf
 refine l9 (.own 0 0 x_1.length) rfl<|l9 (.int .i64 (x_1.length:Int)) rfl<|l9 (.int .i64 (x_1.length:Int)) rfl<|o7 (.int .u64 (IntKind.u64.wrap (x_1.length:Int))) rfl trivial rfl<|x8 (a0g (c1x _ _ er4) rfl (.refl _) rfl)<|l9 (.fn 286 []) rfl<|?_;refine a1e (c4a (v:=(.tup [])) (h2:=[.row 3 (r_5.map l7)]) [] [0] (fun _ => rfl) (a6n FUEL _ _ _ _ _ er6) rfl (.refl _) (.refl _) rfl rfl) fun hl7 => ?_;refine y7 ?_;obtain rfl:=os hf;exact a5j [] [0] rfl trivial rfl (.refl _) (.refl _)

/- slices.Compact[[]impl.Atom,impl.Atom] -/
def d3i:a0n :=
 (.seq (.reg (tm 2 (.c .nil) .done))
 (.seq (.seq (.reg (tm 6 (.t 0) (tq 7 (.len (.t 6)) (tq 8 (.bin .lss (.t 7) (.c (.int .i64 2))) .done))))
 (.cond (.t 8) (.seq (.reg (tm 9 (.t 0) (tm 2 (.t 9) .done)))
 .ret)
 .skip))
 (.seq (.seq (.reg (tm 3 (.c (.int .i64 1)) .done))
 (.block 0 (.loop (.seq (.seq (.reg (tm 10 (.t 3) (tm 11 (.t 0) (tq 12 (.len (.t 11)) (tq 13 (.bin .lss (.t 10) (.t 12)) .done)))))
 (.cond (.t 13) .skip
 (.exit 0)))
 (.seq (.block 1 (.seq (.reg (tm 16 (.t 0) (tm 17 (.t 3) (tq 18 (.iaddr 3 (.t 16) (.t 17)) (tq 19 (.load 3 true (.t 18)) (tm 20 (.t 0) (tm 21 (.t 3) (tq 22 (.bin .sub (.t 21) (.c (.int .i64 1))) (tq 23 (.iaddr 3 (.t 20) (.t 22)) (tq 24 (.load 3 true (.t 23)) (tq 25 (.eqs false [0,0,2] (.t 19) (.t 24)) .done)))))))))))
 (.cond (.t 25) (.seq (.reg (tm 26 (.t 0) (tm 27 (.t 3) (tq 28 (.slice 3 (.t 26) (some (.t 27)) none) (tm 4 (.t 28) .done)))))
 (.seq (.seq (.reg (tm 5 (.c (.int .i64 1)) .done))
 (.block 2 (.loop (.seq (.seq (.reg (tm 29 (.t 5) (tm 30 (.t 4) (tq 31 (.len (.t 30)) (tq 32 (.bin .lss (.t 29) (.t 31)) .done)))))
 (.cond (.t 32) .skip
 (.exit 2)))
 (.seq (.block 3 (.seq (.reg (tm 35 (.t 4) (tm 36 (.t 5) (tq 37 (.iaddr 3 (.t 35) (.t 36)) (tq 38 (.load 3 true (.t 37)) (tm 39 (.t 4) (tm 40 (.t 5) (tq 41 (.bin .sub (.t 40) (.c (.int .i64 1))) (tq 42 (.iaddr 3 (.t 39) (.t 41)) (tq 43 (.load 3 true (.t 42)) (tq 44 (.eqs true [0,0,2] (.t 38) (.t 43)) .done)))))))))))
 (.cond (.t 44) (.seq (.reg (tm 45 (.t 0) (tm 46 (.t 3) (tm 47 (.t 4) (tm 48 (.t 5) (tq 49 (.iaddr 3 (.t 47) (.t 48)) (tq 50 (.load 3 true (.t 49)) (tq 51 (.iaddr 3 (.t 45) (.t 46)) (.q ⟨none,none,.store 3 (.t 51) (.t 50)⟩
 .done)))))))))
 (.reg (tm 52 (.t 3) (tq 53 (.bin .add (.t 52) (.c (.int .i64 1))) (tm 3 (.t 53) .done)))))
 .skip)))
 (.reg (tm 33 (.t 5) (tq 34 (.bin .add (.t 33) (.c (.int .i64 1))) (tm 5 (.t 34) .done)))))))))
 (.cut (.seq (.reg (tm 54 (.t 0) (tm 55 (.t 3) (tq 56 (.slice 3 (.t 54) (some (.t 55)) none) (.q ⟨none,none,.clr 3 (.agg [(.int .i64 0),(.int .i64 0),(.str [])]) (.t 56)⟩
 .done)))))
 (.seq (.reg (tm 57 (.t 0) (tm 58 (.t 3) (tq 59 (.slice 3 (.t 57) none (some (.t 58))) (tm 2 (.t 59) .done)))))
 .ret)))))
 .skip)))
 (.reg (tm 14 (.t 3) (tq 15 (.bin .add (.t 14) (.c (.int .i64 1))) (tm 3 (.t 15) .done)))))))))
 (.cut (.seq (.reg (tm 60 (.t 0) (tm 2 (.t 60) .done)))
 .ret)))))
theorem d7n:a1c Tryz.prog Tryz.f410 = some (d3i.erase,[.mov (.t 2)],61):=by kernel_rfl
def a0q (s_1:(List o8)) (k_235:Nat):Nat → Int → Int → (List o8) → Option (Int × (List o8))
  | 0,_,_,_ => none
  | k + 1,k_439,k2_440,s_441 =>
    if (decide (k2_440 < (((s_1.length - k_235):Nat):Int))) then
    if (0:Int) ≤ k2_440 ∧ k2_440 < (((s_1.length - k_235):Nat):Int) then
    (s_441[(k_235 + k2_440.toNat)]?).bind fun x_461 =>
    if (0:Int) ≤ w64 (k2_440 - 1) ∧ w64 (k2_440 - 1) < (((s_1.length - k_235):Nat):Int) then
    (s_441[(k_235 + (w64 (k2_440 - 1)).toNat)]?).bind fun x_464 =>
    if (!(x_461.Kind == x_464.Kind && (x_461.N == x_464.N && (x_461.T == x_464.T && true)))) then
    if (0:Int) ≤ k2_440 ∧ k2_440 < (((s_1.length - k_235):Nat):Int) then
    if (0:Int) ≤ k_439 ∧ k_439 < (s_441.length:Int) then
    (s_441[(0 + k_439.toNat)]?).bind fun x_469 =>
    a0q s_1 k_235 k (w64 (k_439 + 1)) (w64 (k2_440 + 1)) (s_441.set (0 + k_439.toNat) x_461)
    else none
    else none
    else
    a0q s_1 k_235 k k_439 (w64 (k2_440 + 1)) s_441
    else none
    else none
    else
    some (k_439,s_441)

def a0x (s_1:(List o8)):List o8 → Nat → Option (Fl (List o8) Unit)
  | [],k_235 =>
    some (.go ())
  | x_359 :: xs,k_235 =>
    if k_235 < s_1.length then
    if (0:Int) ≤ w64 ((k_235:Int) - 1) ∧ w64 ((k_235:Int) - 1) < (s_1.length:Int) then
    (s_1[(0 + (w64 ((k_235:Int) - 1)).toNat)]?).bind fun x_364 =>
    if (x_359.Kind == x_364.Kind && (x_359.N == x_364.N && (x_359.T == x_364.T && true))) then
    if (0:Int) ≤ (k_235:Int) ∧ (k_235:Int) ≤ (s_1.length:Int) then
    (a0q s_1 k_235 FUEL (k_235:Int) 1 s_1).bind fun p457 =>
    (match p457 with
    | (k_455,s_456) =>
    if (0:Int) ≤ k_455 ∧ k_455 ≤ (s_456.length:Int) then
    if (0:Int) ≤ k_455 ∧ k_455 ≤ (s_456.length:Int) then
    some (.ret ((s_456.take k_455.toNat ++ List.replicate (s_456.length - k_455.toNat) (⟨0,0,[]⟩:o8) ++ s_456.drop (k_455.toNat + (s_456.length - k_455.toNat))).take k_455.toNat))
    else none
    else none)
    else none
    else
    a0x s_1 xs (k_235 + 1)
    else none
    else none

def a2p (s_1:(List o8)):Option (List o8) :=
    if (decide ((s_1.length:Int) < 2)) then
    some s_1
    else
    (a0x s_1 (s_1.drop 1) 1).bind fun q => (match q with
    | .ret r => some r
    | .go _ =>
    some s_1)
theorem a8p (s_1:(List o8)) (r:(List o8)) (hf:a2p s_1 = some r):a1q Tryz.prog true 410 [(.own 0 0 s_1.length)] [.row 3 (s_1.map l7)] (.own 1 0 r.length) [.dead,.row 3 (r.map l7)]:=by
 refine a1q.of_awp mixed Tryz.func410 d7n nle ?_;rw [a0h];unfold a2p at hf;unfold d3i;refine (show awp Tryz.prog true 1 _ (ofL [(0,(.own 0 0 s_1.length))]) [.row 3 (s_1.map l7)] _ from ?_);refine sr<|l9 .nil rfl<|dk<|o6<|sr<|l9 (.own 0 0 s_1.length) rfl<|a1e (b2l rfl rfl) fun hl2 => o7 (.bool (decide ((s_1.length:Int) < 2))) rfl rfl rfl<|dk<|?_
 rcases oi hf with ⟨c3,hf⟩ | ⟨c3,hf⟩
 ·refine x9 rfl c3<|sr<|l9 (.own 0 0 s_1.length) rfl<|l9 (.own 0 0 s_1.length) rfl<|dk<|a0a<|?_;obtain rfl:=os hf;exact a5j [.mv 0] [0,1] rfl ⟨trivial,trivial⟩ rfl (.refl _) (.refl _)
 ·refine y5 rfl (bf c3)<|a0e<|a0f<|o6<|sr<|l9 (.int .i64 1) rfl<|dk<|?_
  obtain ⟨p352,hb1,hf⟩:=ob hf
  refine a2i (X:={q:Unit // p352 = .go q}) (fun q => ([(0,(.own 0 0 s_1.length))],[.row 3 (s_1.map l7)])) ?_ ?_
  ·refine a1m (X:={q:Nat // a0x s_1 (s_1.drop q) q = some p352}) (fun q => ([(0,(.own 0 0 s_1.length)),(3,(.int .i64 (q.1:Int)))],[.row 3 (s_1.map l7)])) (fun q => s_1.length - q.1) ⟨1,hb1⟩ ⟨[],[0],_,_,rfl,rfl,⟨.refl _,⟨.refl _,trivial⟩⟩,(.refl _)⟩ ?_
   rintro ⟨k_235,hc1⟩
   have hc1:a0x s_1 (s_1.drop k_235) k_235 = some p352:=hc1
   refine (show awp Tryz.prog true 1 _ (ofL [(0,(.own 0 0 s_1.length)),(3,(.int .i64 (k_235:Int)))]) [.row 3 (s_1.map l7)] _ from ?_)
   rcases a5p s_1 k_235 with ⟨hie355,hd358⟩ | ⟨hlt353,x_359,hx354,hd358⟩
   ·rw [hd358,a0x.eq_1] at hc1
    have hq357:=dlf hie355
    refine o6<|sr<|l9 (.int .i64 (k_235:Int)) rfl<|l9 (.own 0 0 s_1.length) rfl<|a1e (b2l rfl rfl) fun hl360 => o7 (.bool (decide ((k_235:Int) < (s_1.length:Int)))) rfl rfl rfl<|dk<|y5 rfl hq357<|a2u<|a2t<|a1x<|a2s<|?_;obtain rfl:=os hc1;exact a3h ⟨_,rfl⟩ ⟨[],[0],_,_,rfl,rfl,⟨.refl _,trivial⟩,(.refl _)⟩
   ·rw [hd358,a0x.eq_2] at hc1
    have hq357:=dlt hlt353
    refine o6<|sr<|l9 (.int .i64 (k_235:Int)) rfl<|l9 (.own 0 0 s_1.length) rfl<|a1e (b2l rfl rfl) fun hl361 => o7 (.bool (decide ((k_235:Int) < (s_1.length:Int)))) rfl rfl rfl<|dk<|x9 rfl hq357<|a0e<|a0f<|o6<|a3c<|sr<|?_
    obtain ⟨g362,hc1⟩:=og hc1
    obtain ⟨g363,hc1⟩:=og hc1
    obtain ⟨x_364,ex365,hc1⟩:=ob hc1
    refine l9 (.own 0 0 s_1.length) rfl<|l9 (.int .i64 (k_235:Int)) rfl<|x8 (c1i rfl rfl g362 rfl rfl)<|x8 (a6j (enc:=l7) (v:=(l7 x_359)) rfl rfl hx354 nle rfl)<|l9 (.own 0 0 s_1.length) rfl<|l9 (.int .i64 (k_235:Int)) rfl<|o7 (.int .i64 (w64 ((k_235:Int) - 1))) rfl rfl rfl<|x8 (a3o rfl rfl g363.1 g363.2 rfl rfl)<|x8 (a6j (enc:=l7) (v:=(l7 x_364)) rfl rfl ex365 nle rfl)<|o7 (.bool (x_359.Kind == x_364.Kind && (x_359.N == x_364.N && (x_359.T == x_364.T && true)))) rfl ⟨⟨rfl,rfl⟩,⟨⟨rfl,rfl⟩,⟨rfl,trivial⟩⟩⟩ rfl<|dk<|?_
    rcases oi hc1 with ⟨d4x,hc1⟩ | ⟨d4x,hc1⟩
    ·refine x9 rfl d4x<|sr<|?_
     obtain ⟨g367,hc1⟩:=og hc1
     refine l9 (.own 0 0 s_1.length) rfl<|l9 (.int .i64 (k_235:Int)) rfl<|x8 (c3y rfl rfl rfl g367.1 g367.2)<|l9 (.own 0 k_235 (s_1.length - k_235)) rfl<|dk<|o6<|sr<|l9 (.int .i64 1) rfl<|dk<|?_
     obtain ⟨p457,hb2,hc1⟩:=ob hc1
     refine a1k ([(0,(.own 0 0 p457.2.length)),(3,(.int .i64 p457.1))],[.row 3 (p457.2.map l7)]) ?_ ?_
     ·refine a1m (X:={q:(Nat × Int × Int × (List o8)) // a0q s_1 k_235 q.1 q.2.1 q.2.2.1 q.2.2.2 = some p457}) (fun q => ([(0,(.own 0 0 q.1.2.2.2.length)),(3,(.int .i64 q.1.2.1)),(4,(.own 0 k_235 (s_1.length - k_235))),(5,(.int .i64 q.1.2.2.1))],[.row 3 (q.1.2.2.2.map l7)])) (fun q => q.1.1) ⟨(FUEL,(k_235:Int),1,s_1),hb2⟩ ⟨[],[0],_,_,rfl,rfl,⟨.refl _,⟨.refl _,⟨.refl _,⟨.refl _,trivial⟩⟩⟩⟩,(.refl _)⟩ ?_
      rintro ⟨⟨k,k_439,k2_440,s_441⟩,hc2⟩
      have hc2:a0q s_1 k_235 k k_439 k2_440 s_441 = some p457:=hc2
      refine (show awp Tryz.prog true 1 _ (ofL [(0,(.own 0 0 s_441.length)),(3,(.int .i64 k_439)),(4,(.own 0 k_235 (s_1.length - k_235))),(5,(.int .i64 k2_440))]) [.row 3 (s_441.map l7)] _ from ?_)
      rcases k with _ | k
      ·rw [a0q.eq_1] at hc2
       cases hc2
      ·rw [a0q.eq_2] at hc2;refine o6<|sr<|l9 (.int .i64 k2_440) rfl<|l9 (.own 0 k_235 (s_1.length - k_235)) rfl<|a1e (b2l rfl rfl) fun hl458 => o7 (.bool (decide (k2_440 < (((s_1.length - k_235):Nat):Int)))) rfl rfl rfl<|dk<|?_
       rcases oi hc2 with ⟨c459,hc2⟩ | ⟨c459,hc2⟩
       ·refine x9 rfl c459<|a0e<|a0f<|o6<|a3c<|sr<|?_
        obtain ⟨g460,hc2⟩:=og hc2
        obtain ⟨x_461,ex462,hc2⟩:=ob hc2
        obtain ⟨g463,hc2⟩:=og hc2
        obtain ⟨x_464,ex465,hc2⟩:=ob hc2
        refine l9 (.own 0 k_235 (s_1.length - k_235)) rfl<|l9 (.int .i64 k2_440) rfl<|x8 (a3o rfl rfl g460.1 g460.2 rfl rfl)<|x8 (a6j (enc:=l7) (v:=(l7 x_461)) rfl rfl ex462 nle rfl)<|l9 (.own 0 k_235 (s_1.length - k_235)) rfl<|l9 (.int .i64 k2_440) rfl<|o7 (.int .i64 (w64 (k2_440 - 1))) rfl rfl rfl<|x8 (a3o rfl rfl g463.1 g463.2 rfl rfl)<|x8 (a6j (enc:=l7) (v:=(l7 x_464)) rfl rfl ex465 nle rfl)<|o7 (.bool (!(x_461.Kind == x_464.Kind && (x_461.N == x_464.N && (x_461.T == x_464.T && true))))) rfl ⟨⟨rfl,rfl⟩,⟨⟨rfl,rfl⟩,⟨rfl,trivial⟩⟩⟩ rfl<|dk<|?_
        rcases oi hc2 with ⟨c466,hc2⟩ | ⟨c466,hc2⟩
        ·refine x9 rfl c466<|sr<|?_
         obtain ⟨g467,hc2⟩:=og hc2
         obtain ⟨g468,hc2⟩:=og hc2
         obtain ⟨x_469,ex470,hc2⟩:=ob hc2
         refine l9 (.own 0 0 s_441.length) rfl<|l9 (.int .i64 k_439) rfl<|l9 (.own 0 k_235 (s_1.length - k_235)) rfl<|l9 (.int .i64 k2_440) rfl<|x8 (a3o rfl rfl g467.1 g467.2 rfl rfl)<|x8 (a6j (enc:=l7) (v:=(l7 x_461)) rfl rfl ex462 nle rfl)<|x8 (a3o rfl rfl g468.1 g468.2 rfl rfl)<|?_;refine a3w (b0k (v':=(l7 x_461)) (e':=x_461) rfl rfl ex470 rfl rfl rfl (by decide) (fun _ => by decide) ⟨rfl,nle⟩ (.refl _) rfl) ?_;refine dk<|a0k<|l9 (.int .i64 k_439) rfl<|o7 (.int .i64 (w64 (k_439 + 1))) rfl rfl rfl<|l9 (.int .i64 (w64 (k_439 + 1))) rfl<|y7<|a2c<|a0f<|a0k<|l9 (.int .i64 k2_440) rfl<|o7 (.int .i64 (w64 (k2_440 + 1))) rfl rfl rfl<|?_
         refine l9 (.int .i64 (w64 (k2_440 + 1))) rfl<|y7<|?_;exact a1t ⟨(k,w64 (k_439 + 1),w64 (k2_440 + 1),s_441.set (0 + k_439.toNat) x_461),hc2⟩ (Nat.lt_succ_self _) ⟨[],[0],_,_,rfl,rfl,⟨.of_eq (congrArg (AV.own _ 0) (by simp)),⟨.refl _,⟨.refl _,⟨.refl _,trivial⟩⟩⟩⟩,(.refl _)⟩
        ·refine y5 rfl (bf c466)<|a0e<|a2c<|a0f<|a0k<|l9 (.int .i64 k2_440) rfl<|o7 (.int .i64 (w64 (k2_440 + 1))) rfl rfl rfl<|l9 (.int .i64 (w64 (k2_440 + 1))) rfl<|y7<|?_;exact a1t ⟨(k,k_439,w64 (k2_440 + 1),s_441),hc2⟩ (Nat.lt_succ_self _) ⟨[],[0],_,_,rfl,rfl,⟨.refl _,⟨.refl _,⟨.refl _,⟨.refl _,trivial⟩⟩⟩⟩,(.refl _)⟩
       ·refine y5 rfl (bf c459)<|a2u<|a2t<|a1x<|a2s<|?_;obtain rfl:=os hc2;exact ⟨[],[0],_,_,rfl,rfl,⟨.refl _,⟨.refl _,trivial⟩⟩,(.refl _)⟩
     ·obtain ⟨k_455,s_456⟩:=p457
      refine sr<|?_
      obtain ⟨g471,hc1⟩:=og hc1
      refine l9 (.own 0 0 s_456.length) rfl<|l9 (.int .i64 k_455) rfl<|x8 (c3y rfl rfl rfl g471.1 g471.2)<|a3w (e0d (enc:=l7) (y:=(⟨0,0,[]⟩:o8)) rfl rfl (.refl _) rfl)<|dk<|sr<|?_
      obtain ⟨g472,hc1⟩:=og hc1
      refine l9 (.own 0 0 s_456.length) rfl<|l9 (.int .i64 k_455) rfl<|x8 (c3x rfl rfl rfl g472.1 g472.2)<|l9 (.own 0 0 k_455.toNat) rfl<|dk<|a0a<|?_;obtain rfl:=os hc1;obtain rfl:=os hf;exact a5j [.trim 2] [0,1] rfl ⟨trivial,trivial⟩ rfl ((.cons (.refl _) (.cons ((LeO.tk (enc:=l7) (s_456.take k_455.toNat ++ List.replicate (s_456.length - k_455.toNat) (⟨0,0,[]⟩:o8) ++ s_456.drop (k_455.toNat + (s_456.length - k_455.toNat))) _)) .nil))) (.of_eq (congrArg (AV.own _ 0) (by simp)))
    ·refine y5 rfl (bf d4x)<|a0e<|a2c<|a0f<|a0k<|l9 (.int .i64 (k_235:Int)) rfl<|o7 (.int .i64 (w64 ((k_235:Int) + 1))) rfl rfl rfl<|l9 (.int .i64 (w64 ((k_235:Int) + 1))) rfl<|y7<|?_;exact a1t ⟨(k_235 + 1),hc1⟩ (mul hlt353) ⟨[],[0],_,_,rfl,rfl,⟨.refl _,⟨.of_eq (congrArg (AV.int _) (a1w hlt353 hl361)),trivial⟩⟩,(.refl _)⟩
  ·rintro ⟨_,rfl⟩
   refine sr<|l9 (.own 0 0 s_1.length) rfl<|l9 (.own 0 0 s_1.length) rfl<|dk<|a0a<|?_;obtain rfl:=os hf;exact a5j [.mv 0] [0,1] rfl ⟨trivial,trivial⟩ rfl (.refl _) (.refl _)

/- impl.setOf -/
def e5e:a0n :=
 (.seq (.reg (tm 2 (.c .nil) .done))
 (.seq (.reg (tm 4 (.t 0) (tq 5 (.call 303 [(.t 4)]) (tm 3 (.t 5) .done))))
 (.seq (.reg (tm 6 (.t 3) (tq 7 (.call 409 [(.t 6),(.c (.fn 286 []))]) .done)))
 (.seq (.reg (tm 8 (.t 3) (tq 9 (.call 410 [(.t 8)]) (tm 2 (.t 9) .done))))
 .ret))))
theorem e5f:a1c Tryz.prog Tryz.f352 = some (e5e.erase,[.mov (.t 2)],10):=by kernel_rfl
def b1x (list_1:(List o8)):Option (List o8) :=
    (a1s list_1).bind fun r_2 =>
    (a2m r_2).bind fun r_4 =>
    (a2p r_4).bind fun r_7 =>
    some r_7
theorem b9g (list_1:(List o8)) (r:(List o8)) (hf:b1x list_1 = some r):y8 Tryz.prog 352 .fresh [(.lst 3 (list_1.map l7))] (.lst 3 (r.map l7)):=by
 refine y8.of_awp mixed Tryz.func352 e5f nle ?_;rw [a0h];unfold b1x at hf;unfold e5e;refine (show awp Tryz.prog true 0 _ (ofL [(0,(.lst 3 (list_1.map l7)))]) [] _ from ?_);refine sr<|l9 .nil rfl<|dk<|sr<|?_
 obtain ⟨r_2,er3,hf⟩:=ob hf
 refine l9 (.lst 3 (list_1.map l7)) rfl<|x8 (b1e (v:=(.own 0 0 r_2.length)) (h':=[.row 3 (r_2.map l7)]) (a5l _ _ er3) rfl (.refl _) (by simp only [a4h,a5o,List.length_map,List.nil_append,List.append_nil,List.cons_append];rfl))<|l9 (.own 0 0 r_2.length) rfl<|dk<|sr<|?_
 obtain ⟨r_4,er5,hf⟩:=ob hf
 refine l9 (.own 0 0 r_2.length) rfl ?_;refine a1e (c4a (v:=(.tup [])) (h2:=[.row 3 (r_4.map l7)]) [] [0] (fun _ => rfl) (a8h _ _ er5) rfl (.refl _) (.refl _) rfl rfl) fun hl6 => ?_;refine dk<|sr<|?_
 obtain ⟨r_7,er8,hf⟩:=ob hf
 refine l9 (.own 0 0 r_2.length) rfl ?_;refine x8 (a3m (v:=(.own 1 0 r_7.length)) (h2:=[.dead,.row 3 (r_7.map l7)]) [] [0] (fun _ => rfl) (a8p _ _ er8) rfl (.cons (.of_eq (congrArg (AV.own _ 0) (by have h:=(hl6 0 _ _ _ _ rfl rfl);simpa using h.symm))) .nil) (.refl _) rfl rfl) ?_;refine l9 (.own 1 0 r_7.length) rfl<|dk<|a0a<|?_;obtain rfl:=os hf;exact a4r ⟨trivial,trivial⟩ rfl (by decide) (.of_eq (congrArg (AV.lst _) (tk (enc:=l7) r_7)))

/- slices.Index[[]impl.Atom,impl.Atom] -/
def e5g:a0n :=
 (.seq (.reg (tq 3 (.box 3 (.t 1)) (tm 4 (.c (.int .i64 0)) .done)))
 (.seq (.seq (.reg (tm 6 (.t 0) (tq 7 (.len (.t 6)) (tm 8 (.c (.int .i64 0)) .done))))
 (.block 0 (.loop (.seq (.reg (tq 9 (.bin .lss (.t 8) (.t 7)) .done))
 (.seq (.cond (.t 9) .skip
 (.exit 0))
 (.seq (.block 1 (.seq (.reg (tm 10 (.t 8) (tm 5 (.t 10) .done)))
 (.seq (.reg (tq 11 (.load 3 true (.t 3)) (tm 12 (.t 0) (tm 13 (.t 5) (tq 14 (.iaddr 3 (.t 12) (.t 13)) (tq 15 (.load 3 true (.t 14)) (tq 16 (.eqs false [0,0,2] (.t 11) (.t 15)) .done)))))))
 (.cond (.t 16) (.seq (.reg (tm 17 (.t 5) (tm 4 (.t 17) .done)))
 .ret)
 .skip))))
 (.reg (tq 18 (.bin .add (.t 8) (.c (.int .i64 1))) (tm 8 (.t 18) .done)))))))))
 (.cut (.seq (.reg (tq 4 (.mov (.c (.int .i64 (-1)))) .done))
 .ret))))
theorem e5h:a1c Tryz.prog Tryz.f394 = some (e5g.erase,[.mov (.t 4)],19):=by kernel_rfl
def a1a (v_2:o8):List o8 → Nat → Option (Fl Int Unit)
  | [],s8_13 =>
    some (.go ())
  | x_25 :: xs,s8_13 =>
    if (v_2.Kind == x_25.Kind && (v_2.N == x_25.N && (v_2.T == x_25.T && true))) then
    some (.ret (s8_13:Int))
    else
    a1a v_2 xs (s8_13 + 1)

def a4c (s_1:(List o8)) (v_2:o8):Option Int :=
    (a1a v_2 s_1 0).bind fun q => (match q with
    | .ret r => some r
    | .go _ =>
    some (-1))
theorem b0m (s_1:(List o8)) (v_2:o8) (r:Int) (hf:a4c s_1 v_2 = some r):y8 Tryz.prog 394 .flat [(.lst 3 (s_1.map l7)),(l7 v_2)] (.int .i64 r):=by
 refine y8.of_awp mixed Tryz.func394 e5h nle ?_;rw [a0h];unfold a4c at hf;unfold e5g;refine (show awp Tryz.prog false 0 _ (ofL [(0,(.lst 3 (s_1.map l7))),(1,(l7 v_2))]) [] _ from ?_);refine sr<|x8 (a1o (j:=0) (c:=(.agg [(.int .i64 v_2.Kind),(.int .i64 v_2.N),(.str v_2.T)])) rfl trivial rfl rfl)<|l9 (.int .i64 0) rfl<|dk<|o6<|sr<|l9 (.lst 3 (s_1.map l7)) rfl<|a1e (a1p (enc:=l7) rfl) fun hl3 => l9 (.int .i64 0) rfl<|dk<|?_
 obtain ⟨p18,hb1,hf⟩:=ob hf
 refine a2i (X:={q:Unit // p18 = .go q}) (fun q => ([],[])) ?_ ?_
 ·refine a1m (X:={q:Nat // a1a v_2 (s_1.drop q) q = some p18}) (fun q => ([(0,(.lst 3 (s_1.map l7))),(3,(.ptr 0 0 0)),(7,(.int .i64 (s_1.length:Int))),(8,(.int .i64 (q.1:Int)))],[.box 3 (.agg [(.int .i64 v_2.Kind),(.int .i64 v_2.N),(.str v_2.T)])])) (fun q => s_1.length - q.1) ⟨0,hb1⟩ ⟨[],[0],_,_,rfl,rfl,⟨.refl _,⟨.refl _,⟨.refl _,⟨.refl _,trivial⟩⟩⟩⟩,(.refl _)⟩ ?_
  rintro ⟨s8_13,hc1⟩
  have hc1:a1a v_2 (s_1.drop s8_13) s8_13 = some p18:=hc1
  refine (show awp Tryz.prog false 0 _ (ofL [(0,(.lst 3 (s_1.map l7))),(3,(.ptr 0 0 0)),(7,(.int .i64 (s_1.length:Int))),(8,(.int .i64 (s8_13:Int)))]) [.box 3 (.agg [(.int .i64 v_2.Kind),(.int .i64 v_2.N),(.str v_2.T)])] _ from ?_)
  rcases a5p s_1 s8_13 with ⟨hie21,hd24⟩ | ⟨hlt19,x_25,hx20,hd24⟩
  ·rw [hd24,a1a.eq_1] at hc1
   have hq23:=dlf hie21
   refine sr<|o7 (.bool (decide ((s8_13:Int) < (s_1.length:Int)))) rfl rfl rfl<|dk<|o6<|y5 rfl hq23<|a2u<|a2t<|a1x<|a2s<|?_;obtain rfl:=os hc1;exact a3h ⟨_,rfl⟩ ⟨[],[],_,_,rfl,rfl,trivial,(.refl _)⟩
  ·rw [hd24,a1a.eq_2] at hc1
   have hq23:=dlt hlt19
   refine sr<|o7 (.bool (decide ((s8_13:Int) < (s_1.length:Int)))) rfl rfl rfl<|dk<|o6<|x9 rfl hq23<|a0e<|a0f<|o6<|a3c<|sr<|l9 (.int .i64 (s8_13:Int)) rfl<|l9 (.int .i64 (s8_13:Int)) rfl<|dk<|sr<|o7 (.agg [(.int .i64 v_2.Kind),(.int .i64 v_2.N),(.str v_2.T)]) rfl nle rfl<|l9 (.lst 3 (s_1.map l7)) rfl<|l9 (.int .i64 (s8_13:Int)) rfl<|x8 (a1r (enc:=l7) rfl rfl hx20)<|o7 (l7 x_25) rfl nle rfl<|o7 (.bool (v_2.Kind == x_25.Kind && (v_2.N == x_25.N && (v_2.T == x_25.T && true)))) rfl ⟨⟨rfl,rfl⟩,⟨⟨rfl,rfl⟩,⟨rfl,trivial⟩⟩⟩ rfl<|?_
   refine dk<|?_
   rcases oi hc1 with ⟨c26,hc1⟩ | ⟨c26,hc1⟩
   ·refine x9 rfl c26<|sr<|l9 (.int .i64 (s8_13:Int)) rfl<|l9 (.int .i64 (s8_13:Int)) rfl<|dk<|a0a<|?_;obtain rfl:=os hc1;obtain rfl:=os hf;exact a0d ⟨trivial,trivial⟩ rfl (.refl _)
   ·refine y5 rfl (bf c26)<|a0e<|a2c<|a0f<|a0k<|o7 (.int .i64 (w64 ((s8_13:Int) + 1))) rfl rfl rfl<|l9 (.int .i64 (w64 ((s8_13:Int) + 1))) rfl<|y7<|?_;exact a1t ⟨(s8_13 + 1),hc1⟩ (mul hlt19) ⟨[],[0],_,_,rfl,rfl,⟨.refl _,⟨.refl _,⟨.refl _,⟨.of_eq (congrArg (AV.int _) (a1w hlt19 hl3)),trivial⟩⟩⟩⟩,(.refl _)⟩
 ·rintro ⟨_,rfl⟩
  refine sr<|l9 (.int .i64 (-1)) rfl<|dk<|a0a<|?_;obtain rfl:=os hf;exact a0d ⟨trivial,trivial⟩ rfl (.refl _)

/- slices.Contains[[]impl.Atom,impl.Atom] -/
def e5i:a0n :=
 (.seq (.reg (tq 3 (.box 3 (.t 1)) (tm 4 (.c (.bool false)) .done)))
 (.seq (.reg (tm 5 (.t 0) (tq 6 (.load 3 true (.t 3)) (tq 7 (.call 394 [(.t 5),(.t 6)]) (tq 8 (.bin .geq (.t 7) (.c (.int .i64 0))) (tm 4 (.t 8) .done))))))
 .ret))
theorem e5j:a1c Tryz.prog Tryz.f325 = some (e5i.erase,[.mov (.t 4)],9):=by kernel_rfl
def a2x (s_1:(List o8)) (v_2:o8):Option Bool :=
    (a4c s_1 v_2).bind fun r_3 =>
    some (decide (r_3 ≥ 0))
theorem a9l (s_1:(List o8)) (v_2:o8) (r:Bool) (hf:a2x s_1 v_2 = some r):y8 Tryz.prog 325 .flat [(.lst 3 (s_1.map l7)),(l7 v_2)] (.bool r):=by
  refine y8.of_awp mixed Tryz.func325 e5j nle ?_
  rw [a0h]
  unfold a2x at hf
  unfold e5i
  refine (show awp Tryz.prog false 0 _ (ofL [(0,(.lst 3 (s_1.map l7))),(1,(l7 v_2))]) [] _ from ?_)
  refine o6 ?_
  refine a0k ?_
  refine x8 (a1o (j:=0) (c:=(.agg [(.int .i64 v_2.Kind),(.int .i64 v_2.N),(.str v_2.T)])) rfl trivial rfl rfl) ?_
  refine x8 (a2r (.bool false) rfl) ?_
  refine y7 ?_
  refine a0f ?_
  refine o6 ?_
  refine a0k ?_
  obtain ⟨r_3,er4,hf⟩:=ob hf
  refine x8 (a2r (.lst 3 (s_1.map l7)) rfl) ?_
  refine x8 (o_q (.agg [(.int .i64 v_2.Kind),(.int .i64 v_2.N),(.str v_2.T)]) rfl nle rfl) ?_
  refine x8 (a0g (b0m _ _ _ er4) rfl (.refl _) rfl) ?_
  refine x8 (o_q (.bool (decide (r_3 ≥ 0))) rfl rfl rfl) ?_
  refine x8 (a2r (.bool (decide (r_3 ≥ 0))) rfl) ?_
  refine y7 ?_
  refine a0f ?_
  refine a0a ?_
  obtain rfl:=os hf
  exact a0d ⟨trivial,trivial⟩ rfl (.refl _)

/- impl.less$1 -/
def e5k:a0n :=
 (.seq (.reg (tq 2 (.box 3 (.t 0)) (tm 3 (.c (.bool false)) .done)))
 (.seq (.reg (tq 4 (.load 1 false (.t 1)) (tq 5 (.load 3 true (.t 2)) (tq 6 (.call 325 [(.t 4),(.t 5)]) (tm 3 (.t 6) .done)))))
 .ret))
theorem e5l:a1c Tryz.prog Tryz.f412 = some (e5k.erase,[.mov (.t 3)],7):=by kernel_rfl
def a7q (own_1:o8) (cap_2:(List o8)):Option Bool :=
    (a2x cap_2 own_1).bind fun r_3 =>
    some r_3
theorem b7m (own_1:o8) (cap_2:(List o8)) (r:Bool) (hf:a7q own_1 cap_2 = some r):y8 Tryz.prog 412 .flat [(l7 own_1),(.iptr (.lst 3 (cap_2.map l7)) 0)] (.bool r):=by
  refine y8.of_awp mixed Tryz.func412 e5l nle ?_
  rw [a0h]
  unfold a7q at hf
  unfold e5k
  refine (show awp Tryz.prog false 0 _ (ofL [(0,(l7 own_1)),(1,(.iptr (.lst 3 (cap_2.map l7)) 0))]) [] _ from ?_)
  refine o6 ?_
  refine a0k ?_
  refine x8 (a1o (j:=0) (c:=(.agg [(.int .i64 own_1.Kind),(.int .i64 own_1.N),(.str own_1.T)])) rfl trivial rfl rfl) ?_
  refine x8 (a2r (.bool false) rfl) ?_
  refine y7 ?_
  refine a0f ?_
  refine o6 ?_
  refine a0k ?_
  obtain ⟨r_3,er4,hf⟩:=ob hf
  refine x8 (o_q (.lst 3 (cap_2.map l7)) rfl ⟨rfl,rfl⟩ rfl) ?_
  refine x8 (o_q (.agg [(.int .i64 own_1.Kind),(.int .i64 own_1.N),(.str own_1.T)]) rfl nle rfl) ?_
  refine x8 (a0g (a9l _ _ _ er4) rfl (.refl _) rfl) ?_
  refine x8 (a2r (.bool r_3) rfl) ?_
  refine y7 ?_
  refine a0f ?_
  refine a0a ?_
  obtain rfl:=os hf
  exact a0d ⟨trivial,trivial⟩ rfl (.refl _)

/- slices.DeleteFunc[[]impl.Atom,impl.Atom] -/
def d3j:a0n :=
 (.seq (.reg (tm 4 (.c .nil) .done))
 (.seq (.reg (tm 8 (.t 0) (tm 9 (.t 1) (tq 10 (.call 366 [(.t 8),(.t 9)]) (tm 5 (.t 10) .done)))))
 (.seq (.seq (.reg (tm 11 (.t 5) (tq 12 (.bin .eql (.t 11) (.c (.int .i64 (-1)))) .done)))
 (.cond (.t 12) (.seq (.reg (tm 13 (.t 0) (tm 4 (.t 13) .done)))
 .ret)
 .skip))
 (.seq (.seq (.reg (tm 14 (.t 5) (tq 15 (.bin .add (.t 14) (.c (.int .i64 1))) (tm 6 (.t 15) .done))))
 (.block 0 (.loop (.seq (.seq (.reg (tm 16 (.t 6) (tm 17 (.t 0) (tq 18 (.len (.t 17)) (tq 19 (.bin .lss (.t 16) (.t 18)) .done)))))
 (.cond (.t 19) .skip
 (.exit 0)))
 (.seq (.block 1 (.seq (.reg (tm 22 (.t 0) (tm 23 (.t 6) (tq 24 (.iaddr 3 (.t 22) (.t 23)) (tq 25 (.load 3 true (.t 24)) (tq 7 (.box 3 (.c (.agg [(.int .i64 0),(.int .i64 0),(.str [])]))) (.q ⟨none,none,.store 3 (.t 7) (.t 25)⟩
 .done)))))))
 (.seq (.reg (tm 26 (.t 1) (tq 27 (.load 3 true (.t 7)) (tq 28 (.calv (.t 26) [(.t 27)]) (tq 29 (.not (.t 28)) .done)))))
 (.cond (.t 29) (.seq (.reg (tm 30 (.t 0) (tm 31 (.t 5) (tq 32 (.load 3 true (.t 7)) (tq 33 (.iaddr 3 (.t 30) (.t 31)) (.q ⟨none,none,.store 3 (.t 33) (.t 32)⟩
 .done))))))
 (.reg (tm 34 (.t 5) (tq 35 (.bin .add (.t 34) (.c (.int .i64 1))) (tm 5 (.t 35) .done)))))
 .skip))))
 (.reg (tm 20 (.t 6) (tq 21 (.bin .add (.t 20) (.c (.int .i64 1))) (tm 6 (.t 21) .done)))))))))
 (.cut (.seq (.reg (tm 36 (.t 0) (tm 37 (.t 5) (tq 38 (.slice 3 (.t 36) (some (.t 37)) none) (.q ⟨none,none,.clr 3 (.agg [(.int .i64 0),(.int .i64 0),(.str [])]) (.t 38)⟩
 .done)))))
 (.seq (.reg (tm 39 (.t 0) (tm 40 (.t 5) (tq 41 (.slice 3 (.t 39) none (some (.t 40))) (tm 4 (.t 41) .done)))))
 .ret)))))))
theorem d7o:a1c Tryz.prog Tryz.f268 = some (d3j.erase,[.mov (.t 4)],42):=by kernel_rfl
def a0t (c_2:(List o8)):Nat → Int → Int → (List o8) → Option (Int × (List o8))
  | 0,_,_,_ => none
  | k + 1,i_71,j_72,s_73 =>
    if (decide (j_72 < (s_73.length:Int))) then
    if (0:Int) ≤ j_72 ∧ j_72 < (s_73.length:Int) then
    (s_73[(0 + j_72.toNat)]?).bind fun x_91 =>
    (a7q x_91 c_2).bind fun r_93 =>
    if (!r_93) then
    if (0:Int) ≤ i_71 ∧ i_71 < (s_73.length:Int) then
    (s_73[(0 + i_71.toNat)]?).bind fun x_97 =>
    a0t c_2 k (w64 (i_71 + 1)) (w64 (j_72 + 1)) (s_73.set (0 + i_71.toNat) x_91)
    else none
    else
    a0t c_2 k i_71 (w64 (j_72 + 1)) s_73
    else none
    else
    some (i_71,s_73)

def a2g (s_1:(List o8)) (c_2:(List o8)):Option ((List o8) × (List o8)) :=
    (a2b s_1 (fun a0 => a7q a0 c_2)).bind fun r_3 =>
    if (r_3 == (-1)) then
    some (s_1,c_2)
    else
    (a0t c_2 FUEL r_3 (w64 (r_3 + 1)) s_1).bind fun p87 =>
    (match p87 with
    | (i_85,s_86) =>
    if (0:Int) ≤ i_85 ∧ i_85 ≤ (s_86.length:Int) then
    if (0:Int) ≤ i_85 ∧ i_85 ≤ (s_86.length:Int) then
    some ((s_86.take i_85.toNat ++ List.replicate (s_86.length - i_85.toNat) (⟨0,0,[]⟩:o8) ++ s_86.drop (i_85.toNat + (s_86.length - i_85.toNat))).take i_85.toNat,c_2)
    else none
    else none)
theorem a7x (s_1:(List o8)) (c_2:(List o8)) (r:((List o8) × (List o8))) (hf:a2g s_1 c_2 = some r):a1q Tryz.prog true 268 [(.own 0 0 s_1.length),(.fn 412 [(.ptr 1 0 0)])] [.row 3 (s_1.map l7),.box 1 (.lst 3 (c_2.map l7))] (.own 2 0 r.1.length) [.dead,.box 1 (.lst 3 (r.2.map l7)),.row 3 (r.1.map l7)]:=by
 refine a1q.of_awp mixed Tryz.func268 d7o nle ?_;rw [a0h];unfold a2g at hf;unfold d3j;refine (show awp Tryz.prog true 2 _ (ofL [(0,(.own 0 0 s_1.length)),(1,(.fn 412 [(.ptr 1 0 0)]))]) [.row 3 (s_1.map l7),.box 1 (.lst 3 (c_2.map l7))] _ from ?_);refine sr<|l9 .nil rfl<|dk<|sr<|?_
 obtain ⟨r_3,er4,hf⟩:=ob hf
 refine l9 (.own 0 0 s_1.length) rfl<|l9 (.fn 412 [(.ptr 1 0 0)]) rfl<|?_;refine x8 (a0g (a6i _ _ _ er4 412 [(.iptr (.lst 3 (c_2.map l7)) 0)] (by kernel_rfl) (fun _ _ => rfl) (fun _ => rfl) (fun a0 r h => b7m a0 c_2 r h)) rfl (.cons (.of_eq (congrArg (AV.lst _) (tko s_1))) (.cons (.refl _) .nil)) rfl) ?_;refine l9 (.int .i64 r_3) rfl<|dk<|o6<|sr<|l9 (.int .i64 r_3) rfl<|o7 (.bool (r_3 == (-1))) rfl rfl rfl<|dk<|?_
 rcases oi hf with ⟨c5,hf⟩ | ⟨c5,hf⟩
 ·refine x9 rfl c5<|sr<|l9 (.own 0 0 s_1.length) rfl<|l9 (.own 0 0 s_1.length) rfl<|dk<|a0a<|?_;obtain rfl:=os hf;exact a5j [.mv 0] [0,1,2] rfl ⟨trivial,trivial⟩ rfl (.refl _) (.refl _)
 ·refine y5 rfl (bf c5)<|a0e<|a0f<|o6<|sr<|l9 (.int .i64 r_3) rfl<|o7 (.int .i64 (w64 (r_3 + 1))) rfl rfl rfl<|l9 (.int .i64 (w64 (r_3 + 1))) rfl<|dk<|?_
  obtain ⟨p87,hb1,hf⟩:=ob hf
  refine a1k ([(0,(.own 0 0 p87.2.length)),(5,(.int .i64 p87.1))],[.row 3 (p87.2.map l7),.box 1 (.lst 3 (c_2.map l7))]) ?_ ?_
  ·refine a1m (X:={q:(Nat × Int × Int × (List o8)) // a0t c_2 q.1 q.2.1 q.2.2.1 q.2.2.2 = some p87}) (fun q => ([(0,(.own 0 0 q.1.2.2.2.length)),(1,(.fn 412 [(.ptr 1 0 0)])),(5,(.int .i64 q.1.2.1)),(6,(.int .i64 q.1.2.2.1))],[.row 3 (q.1.2.2.2.map l7),.box 1 (.lst 3 (c_2.map l7))])) (fun q => q.1.1) ⟨(FUEL,r_3,w64 (r_3 + 1),s_1),hb1⟩ ⟨[],[0,1],_,_,rfl,rfl,⟨.refl _,⟨.refl _,⟨.refl _,⟨.refl _,trivial⟩⟩⟩⟩,(.refl _)⟩ ?_
   rintro ⟨⟨k,i_71,j_72,s_73⟩,hc1⟩
   have hc1:a0t c_2 k i_71 j_72 s_73 = some p87:=hc1
   refine (show awp Tryz.prog true 2 _ (ofL [(0,(.own 0 0 s_73.length)),(1,(.fn 412 [(.ptr 1 0 0)])),(5,(.int .i64 i_71)),(6,(.int .i64 j_72))]) [.row 3 (s_73.map l7),.box 1 (.lst 3 (c_2.map l7))] _ from ?_)
   rcases k with _ | k
   ·rw [a0t.eq_1] at hc1
    cases hc1
   ·rw [a0t.eq_2] at hc1;refine o6<|sr<|l9 (.int .i64 j_72) rfl<|l9 (.own 0 0 s_73.length) rfl<|a1e (b2l rfl rfl) fun hl88 => o7 (.bool (decide (j_72 < (s_73.length:Int)))) rfl rfl rfl<|dk<|?_
    rcases oi hc1 with ⟨c89,hc1⟩ | ⟨c89,hc1⟩
    ·refine x9 rfl c89<|a0e<|a0f<|o6<|a3c<|sr<|?_
     obtain ⟨g90,hc1⟩:=og hc1
     obtain ⟨x_91,ex92,hc1⟩:=ob hc1
     refine l9 (.own 0 0 s_73.length) rfl<|l9 (.int .i64 j_72) rfl<|x8 (a3o rfl rfl g90.1 g90.2 rfl rfl)<|x8 (a6j (enc:=l7) (v:=(l7 x_91)) rfl rfl ex92 nle rfl)<|x8 (a1o (j:=2) (c:=(.agg [(.int .i64 0),(.int .i64 0),(.str [])])) rfl trivial rfl rfl)<|a3w (a0v (v:=(.agg [(.int .i64 x_91.Kind),(.int .i64 x_91.N),(.str x_91.T)])) (y':=(.agg [(.int .i64 x_91.Kind),(.int .i64 x_91.N),(.str x_91.T)])) rfl rfl rfl trivial ⟨rfl,nle⟩ ⟨⟨rfl,trivial⟩,⟨⟨rfl,trivial⟩,⟨⟨rfl,trivial⟩,trivial⟩⟩⟩ rfl)<|dk<|sr<|?_
     obtain ⟨r_93,er94,hc1⟩:=ob hc1
     refine l9 (.fn 412 [(.ptr 1 0 0)]) rfl<|o7 (.agg [(.int .i64 x_91.Kind),(.int .i64 x_91.N),(.str x_91.T)]) rfl nle rfl<|x8 (d2u (v:=(.bool r_93)) rfl (by kernel_rfl) (b7m _ _ _ er94) rfl rfl (.refl _) rfl)<|o7 (.bool (!r_93)) rfl trivial rfl<|dk<|?_
     rcases oi hc1 with ⟨c95,hc1⟩ | ⟨c95,hc1⟩
     ·refine x9 rfl c95<|sr<|?_
      obtain ⟨g96,hc1⟩:=og hc1
      obtain ⟨x_97,ex98,hc1⟩:=ob hc1
      refine l9 (.own 0 0 s_73.length) rfl<|l9 (.int .i64 i_71) rfl<|o7 (.agg [(.int .i64 x_91.Kind),(.int .i64 x_91.N),(.str x_91.T)]) rfl nle rfl<|x8 (a3o rfl rfl g96.1 g96.2 rfl rfl)<|?_;refine a3w (b0k (v':=(.agg [(.int .i64 x_91.Kind),(.int .i64 x_91.N),(.str x_91.T)])) (e':=x_91) rfl rfl ex98 rfl rfl rfl (by decide) (fun _ => by decide) ⟨rfl,nle⟩ (.refl _) rfl) ?_;refine dk<|a0k<|l9 (.int .i64 i_71) rfl<|o7 (.int .i64 (w64 (i_71 + 1))) rfl rfl rfl<|l9 (.int .i64 (w64 (i_71 + 1))) rfl<|y7<|a2c<|a0f<|a0k<|l9 (.int .i64 j_72) rfl<|o7 (.int .i64 (w64 (j_72 + 1))) rfl rfl rfl<|l9 (.int .i64 (w64 (j_72 + 1))) rfl<|y7<|?_
      exact a1t ⟨(k,w64 (i_71 + 1),w64 (j_72 + 1),s_73.set (0 + i_71.toNat) x_91),hc1⟩ (Nat.lt_succ_self _) ⟨[],[0,1],_,_,rfl,rfl,⟨.of_eq (congrArg (AV.own _ 0) (by simp)),⟨.refl _,⟨.refl _,⟨.refl _,trivial⟩⟩⟩⟩,(.refl _)⟩
     ·refine y5 rfl (bf c95)<|a0e<|a2c<|a0f<|a0k<|l9 (.int .i64 j_72) rfl<|o7 (.int .i64 (w64 (j_72 + 1))) rfl rfl rfl<|l9 (.int .i64 (w64 (j_72 + 1))) rfl<|y7<|?_;exact a1t ⟨(k,i_71,w64 (j_72 + 1),s_73),hc1⟩ (Nat.lt_succ_self _) ⟨[],[0,1],_,_,rfl,rfl,⟨.refl _,⟨.refl _,⟨.refl _,⟨.refl _,trivial⟩⟩⟩⟩,(.refl _)⟩
    ·refine y5 rfl (bf c89)<|a2u<|a2t<|a1x<|a2s<|?_;obtain rfl:=os hc1;exact ⟨[],[0,1],_,_,rfl,rfl,⟨.refl _,⟨.refl _,trivial⟩⟩,(.refl _)⟩
  ·obtain ⟨i_85,s_86⟩:=p87
   refine sr<|?_
   obtain ⟨g99,hf⟩:=og hf
   refine l9 (.own 0 0 s_86.length) rfl<|l9 (.int .i64 i_85) rfl<|x8 (c3y rfl rfl rfl g99.1 g99.2)<|a3w (e0d (enc:=l7) (y:=(⟨0,0,[]⟩:o8)) rfl rfl (.refl _) rfl)<|dk<|sr<|?_
   obtain ⟨g100,hf⟩:=og hf
   refine l9 (.own 0 0 s_86.length) rfl<|l9 (.int .i64 i_85) rfl<|x8 (c3x rfl rfl rfl g100.1 g100.2)<|l9 (.own 0 0 i_85.toNat) rfl<|dk<|a0a<|?_;obtain rfl:=os hf;exact a5j [.trim 4] [0,1,2] rfl ⟨trivial,trivial⟩ rfl ((.cons (.refl _) (.cons (.refl _) (.cons ((LeO.tk (enc:=l7) (s_86.take i_85.toNat ++ List.replicate (s_86.length - i_85.toNat) (⟨0,0,[]⟩:o8) ++ s_86.drop (i_85.toNat + (s_86.length - i_85.toNat))) _)) .nil)))) (.of_eq (congrArg (AV.own _ 0) (by simp)))

/- impl.less -/
def e5m:a0n :=
 (.seq (.reg (tq 3 (.box 1 (.t 1)) (tm 4 (.c .nil) .done)))
 (.seq (.reg (tm 5 (.t 0) (tq 6 (.call 303 [(.t 5)]) (tq 7 (.mkfn 412 [(.t 3)]) (tq 8 (.call 268 [(.t 6),(.t 7)]) (tm 4 (.t 8) .done))))))
 .ret))
theorem e5n:a1c Tryz.prog Tryz.f354 = some (e5m.erase,[.mov (.t 4)],9):=by kernel_rfl
def b4q (a_1:(List o8)) (b_2:(List o8)):Option (List o8) :=
    (a1s a_1).bind fun r_3 =>
    (a2g r_3 b_2).bind fun r_5 =>
    some r_5.1
theorem d0g (a_1:(List o8)) (b_2:(List o8)) (r:(List o8)) (hf:b4q a_1 b_2 = some r):y8 Tryz.prog 354 .fresh [(.lst 3 (a_1.map l7)),(.lst 3 (b_2.map l7))] (.lst 3 (r.map l7)):=by
 refine y8.of_awp mixed Tryz.func354 e5n nle ?_;rw [a0h];unfold b4q at hf;unfold e5m;refine (show awp Tryz.prog true 0 _ (ofL [(0,(.lst 3 (a_1.map l7))),(1,(.lst 3 (b_2.map l7)))]) [] _ from ?_);refine sr<|x8 (a1o (j:=0) (c:=(.lst 3 (b_2.map l7))) rfl trivial rfl rfl)<|l9 .nil rfl<|dk<|sr<|?_
 obtain ⟨r_3,er4,hf⟩:=ob hf
 obtain ⟨r_5,er6,hf⟩:=ob hf
 refine l9 (.lst 3 (a_1.map l7)) rfl<|x8 (b1e (v:=(.own 1 0 r_3.length)) (h':=[.row 3 (r_3.map l7)]) (a5l _ _ er4) rfl (.refl _) (by simp only [a4h,a5o,List.length_map,List.nil_append,List.append_nil,List.cons_append];rfl))<|o7 (.fn 412 [(.ptr 0 0 0)]) rfl trivial rfl<|?_;refine x8 (a3m (v:=(.own 2 0 r_5.1.length)) (h2:=[.box 1 (.lst 3 (r_5.2.map l7)),.dead,.row 3 (r_5.1.map l7)]) [] [1,0] (fun _ => rfl) (a7x _ _ _ er6) rfl (.refl _) (.refl _) rfl rfl) ?_;refine l9 (.own 2 0 r_5.1.length) rfl<|dk<|a0a<|?_;obtain rfl:=os hf;exact a4r ⟨trivial,trivial⟩ rfl (by decide) (.of_eq (congrArg (AV.lst _) (tk (enc:=l7) r_5.1)))

/- impl.reckon -/
def e5o:a0n :=
 (.seq (.reg (tm 6 (.c (.int .i64 0)) (tm 7 (.c (.int .i64 0)) .done)))
 (.seq (.seq (.reg (tm 9 (.t 2) (tq 10 (.bin .eql (.t 9) (.c (.int .i64 0))) (tm 11 (.t 10) (tg 12 11 true (.mov (.t 0)) (tg 13 11 true (.bin .geq (.t 12) (.c (.int .i64 4))) (tq 14 (.pick (.t 11) (.t 13) (.c (.bool false))) .done)))))))
 (.cut (.cond (.t 14) (.seq (.reg (tm 6 (.c (.int .i64 0)) (tm 7 (.c (.int .i64 4)) .done)))
 .ret)
 .skip)))
 (.seq (.reg (tm 8 (.c (.int .i64 0)) .done))
 (.seq (.seq (.reg (tm 15 (.t 0) .done))
 (.block 0 (.seq (.reg (tq 17 (.bin .eql (.t 15) (.c (.int .i64 1))) (tm 16 (.t 17) .done)))
 (.cond (.t 16) (.reg (tm 18 (.t 1) (tm 19 (.t 2) (tq 20 (.bin .add (.t 18) (.t 19)) (tm 8 (.t 20) .done)))))
 (.seq (.reg (tq 22 (.bin .eql (.t 15) (.c (.int .i64 2))) (tm 21 (.t 22) .done)))
 (.cond (.t 21) (.reg (tm 23 (.t 1) (tm 24 (.t 2) (tq 25 (.bin .sub (.t 23) (.t 24)) (tm 8 (.t 25) .done)))))
 (.seq (.reg (tq 27 (.bin .eql (.t 15) (.c (.int .i64 3))) (tm 26 (.t 27) .done)))
 (.cond (.t 26) (.reg (tm 28 (.t 1) (tm 29 (.t 2) (tq 30 (.bin .mul (.t 28) (.t 29)) (tm 8 (.t 30) .done)))))
 (.seq (.reg (tq 32 (.bin .eql (.t 15) (.c (.int .i64 4))) (tm 31 (.t 32) .done)))
 (.cond (.t 31) (.reg (tm 33 (.t 1) (tm 34 (.t 2) (tq 35 (.bin .quo (.t 33) (.t 34)) (tm 8 (.t 35) .done)))))
 (.seq (.reg (tq 37 (.bin .eql (.t 15) (.c (.int .i64 5))) (tm 36 (.t 37) .done)))
 (.cond (.t 36) (.reg (tm 38 (.t 1) (tm 39 (.t 2) (tq 40 (.bin .rem (.t 38) (.t 39)) (tm 8 (.t 40) .done)))))
 .skip))))))))))))
 (.cut (.seq (.seq (.reg (tm 41 (.t 8) (tq 42 (.call 252 [(.t 41)]) (tq 43 (.not (.t 42)) .done))))
 (.cond (.t 43) (.seq (.reg (tm 6 (.c (.int .i64 0)) (tm 7 (.c (.int .i64 4)) .done)))
 .ret)
 .skip))
 (.seq (.reg (tm 44 (.t 8) (tm 6 (.t 44) (tm 7 (.c (.int .i64 0)) .done))))
 .ret)))))))
theorem e5p:a1c Tryz.prog Tryz.f355 = some (e5o.erase,[.mov (.t 6),.mov (.t 7)],45):=by kernel_rfl
def b2o (f_1:Int) (a_2:Int) (b_3:Int):Option (Int × Int) :=
    ((if (b_3 == 0) then
    some (decide (f_1 ≥ 4))
    else
    some false:Option Bool)).bind fun s14_5 =>
    if s14_5 then
    some (0,4)
    else
    ((if (f_1 == 1) then
    some (w64 (a_2 + b_3))
    else
    if (f_1 == 2) then
    some (w64 (a_2 - b_3))
    else
    if (f_1 == 3) then
    some (w64 (a_2 * b_3))
    else
    if (f_1 == 4) then
    if b_3 ≠ 0 then
    some (w64 (a_2.tdiv b_3))
    else none
    else
    if (f_1 == 5) then
    if b_3 ≠ 0 then
    some (a_2.tmod b_3)
    else none
    else
    some 0:Option Int)).bind fun out_16 =>
    (a6f out_16).bind fun r_25 =>
    if (!r_25) then
    some (0,4)
    else
    some (out_16,0)
theorem c5q (f_1:Int) (a_2:Int) (b_3:Int) (r:(Int × Int)) (hf:b2o f_1 a_2 b_3 = some r):y8 Tryz.prog 355 .flat [(.int .i64 f_1),(.int .i64 a_2),(.int .i64 b_3)] (.tup [(.int .i64 r.1),(.int .i64 r.2)]):=by
 refine y8.of_awp mixed Tryz.func355 e5p nle ?_;rw [a0h];unfold b2o at hf;unfold e5o;refine (show awp Tryz.prog false 0 _ (ofL [(0,(.int .i64 f_1)),(1,(.int .i64 a_2)),(2,(.int .i64 b_3))]) [] _ from ?_);refine sr<|l9 (.int .i64 0) rfl<|l9 (.int .i64 0) rfl<|dk<|o6<|o6<|?_
 obtain ⟨s14_5,hb1,hf⟩:=ob hf
 refine a1k ([(0,(.int .i64 f_1)),(1,(.int .i64 a_2)),(2,(.int .i64 b_3)),(14,(.bool s14_5))],[]) ?_ ?_
 ·refine a0k ?_
  rcases oi hb1 with ⟨c7,hb1⟩ | ⟨c7,hb1⟩
  ·refine l9 (.int .i64 b_3) rfl<|o7 (.bool (b_3 == 0)) rfl rfl rfl<|l9 (.bool (b_3 == 0)) rfl<|a0u (s:=11) (b:=true) rfl c7<|s_on rfl<|l9 (.int .i64 f_1) rfl<|s_on rfl<|o7 (.bool (decide (f_1 ≥ 4))) rfl rfl rfl<|o7 (.bool (decide (f_1 ≥ 4))) rfl trivial rfl<|y7<|?_;obtain rfl:=os hb1;exact ⟨[],[],_,_,rfl,rfl,⟨.refl _,⟨.refl _,⟨.refl _,⟨.refl _,trivial⟩⟩⟩⟩,(.refl _)⟩
  ·refine l9 (.int .i64 b_3) rfl<|o7 (.bool (b_3 == 0)) rfl rfl rfl<|l9 (.bool (b_3 == 0)) rfl<|a0u (s:=11) (b:=false) rfl (bf c7)<|o9 rfl rfl<|o9 rfl rfl<|o7 (.bool false) rfl trivial rfl<|y7<|?_;obtain rfl:=os hb1;exact ⟨[],[],_,_,rfl,rfl,⟨.refl _,⟨.refl _,⟨.refl _,⟨.refl _,trivial⟩⟩⟩⟩,(.refl _)⟩
 ·rcases oi hf with ⟨c8,hf⟩ | ⟨c8,hf⟩
  ·refine x9 rfl c8<|sr<|l9 (.int .i64 0) rfl<|l9 (.int .i64 4) rfl<|dk<|a0a<|?_;obtain rfl:=os hf;exact a0d ⟨trivial,⟨trivial,trivial⟩⟩ rfl (.refl _)
  ·refine y5 rfl (bf c8)<|a0e<|a0f<|sr<|l9 (.int .i64 0) rfl<|dk<|o6<|?_
   obtain ⟨out_16,hb1,hf⟩:=ob hf
   refine a1k ([(8,(.int .i64 out_16))],[]) ?_ ?_
   ·refine sr<|l9 (.int .i64 f_1) rfl<|dk<|a3c<|sr<|o7 (.bool (f_1 == 1)) rfl rfl rfl<|l9 (.bool (f_1 == 1)) rfl<|dk<|?_
    rcases oi hb1 with ⟨c18,hb1⟩ | ⟨c18,hb1⟩
    ·refine x9 rfl c18<|a0k<|l9 (.int .i64 a_2) rfl<|l9 (.int .i64 b_3) rfl<|o7 (.int .i64 (w64 (a_2 + b_3))) rfl rfl rfl<|l9 (.int .i64 (w64 (a_2 + b_3))) rfl<|y7<|a2c<|?_;obtain rfl:=os hb1;exact ⟨[],[],_,_,rfl,rfl,⟨.refl _,trivial⟩,(.refl _)⟩
    ·refine y5 rfl (bf c18)<|sr<|o7 (.bool (f_1 == 2)) rfl rfl rfl<|l9 (.bool (f_1 == 2)) rfl<|dk<|?_
     rcases oi hb1 with ⟨c19,hb1⟩ | ⟨c19,hb1⟩
     ·refine x9 rfl c19<|a0k<|l9 (.int .i64 a_2) rfl<|l9 (.int .i64 b_3) rfl<|o7 (.int .i64 (w64 (a_2 - b_3))) rfl rfl rfl<|l9 (.int .i64 (w64 (a_2 - b_3))) rfl<|y7<|a2c<|?_;obtain rfl:=os hb1;exact ⟨[],[],_,_,rfl,rfl,⟨.refl _,trivial⟩,(.refl _)⟩
     ·refine y5 rfl (bf c19)<|sr<|o7 (.bool (f_1 == 3)) rfl rfl rfl<|l9 (.bool (f_1 == 3)) rfl<|dk<|?_
      rcases oi hb1 with ⟨c20,hb1⟩ | ⟨c20,hb1⟩
      ·refine x9 rfl c20<|a0k<|l9 (.int .i64 a_2) rfl<|l9 (.int .i64 b_3) rfl<|o7 (.int .i64 (w64 (a_2 * b_3))) rfl rfl rfl<|l9 (.int .i64 (w64 (a_2 * b_3))) rfl<|y7<|a2c<|?_;obtain rfl:=os hb1;exact ⟨[],[],_,_,rfl,rfl,⟨.refl _,trivial⟩,(.refl _)⟩
      ·refine y5 rfl (bf c20)<|sr<|o7 (.bool (f_1 == 4)) rfl rfl rfl<|l9 (.bool (f_1 == 4)) rfl<|dk<|?_
       rcases oi hb1 with ⟨c21,hb1⟩ | ⟨c21,hb1⟩
       ·refine x9 rfl c21<|a0k<|?_
        obtain ⟨g22,hb1⟩:=og hb1
        refine l9 (.int .i64 a_2) rfl<|l9 (.int .i64 b_3) rfl<|o7 (.int .i64 (w64 (a_2.tdiv b_3))) rfl ⟨rfl,g22⟩ rfl<|l9 (.int .i64 (w64 (a_2.tdiv b_3))) rfl<|y7<|a2c<|?_;obtain rfl:=os hb1;exact ⟨[],[],_,_,rfl,rfl,⟨.refl _,trivial⟩,(.refl _)⟩
       ·refine y5 rfl (bf c21)<|sr<|o7 (.bool (f_1 == 5)) rfl rfl rfl<|l9 (.bool (f_1 == 5)) rfl<|dk<|?_
        rcases oi hb1 with ⟨c23,hb1⟩ | ⟨c23,hb1⟩
        ·refine x9 rfl c23<|a0k<|?_
         obtain ⟨g24,hb1⟩:=og hb1
         refine l9 (.int .i64 a_2) rfl<|l9 (.int .i64 b_3) rfl<|o7 (.int .i64 (a_2.tmod b_3)) rfl ⟨rfl,g24⟩ rfl<|l9 (.int .i64 (a_2.tmod b_3)) rfl<|y7<|a2c<|?_;obtain rfl:=os hb1;exact ⟨[],[],_,_,rfl,rfl,⟨.refl _,trivial⟩,(.refl _)⟩
        ·refine y5 rfl (bf c23)<|a0e<|a2c<|?_;obtain rfl:=os hb1;exact ⟨[],[],_,_,rfl,rfl,⟨.refl _,trivial⟩,(.refl _)⟩
   ·refine o6<|sr<|?_
    obtain ⟨r_25,er26,hf⟩:=ob hf
    refine l9 (.int .i64 out_16) rfl<|x8 (a0g (a7z _ _ er26) rfl (.refl _) rfl)<|o7 (.bool (!r_25)) rfl trivial rfl<|dk<|?_
    rcases oi hf with ⟨c27,hf⟩ | ⟨c27,hf⟩
    ·refine x9 rfl c27<|sr<|l9 (.int .i64 0) rfl<|l9 (.int .i64 4) rfl<|dk<|a0a<|?_;obtain rfl:=os hf;exact a0d ⟨trivial,⟨trivial,trivial⟩⟩ rfl (.refl _)
    ·refine y5 rfl (bf c27)<|a0e<|a0f<|sr<|l9 (.int .i64 out_16) rfl<|l9 (.int .i64 out_16) rfl<|l9 (.int .i64 0) rfl<|dk<|a0a<|?_;obtain rfl:=os hf;exact a0d ⟨trivial,⟨trivial,trivial⟩⟩ rfl (.refl _)

/- impl.mutate -/
def e5q:a0n :=
 (.seq (.reg (tq 3 (.box 8 (.t 0)) (tq 5 (.box 3 (.t 2)) (tm 6 (.c .nil) (tm 7 (.c (.int .i64 0)) .done)))))
 (.seq (.reg (tq 14 (.bslice 3 []) (tm 8 (.t 14) .done)))
 (.seq (.seq (.reg (tq 15 (.faddr 1 (.t 5)) (tq 16 (.load 1 false (.t 15)) .done)))
 (.block 0 (.seq (.reg (tq 48 (.bin .eql (.t 16) (.c (.int .i64 6))) (tm 47 (.t 48) .done)))
 (.cond (.t 47) (.reg (tm 49 (.t 1) (tq 50 (.faddr 2 (.t 5)) (tq 51 (.load 1 false (.t 50)) (tq 52 (.bslice 1 [(.t 49),(.t 51)]) (tq 53 (.call 353 [(.t 52)]) (tq 54 (.call 352 [(.t 53)]) (tm 8 (.t 54) .done))))))))
 (.seq (.reg (tq 56 (.bin .eql (.t 16) (.c (.int .i64 7))) (tm 55 (.t 56) .done)))
 (.cond (.t 55) (.reg (tm 57 (.t 1) (tq 58 (.faddr 2 (.t 5)) (tq 59 (.load 1 false (.t 58)) (tq 60 (.call 354 [(.t 57),(.t 59)]) (tm 8 (.t 60) .done))))))
 (.seq (.seq (.reg (tm 17 (.t 1) (tq 18 (.len (.t 17)) (tm 19 (.c (.int .i64 0)) .done))))
 (.block 1 (.loop (.seq (.reg (tq 20 (.bin .lss (.t 19) (.t 18)) .done))
 (.seq (.cond (.t 20) .skip
 (.exit 1))
 (.seq (.block 2 (.seq (.reg (tq 21 (.iaddr 3 (.t 17) (.t 19)) (tq 22 (.load 3 true (.t 21)) (tq 10 (.box 3 (.c (.agg [(.int .i64 0),(.int .i64 0),(.str [])]))) (.q ⟨none,none,.store 3 (.t 10) (.t 22)⟩
 .done)))))
 (.seq (.reg (tq 24 (.faddr 1 (.t 5)) (tq 25 (.load 1 false (.t 24)) (tq 26 (.faddr 1 (.t 10)) (tq 27 (.load 1 false (.t 26)) (tq 28 (.faddr 2 (.t 5)) (tq 29 (.load 1 false (.t 28)) (tq 30 (.iaddr 3 (.t 29) (.c (.int .i64 0))) (tq 31 (.faddr 1 (.t 30)) (tq 32 (.load 1 false (.t 31)) (.l ⟨(some 33),none,.call 355 [(.t 25),(.t 27),(.t 32)]⟩ []
 (tm 23 (.t 33) (tq 34 (.extract 0 (.t 23)) (tq 35 (.extract 1 (.t 23)) (tm 11 (.t 34) (tm 12 (.t 35) .done))))) .non)))))))))))
 (.seq (.seq (.reg (tm 36 (.t 12) (tq 37 (.bin .neq (.t 36) (.c (.int .i64 0))) .done)))
 (.cond (.t 37) (.seq (.reg (tm 38 (.t 12) (tm 6 (.c .nil) (tm 7 (.t 38) .done))))
 .ret)
 .skip))
 (.reg (tm 39 (.t 8) (tm 40 (.t 11) (tq 41 (.build [(.int .i64 0),(.int .i64 0),(.str [])] [(0,1,(.c (.int .i64 1))),(1,1,(.t 40))]) (tq 42 (.bslice 3 [(.t 41)]) (tq 43 (.append 3 32 (.t 39) (.t 42)) (tm 8 (.t 43) .done)))))))))))
 (.reg (tq 44 (.bin .add (.t 19) (.c (.int .i64 1))) (tm 19 (.t 44) .done)))))))))
 (.cut (.reg (tm 45 (.t 8) (tq 46 (.call 352 [(.t 45)]) (tm 8 (.t 46) .done))))))))))))
 (.cut (.seq (.seq (.reg (tq 61 (.load 8 true (.t 3)) (tm 62 (.t 8) (tq 63 (.call 259 [(.t 61),(.t 62)]) (tm 13 (.t 63) .done)))))
 (.seq (.reg (tm 64 (.t 13) (tq 65 (.bin .neq (.t 64) (.c (.int .i64 0))) .done)))
 (.cond (.t 65) (.seq (.reg (tm 66 (.t 13) (tm 6 (.c .nil) (tm 7 (.t 66) .done))))
 .ret)
 .skip)))
 (.seq (.reg (tm 67 (.t 8) (tm 6 (.t 67) (tm 7 (.c (.int .i64 0)) .done))))
 .ret))))))
theorem e5r:a1c Tryz.prog Tryz.f255 = some (e5q.erase,[.mov (.t 6),.mov (.t 7)],68):=by kernel_rfl
def a4t (m_3:a2w):List o8 → (List o8) → Option (Fl ((List o8) × Int) (List o8))
  | [],out_93 =>
    some (.go out_93)
  | x_111 :: xs,out_93 =>
    (idx m_3.Value 0).bind fun x_112 =>
    (b2o m_3.Func x_111.N x_112.N).bind fun r_114 =>
    if (r_114.2 != 0) then
    some (.ret ([],r_114.2))
    else
    if (out_93 ++ [(⟨1,r_114.1,[]⟩:o8)]).length ≤ 2 ^ 30 then
    a4t m_3 xs  (out_93 ++ [(⟨1,r_114.1,[]⟩:o8)])
    else none

def a8x (c_1:a0m) (d_2:(List o8)) (m_3:a2w):Option ((List o8) × Int) :=
    ((if (m_3.Func == 6) then
    (a3f [d_2,m_3.Value]).bind fun r_64 =>
    (b1x r_64).bind fun r_66 =>
    some (.go r_66)
    else
    if (m_3.Func == 7) then
    (b4q d_2 m_3.Value).bind fun r_69 =>
    some (.go r_69)
    else
    (a4t m_3 d_2 []).bind fun q => (match q with
    | .ret r => some (.ret r)
    | .go out_103 =>
    (b1x out_103).bind fun r_118 =>
    some (.go r_118)):Option (Fl ((List o8) × Int) (List o8)))).bind fun q => (match q with
    | .ret r => some r
    | .go out_61 =>
    (a6t c_1 out_61).bind fun r_120 =>
    if (r_120 != 0) then
    some ([],r_120)
    else
    some (out_61,0))
theorem c5r (c_1:a0m) (d_2:(List o8)) (m_3:a2w) (r:((List o8) × Int)) (hf:a8x c_1 d_2 m_3 = some r):y8 Tryz.prog 255 .weak [(o5 c_1),(.lst 3 (d_2.map l7)),(a0c m_3)] (.tup [(.lst 3 (r.1.map l7)),(.int .i64 r.2)]):=by
 refine y8.of_awp mixed Tryz.func255 e5r nle ?_;rw [a0h];unfold a8x at hf;unfold e5q;refine (show awp Tryz.prog false 0 _ (ofL [(0,(o5 c_1)),(1,(.lst 3 (d_2.map l7))),(2,(a0c m_3))]) [] _ from ?_);refine sr<|x8 (a1o (j:=0) (c:=(.agg [(.str c_1.Name),(.int .i64 c_1.Kind),(.int .i64 c_1.Min),(.int .i64 c_1.Max),(.int .i64 c_1.Low),(.int .i64 c_1.High),(.str c_1.Ref),(.bool c_1.Strong)])) rfl trivial rfl rfl)<|x8 (a1o (j:=1) (c:=(.agg [(.str m_3.Column),(.int .i64 m_3.Func),(.lst 3 (m_3.Value.map l7))])) rfl trivial rfl rfl)<|l9 .nil rfl<|l9 (.int .i64 0) rfl<|dk<|sr<|?_;refine x8 (a1z (j:=2) (as':=[]) rfl (fun _ => by decide) trivial (.refl _) rfl rfl rfl) ?_
 refine l9 (.own 2 0 0) rfl<|dk<|o6<|?_
 obtain ⟨p62,hb1,hf⟩:=ob hf
 refine a2i (X:={q:(List o8) // p62 = .go q}) (fun q => ([(3,(.ptr 0 0 0)),(8,(.lst 3 (q.1.map l7)))],[.box 8 (.agg [(.str c_1.Name),(.int .i64 c_1.Kind),(.int .i64 c_1.Min),(.int .i64 c_1.Max),(.int .i64 c_1.Low),(.int .i64 c_1.High),(.str c_1.Ref),(.bool c_1.Strong)])])) ?_ ?_
 ·refine sr<|o7 (.ptr 1 0 1) rfl trivial rfl<|o7 (.int .i64 m_3.Func) rfl nle rfl<|dk<|a3c<|sr<|o7 (.bool (m_3.Func == 6)) rfl rfl rfl<|l9 (.bool (m_3.Func == 6)) rfl<|dk<|?_
  rcases oi hb1 with ⟨c63,hb1⟩ | ⟨c63,hb1⟩
  ·refine x9 rfl c63<|a0k<|?_
   obtain ⟨r_64,er65,hb1⟩:=ob hb1
   obtain ⟨r_66,er67,hb1⟩:=ob hb1
   refine l9 (.lst 3 (d_2.map l7)) rfl<|o7 (.ptr 1 0 2) rfl trivial rfl<|o7 (.lst 3 (m_3.Value.map l7)) rfl nle rfl<|?_;refine x8 (a1z (j:=3) (as':=[(.lst 3 (d_2.map l7)),(.lst 3 (m_3.Value.map l7))]) rfl (fun _ => by decide) ⟨rfl,⟨rfl,trivial⟩⟩ (.refl _) rfl rfl rfl) ?_;refine x8 (b2e rfl (a9z _ _ er65) rfl (.cons (.of_eq (congrArg (AV.lst _) (by rfl))) .nil) rfl)<|x8 (b2e rfl (b9g _ _ er67) rfl (.refl _) rfl)<|l9 (.lst 3 (r_66.map l7)) rfl<|y7<|a2c<|?_;obtain rfl:=os hb1;exact a3h ⟨_,rfl⟩ ⟨[],[0],_,_,rfl,rfl,⟨.refl _,⟨.refl _,trivial⟩⟩,(.refl _)⟩
  ·refine y5 rfl (bf c63)<|sr<|o7 (.bool (m_3.Func == 7)) rfl rfl rfl<|l9 (.bool (m_3.Func == 7)) rfl<|dk<|?_
   rcases oi hb1 with ⟨c68,hb1⟩ | ⟨c68,hb1⟩
   ·refine x9 rfl c68<|a0k<|?_
    obtain ⟨r_69,er70,hb1⟩:=ob hb1
    refine l9 (.lst 3 (d_2.map l7)) rfl<|o7 (.ptr 1 0 2) rfl trivial rfl<|o7 (.lst 3 (m_3.Value.map l7)) rfl nle rfl<|x8 (b2e rfl (d0g _ _ _ er70) rfl (.refl _) rfl)<|l9 (.lst 3 (r_69.map l7)) rfl<|y7<|a2c<|?_;obtain rfl:=os hb1;exact a3h ⟨_,rfl⟩ ⟨[],[0],_,_,rfl,rfl,⟨.refl _,⟨.refl _,trivial⟩⟩,(.refl _)⟩
   ·refine y5 rfl (bf c68)<|o6<|sr<|l9 (.lst 3 (d_2.map l7)) rfl<|a1e (a1p (enc:=l7) rfl) fun hl71 => l9 (.int .i64 0) rfl<|dk<|?_
    obtain ⟨p104,hb2,hb1⟩:=ob hb1
    refine a2i (X:={q:(List o8) // p104 = .go q}) (fun q => ([(3,(.ptr 0 0 0)),(8,(.own 1 0 q.1.length))],[.box 8 (.agg [(.str c_1.Name),(.int .i64 c_1.Kind),(.int .i64 c_1.Min),(.int .i64 c_1.Max),(.int .i64 c_1.Low),(.int .i64 c_1.High),(.str c_1.Ref),(.bool c_1.Strong)]),.row 3 (q.1.map l7)])) ?_ ?_
    ·refine a1m (X:={q:(Nat × (List o8)) // a4t m_3 (d_2.drop q.1) q.2 = some p104}) (fun q => ([(3,(.ptr 0 0 0)),(5,(.ptr 1 0 0)),(8,(.own 2 0 q.1.2.length)),(17,(.lst 3 (d_2.map l7))),(18,(.int .i64 (d_2.length:Int))),(19,(.int .i64 (q.1.1:Int)))],[.box 8 (.agg [(.str c_1.Name),(.int .i64 c_1.Kind),(.int .i64 c_1.Min),(.int .i64 c_1.Max),(.int .i64 c_1.Low),(.int .i64 c_1.High),(.str c_1.Ref),(.bool c_1.Strong)]),.box 3 (.agg [(.str m_3.Column),(.int .i64 m_3.Func),(.lst 3 (m_3.Value.map l7))]),.row 3 (q.1.2.map l7)])) (fun q => d_2.length - q.1.1) ⟨(0,[]),hb2⟩ ⟨[],[0,1,2],_,_,rfl,rfl,⟨.refl _,⟨.refl _,⟨.of_eq (congrArg (AV.own _ 0) (by simp)),⟨.refl _,⟨.refl _,⟨.refl _,trivial⟩⟩⟩⟩⟩⟩,(.refl _)⟩ ?_
     rintro ⟨⟨s19_92,out_93⟩,hc2⟩
     have hc2:a4t m_3 (d_2.drop s19_92) out_93 = some p104:=hc2
     refine (show awp Tryz.prog false 0 _ (ofL [(3,(.ptr 0 0 0)),(5,(.ptr 1 0 0)),(8,(.own 2 0 out_93.length)),(17,(.lst 3 (d_2.map l7))),(18,(.int .i64 (d_2.length:Int))),(19,(.int .i64 (s19_92:Int)))]) [.box 8 (.agg [(.str c_1.Name),(.int .i64 c_1.Kind),(.int .i64 c_1.Min),(.int .i64 c_1.Max),(.int .i64 c_1.Low),(.int .i64 c_1.High),(.str c_1.Ref),(.bool c_1.Strong)]),.box 3 (.agg [(.str m_3.Column),(.int .i64 m_3.Func),(.lst 3 (m_3.Value.map l7))]),.row 3 (out_93.map l7)] _ from ?_)
     rcases a5p d_2 s19_92 with ⟨hie107,hd110⟩ | ⟨hlt105,x_111,hx106,hd110⟩
     ·rw [hd110,a4t.eq_1] at hc2
      have hq109:=dlf hie107
      refine sr<|o7 (.bool (decide ((s19_92:Int) < (d_2.length:Int)))) rfl rfl rfl<|dk<|o6<|y5 rfl hq109<|a2u<|a2t<|a1x<|a2s<|?_;obtain rfl:=os hc2;exact a3h ⟨_,rfl⟩ ⟨[],[0,2],_,_,rfl,rfl,⟨.refl _,⟨.refl _,trivial⟩⟩,(.refl _)⟩
     ·rw [hd110,a4t.eq_2] at hc2
      have hq109:=dlt hlt105
      refine sr<|o7 (.bool (decide ((s19_92:Int) < (d_2.length:Int)))) rfl rfl rfl<|dk<|o6<|x9 rfl hq109<|a0e<|a0f<|o6<|a3c<|sr<|x8 (a1r (enc:=l7) rfl rfl hx106)<|o7 (l7 x_111) rfl nle rfl<|x8 (a1o (j:=3) (c:=(.agg [(.int .i64 0),(.int .i64 0),(.str [])])) rfl trivial rfl rfl)<|a3w (a0v (v:=(.agg [(.int .i64 x_111.Kind),(.int .i64 x_111.N),(.str x_111.T)])) (y':=(.agg [(.int .i64 x_111.Kind),(.int .i64 x_111.N),(.str x_111.T)])) rfl rfl rfl trivial ⟨rfl,nle⟩ ⟨⟨rfl,trivial⟩,⟨⟨rfl,trivial⟩,⟨⟨rfl,trivial⟩,trivial⟩⟩⟩ rfl)<|dk<|sr<|o7 (.ptr 1 0 1) rfl trivial rfl<|?_
      refine o7 (.int .i64 m_3.Func) rfl nle rfl<|o7 (.ptr 3 0 1) rfl trivial rfl<|o7 (.int .i64 x_111.N) rfl nle rfl<|o7 (.ptr 1 0 2) rfl trivial rfl<|o7 (.lst 3 (m_3.Value.map l7)) rfl nle rfl<|?_
      obtain ⟨x_112,ex113,hc2⟩:=ob hc2
      refine x8 (a3l (enc:=l7) rfl rfl (a8m ex113) (a8n ex113))<|o7 (.iptr (l7 x_112) 1) rfl trivial rfl<|o7 (.int .i64 x_112.N) rfl nle rfl<|?_
      obtain ⟨r_114,er115,hc2⟩:=ob hc2
      refine a2j (a0g (c5q _ _ _ _ er115) rfl (.refl _) rfl) a6a trivial<|l9 (.tup [(.int .i64 r_114.1),(.int .i64 r_114.2)]) rfl<|o7 (.int .i64 r_114.1) rfl nle rfl<|o7 (.int .i64 r_114.2) rfl nle rfl<|l9 (.int .i64 r_114.1) rfl<|l9 (.int .i64 r_114.2) rfl<|dk<|o6<|sr<|l9 (.int .i64 r_114.2) rfl<|o7 (.bool (r_114.2 != 0)) rfl rfl rfl<|dk<|?_
      rcases oi hc2 with ⟨c116,hc2⟩ | ⟨c116,hc2⟩
      ·refine x9 rfl c116<|sr<|l9 (.int .i64 r_114.2) rfl<|l9 .nil rfl<|l9 (.int .i64 r_114.2) rfl<|dk<|a0a<|?_;obtain rfl:=os hc2;obtain rfl:=os hb1;obtain rfl:=os hf;exact b1u ⟨trivial,⟨trivial,trivial⟩⟩ rfl (.tup (.cons (.nil _) (.cons (.refl _) .nil)))
      ·refine y5 rfl (bf c116)<|a0e<|a0f<|a0k<|?_
       obtain ⟨g117,hc2⟩:=og hc2
       refine l9 (.own 2 0 out_93.length) rfl<|l9 (.int .i64 r_114.1) rfl<|o7 (.agg [(.int .i64 1),(.int .i64 r_114.1),(.str [])]) rfl ⟨⟨rfl,nle,trivial⟩,⟨⟨rfl,nle,trivial⟩,trivial⟩⟩ rfl<|?_;refine x8 (a1z (j:=4) (as':=[(l7 (⟨1,r_114.1,[]⟩:o8))]) rfl (fun _ => by decide) ⟨rfl,trivial⟩ (.refl _) rfl rfl rfl) ?_
       refine x8 (a8d (j:=5) (L:=((out_93 ++ [(⟨1,r_114.1,[]⟩:o8)]).map l7)) (len:=(out_93 ++ [(⟨1,r_114.1,[]⟩:o8)]).length) rfl rfl (c4b (enc:=l7) out_93 [(⟨1,r_114.1,[]⟩:o8)] _ (by rfl)) (by simp <;> omega) g117 rfl rfl) ?_
       refine l9 (.own 5 0 ((out_93 ++ [(⟨1,r_114.1,[]⟩:o8)]).length)) rfl<|y7<|a2c<|a0f<|a0k<|o7 (.int .i64 (w64 ((s19_92:Int) + 1))) rfl rfl rfl<|l9 (.int .i64 (w64 ((s19_92:Int) + 1))) rfl<|y7<|?_;exact a1t ⟨((s19_92 + 1),out_93 ++ [(⟨1,r_114.1,[]⟩:o8)]),hc2⟩ (mul hlt105) ⟨[],[0,1,5],_,_,rfl,rfl,⟨.refl _,⟨.refl _,⟨.refl _,⟨.refl _,⟨.refl _,⟨.of_eq (congrArg (AV.int _) (a1w hlt105 hl71)),trivial⟩⟩⟩⟩⟩⟩,(.refl _)⟩
    ·rintro ⟨out_103,rfl⟩
     refine a0k ?_
     obtain ⟨r_118,er119,hb1⟩:=ob hb1
     refine l9 (.own 1 0 out_103.length) rfl<|x8 (b2e rfl (b9g _ _ er119) rfl (.cons (.of_eq (congrArg (AV.lst _) (tko out_103))) .nil) rfl)<|l9 (.lst 3 (r_118.map l7)) rfl<|y7<|a2c<|?_;obtain rfl:=os hb1;exact a3h ⟨_,rfl⟩ ⟨[],[0],_,_,rfl,rfl,⟨.refl _,⟨.refl _,trivial⟩⟩,(.refl _)⟩
 ·rintro ⟨out_61,rfl⟩
  refine o6<|sr<|?_
  obtain ⟨r_120,er121,hf⟩:=ob hf
  refine o7 (.agg [(.str c_1.Name),(.int .i64 c_1.Kind),(.int .i64 c_1.Min),(.int .i64 c_1.Max),(.int .i64 c_1.Low),(.int .i64 c_1.High),(.str c_1.Ref),(.bool c_1.Strong)]) rfl nle rfl<|l9 (.lst 3 (out_61.map l7)) rfl<|x8 (a0g (b3s _ _ _ er121) rfl (.refl _) rfl)<|l9 (.int .i64 r_120) rfl<|dk<|sr<|l9 (.int .i64 r_120) rfl<|o7 (.bool (r_120 != 0)) rfl rfl rfl<|dk<|?_
  rcases oi hf with ⟨d4r,hf⟩ | ⟨d4r,hf⟩
  ·refine x9 rfl d4r<|sr<|l9 (.int .i64 r_120) rfl<|l9 .nil rfl<|l9 (.int .i64 r_120) rfl<|dk<|a0a<|?_;obtain rfl:=os hf;exact b1u ⟨trivial,⟨trivial,trivial⟩⟩ rfl (.tup (.cons (.nil _) (.cons (.refl _) .nil)))
  ·refine y5 rfl (bf d4r)<|a0e<|a0f<|sr<|l9 (.lst 3 (out_61.map l7)) rfl<|l9 (.lst 3 (out_61.map l7)) rfl<|l9 (.int .i64 0) rfl<|dk<|a0a<|?_;obtain rfl:=os hf;exact b1u ⟨trivial,⟨trivial,trivial⟩⟩ rfl (.refl _)

/- impl.mutateRow -/
def c127:a0n :=
 (.seq (.reg (tq 3 (.box 4 (.t 0)) (tq 4 (.box 2 (.t 1)) (tq 6 (.box 2 (.c (.agg [(.int .i64 0),.nil]))) (tm 7 (.c (.int .i64 0)) .done)))))
 (.seq (.reg (tq 14 (.load 2 true (.t 4)) (tq 15 (.call 186 [(.t 14)]) (tq 8 (.box 2 (.c (.agg [(.int .i64 0),.nil]))) (.q ⟨none,none,.store 2 (.t 8) (.t 15)⟩
 .done)))))
 (.seq (.seq (.reg (tm 16 (.t 2) (tq 17 (.len (.t 16)) (tm 18 (.c (.int .i64 0)) .done))))
 (.block 0 (.loop (.seq (.reg (tq 19 (.bin .lss (.t 18) (.t 17)) .done))
 (.seq (.cond (.t 19) .skip
 (.exit 0))
 (.seq (.block 1 (.seq (.reg (tq 20 (.iaddr 3 (.t 16) (.t 18)) (tq 21 (.load 3 true (.t 20)) (tq 10 (.box 3 (.c (.agg [(.str []),(.int .i64 0),.nil]))) (.q ⟨none,none,.store 3 (.t 10) (.t 21)⟩
 .done)))))
 (.seq (.reg (tq 22 (.load 4 true (.t 3)) (tq 23 (.faddr 0 (.t 10)) (tq 24 (.load 1 false (.t 23)) (tq 25 (.call 254 [(.t 22),(.t 24)]) (tm 11 (.t 25) .done))))))
 (.seq (.reg (tq 27 (.faddr 1 (.t 3)) (tq 28 (.load 1 false (.t 27)) (tm 29 (.t 11) (tq 30 (.iaddr 8 (.t 28) (.t 29)) (tq 31 (.load 8 true (.t 30)) (tq 32 (.faddr 1 (.t 8)) (tq 33 (.load 1 false (.t 32)) (tm 34 (.t 11) (tq 35 (.iaddr 1 (.t 33) (.t 34)) (tq 36 (.load 1 false (.t 35)) (tq 37 (.load 3 true (.t 10)) (.l ⟨(some 38),none,.call 255 [(.t 31),(.t 36),(.t 37)]⟩ []
 (tm 26 (.t 38) (tq 39 (.extract 0 (.t 26)) (tq 40 (.extract 1 (.t 26)) (tm 12 (.t 39) (tm 13 (.t 40) .done))))) .non)))))))))))))
 (.seq (.seq (.reg (tm 41 (.t 13) (tq 42 (.bin .neq (.t 41) (.c (.int .i64 0))) .done)))
 (.cond (.t 42) (.seq (.reg (tq 43 (.build [(.int .i64 0),.nil] []) (tm 44 (.t 13) (.q ⟨none,none,.store 2 (.t 6) (.t 43)⟩
 (tm 7 (.t 44) .done)))))
 .ret)
 .skip))
 (.reg (tq 45 (.faddr 1 (.t 8)) (tq 46 (.load 1 false (.t 45)) (tm 47 (.t 11) (tm 48 (.t 12) (tq 49 (.iaddr 1 (.t 46) (.t 47)) (.q ⟨none,none,.store 1 (.t 49) (.t 48)⟩
 .done))))))))))))
 (.reg (tq 50 (.bin .add (.t 18) (.c (.int .i64 1))) (tm 18 (.t 50) .done)))))))))
 (.cut (.seq (.reg (tq 51 (.load 2 true (.t 8)) (.q ⟨none,none,.store 2 (.t 6) (.t 51)⟩
 (tm 7 (.c (.int .i64 0)) .done))))
 .ret)))))
theorem e5s:a1c Tryz.prog Tryz.f127 = some (c127.erase,[.load 2 true (.t 6),.mov (.t 7)],52):=by kernel_rfl
def a3t (t_1:a0w):List a2w → (List (List o8)) → Option (Fl (a4p × Int) (List (List o8)))
  | [],x_38 =>
    some (.go x_38)
  | x_61 :: xs,x_38 =>
    (a4b t_1 x_61.Column).bind fun r_62 =>
    (idx t_1.Columns r_62).bind fun x_64 =>
    if (0:Int) ≤ r_62 ∧ r_62 < (x_38.length:Int) then
    (x_38[(0 + r_62.toNat)]?).bind fun x_67 =>
    (a8x x_64 x_67 x_61).bind fun r_69 =>
    if (r_69.2 != 0) then
    some (.ret ((⟨0,[]⟩:a4p),r_69.2))
    else
    if (0:Int) ≤ r_62 ∧ r_62 < (x_38.length:Int) then
    a3t t_1 xs  (x_38.set (0 + r_62.toNat) r_69.1)
    else none
    else none

def b1m (t_1:a0w) (r_2:a4p) (list_3:(List a2w)):Option (a4p × Int) :=
    (b1l r_2).bind fun r_4 =>
    (a3t t_1 list_3 r_4.Cells).bind fun q => (match q with
    | .ret r => some r
    | .go x_53 =>
    some ((⟨r_4.Id,x_53⟩:a4p),0))
theorem c0n (t_1:a0w) (r_2:a4p) (list_3:(List a2w)) (r:(a4p × Int)) (hf:b1m t_1 r_2 list_3 = some r):y8 Tryz.prog 127 .weak [(a1b t_1),(a3g r_2),(.lst 3 (list_3.map a0c))] (.tup [(a3g r.1),(.int .i64 r.2)]):=by
 refine y8.of_awp mixed Tryz.func127 e5s nle ?_;rw [a0h];unfold b1m at hf;unfold c127;refine (show awp Tryz.prog false 0 _ (ofL [(0,(a1b t_1)),(1,(a3g r_2)),(2,(.lst 3 (list_3.map a0c)))]) [] _ from ?_);refine sr<|x8 (a1o (j:=0) (c:=(.agg [(.str t_1.Name),(.lst 8 (t_1.Columns.map o5)),(.lst 1 (t_1.Unique.map encI)),(.bool t_1.Root)])) rfl trivial rfl rfl)<|x8 (a1o (j:=1) (c:=(.agg [(.int .i64 r_2.Id),(.lst 1 (r_2.Cells.map (a1n 3 l7)))])) rfl trivial rfl rfl)<|x8 (a1o (j:=2) (c:=(.agg [(.int .i64 0),.nil])) rfl trivial rfl rfl)<|l9 (.int .i64 0) rfl<|dk<|sr<|?_
 obtain ⟨r_4,er5,hf⟩:=ob hf
 refine o7 (.agg [(.int .i64 r_2.Id),(.lst 1 (r_2.Cells.map (a1n 3 l7)))]) rfl nle rfl<|x8 (b1e (v:=(.agg [(.int .i64 r_4.Id),(.own 3 0 r_4.Cells.length)])) (h':=[.row 1 (r_4.Cells.map (a1n 3 l7))]) (c4h _ _ er5) rfl (.refl _) (by simp only [a4h,a5o,List.length_map,b8e,List.nil_append,List.append_nil,List.cons_append];rfl))<|x8 (a1o (j:=4) (c:=(.agg [(.int .i64 0),.nil])) rfl trivial rfl rfl)<|a3w (a0v (v:=(.agg [(.int .i64 r_4.Id),(.own 3 0 r_4.Cells.length)])) (y':=(.agg [(.int .i64 r_4.Id),(.own 3 0 r_4.Cells.length)])) rfl rfl rfl trivial ⟨rfl,nle⟩ ⟨⟨rfl,trivial⟩,⟨⟨rfl,trivial⟩,trivial⟩⟩ rfl)<|dk<|?_
 refine o6<|sr<|l9 (.lst 3 (list_3.map a0c)) rfl<|a1e (a1p (enc:=a0c) rfl) fun hl6 => l9 (.int .i64 0) rfl<|dk<|?_
 obtain ⟨p54,hb1,hf⟩:=ob hf
 refine a2i (X:={q:(List (List o8)) // p54 = .go q}) (fun q => ([(6,(.ptr 0 0 0)),(8,(.ptr 1 0 0))],[.box 2 (.agg [(.int .i64 0),.nil]),.box 2 (.agg [(.int .i64 r_4.Id),(.own 2 0 q.1.length)]),.row 1 (q.1.map (a1n 3 l7))])) ?_ ?_
 ·refine a1m (X:={q:(Nat × (List (List o8))) // a3t t_1 (list_3.drop q.1) q.2 = some p54}) (fun q => ([(3,(.ptr 0 0 0)),(6,(.ptr 1 0 0)),(8,(.ptr 2 0 0)),(16,(.lst 3 (list_3.map a0c))),(17,(.int .i64 (list_3.length:Int))),(18,(.int .i64 (q.1.1:Int)))],[.box 4 (.agg [(.str t_1.Name),(.lst 8 (t_1.Columns.map o5)),(.lst 1 (t_1.Unique.map encI)),(.bool t_1.Root)]),.box 2 (.agg [(.int .i64 0),.nil]),.box 2 (.agg [(.int .i64 r_4.Id),(.own 3 0 q.1.2.length)]),.row 1 (q.1.2.map (a1n 3 l7))])) (fun q => list_3.length - q.1.1) ⟨(0,r_4.Cells),hb1⟩ ⟨[],[0,2,4,3],_,_,rfl,rfl,⟨.refl _,⟨.refl _,⟨.refl _,⟨.refl _,⟨.refl _,⟨.refl _,trivial⟩⟩⟩⟩⟩⟩,(.refl _)⟩ ?_
  rintro ⟨⟨s18_37,x_38⟩,hc1⟩
  have hc1:a3t t_1 (list_3.drop s18_37) x_38 = some p54:=hc1
  refine (show awp Tryz.prog false 0 _ (ofL [(3,(.ptr 0 0 0)),(6,(.ptr 1 0 0)),(8,(.ptr 2 0 0)),(16,(.lst 3 (list_3.map a0c))),(17,(.int .i64 (list_3.length:Int))),(18,(.int .i64 (s18_37:Int)))]) [.box 4 (.agg [(.str t_1.Name),(.lst 8 (t_1.Columns.map o5)),(.lst 1 (t_1.Unique.map encI)),(.bool t_1.Root)]),.box 2 (.agg [(.int .i64 0),.nil]),.box 2 (.agg [(.int .i64 r_4.Id),(.own 3 0 x_38.length)]),.row 1 (x_38.map (a1n 3 l7))] _ from ?_)
  rcases a5p list_3 s18_37 with ⟨hie57,hd60⟩ | ⟨hlt55,x_61,hx56,hd60⟩
  ·rw [hd60,a3t.eq_1] at hc1
   have hq59:=dlf hie57
   refine sr<|o7 (.bool (decide ((s18_37:Int) < (list_3.length:Int)))) rfl rfl rfl<|dk<|o6<|y5 rfl hq59<|a2u<|a2t<|a1x<|a2s<|?_;obtain rfl:=os hc1;exact a3h ⟨_,rfl⟩ ⟨[],[1,2,3],_,_,rfl,rfl,⟨.refl _,⟨.refl _,trivial⟩⟩,(.refl _)⟩
  ·rw [hd60,a3t.eq_2] at hc1
   have hq59:=dlt hlt55
   refine sr<|o7 (.bool (decide ((s18_37:Int) < (list_3.length:Int)))) rfl rfl rfl<|dk<|o6<|x9 rfl hq59<|a0e<|a0f<|o6<|a3c<|sr<|x8 (a1r (enc:=a0c) rfl rfl hx56)<|o7 (a0c x_61) rfl nle rfl<|x8 (a1o (j:=4) (c:=(.agg [(.str []),(.int .i64 0),.nil])) rfl trivial rfl rfl)<|a3w (a0v (v:=(.agg [(.str x_61.Column),(.int .i64 x_61.Func),(.lst 3 (x_61.Value.map l7))])) (y':=(.agg [(.str x_61.Column),(.int .i64 x_61.Func),(.lst 3 (x_61.Value.map l7))])) rfl rfl rfl trivial ⟨rfl,nle⟩ ⟨⟨rfl,trivial⟩,⟨⟨rfl,trivial⟩,⟨⟨rfl,trivial⟩,trivial⟩⟩⟩ rfl)<|dk<|?_
   refine sr<|?_
   obtain ⟨r_62,er63,hc1⟩:=ob hc1
   refine o7 (.agg [(.str t_1.Name),(.lst 8 (t_1.Columns.map o5)),(.lst 1 (t_1.Unique.map encI)),(.bool t_1.Root)]) rfl nle rfl<|o7 (.ptr 4 0 0) rfl trivial rfl<|o7 (.str x_61.Column) rfl nle rfl<|x8 (a0g (a8g _ _ _ er63) rfl (.refl _) rfl)<|l9 (.int .i64 r_62) rfl<|dk<|sr<|o7 (.ptr 0 0 1) rfl trivial rfl<|o7 (.lst 8 (t_1.Columns.map o5)) rfl nle rfl<|l9 (.int .i64 r_62) rfl<|?_
   obtain ⟨x_64,ex65,hc1⟩:=ob hc1
   refine x8 (a3l (enc:=o5) rfl rfl (a8m ex65) (a8n ex65))<|o7 (o5 x_64) rfl nle rfl<|o7 (.ptr 2 0 1) rfl trivial rfl<|o7 (.own 3 0 x_38.length) rfl nle rfl<|l9 (.int .i64 r_62) rfl<|?_
   obtain ⟨g66,hc1⟩:=og hc1
   refine x8 (a3o rfl rfl g66.1 g66.2 rfl rfl) ?_
   obtain ⟨x_67,ex68,hc1⟩:=ob hc1
   refine x8 (a6j (enc:=(a1n 3 l7)) (v:=(.lst 3 (x_67.map l7))) rfl rfl ex68 ⟨rfl,rfl⟩ rfl)<|o7 (.agg [(.str x_61.Column),(.int .i64 x_61.Func),(.lst 3 (x_61.Value.map l7))]) rfl nle rfl<|?_
   obtain ⟨r_69,er70,hc1⟩:=ob hc1
   refine a2j (c8h rfl (c5r _ _ _ _ er70) rfl (.refl _) rfl rfl) a6a trivial<|l9 (.tup [(.lst 3 (r_69.1.map l7)),(.int .i64 r_69.2)]) rfl<|o7 (.lst 3 (r_69.1.map l7)) rfl nle rfl<|o7 (.int .i64 r_69.2) rfl nle rfl<|l9 (.lst 3 (r_69.1.map l7)) rfl<|l9 (.int .i64 r_69.2) rfl<|dk<|o6<|sr<|l9 (.int .i64 r_69.2) rfl<|o7 (.bool (r_69.2 != 0)) rfl rfl rfl<|dk<|?_
   rcases oi hc1 with ⟨c71,hc1⟩ | ⟨c71,hc1⟩
   ·refine x9 rfl c71<|sr<|o7 (.agg [(.int .i64 0),.nil]) rfl trivial rfl<|l9 (.int .i64 r_69.2) rfl<|a3w (a0v (v:=(.agg [(.int .i64 0),.nil])) (y':=(.agg [(.int .i64 0),.nil])) rfl rfl rfl trivial ⟨rfl,nle⟩ ⟨⟨rfl,trivial⟩,⟨⟨rfl,trivial⟩,trivial⟩⟩ rfl)<|l9 (.int .i64 r_69.2) rfl<|dk<|a0a<|?_;obtain rfl:=os hc1;obtain rfl:=os hf;exact b1u ⟨nle,⟨trivial,trivial⟩⟩ rfl (.tup (.cons (.agg (.cons (.refl _) (.cons (.nil _) .nil))) (.cons (.refl _) .nil)))
   ·refine y5 rfl (bf c71)<|a0e<|a0f<|a0k<|?_
    obtain ⟨g72,hc1⟩:=og hc1
    refine o7 (.ptr 2 0 1) rfl trivial rfl<|o7 (.own 3 0 x_38.length) rfl nle rfl<|l9 (.int .i64 r_62) rfl<|l9 (.lst 3 (r_69.1.map l7)) rfl<|x8 (a3o rfl rfl g72.1 g72.2 rfl rfl)<|?_;refine a3w (b0k (v':=(.lst 3 (r_69.1.map l7))) (e':=r_69.1) rfl rfl ex68 rfl rfl rfl (by decide) (fun _ => by decide) ⟨rfl,rfl,rfl⟩ (.refl _) rfl) ?_;refine y7<|a2c<|a0f<|a0k<|o7 (.int .i64 (w64 ((s18_37:Int) + 1))) rfl rfl rfl<|l9 (.int .i64 (w64 ((s18_37:Int) + 1))) rfl<|y7<|?_;exact a1t ⟨((s18_37 + 1),x_38.set (0 + r_62.toNat) r_69.1),hc1⟩ (mul hlt55) ⟨[],[0,1,2,3],_,_,rfl,rfl,⟨.refl _,⟨.refl _,⟨.refl _,⟨.refl _,⟨.refl _,⟨.of_eq (congrArg (AV.int _) (a1w hlt55 hl6)),trivial⟩⟩⟩⟩⟩⟩,(.cons (.refl _) (.cons (.refl _) (.cons (.box (.agg (.cons (.refl _) (.cons (.of_eq (congrArg (AV.own _ 0) (by simp))) .nil)))) (.cons (.refl _) .nil))))⟩
 ·rintro ⟨x_53,rfl⟩
  refine sr<|o7 (.agg [(.int .i64 r_4.Id),(.own 2 0 x_53.length)]) rfl nle rfl<|a3w (a0v (v:=(.agg [(.int .i64 r_4.Id),(.own 2 0 x_53.length)])) (y':=(.agg [(.int .i64 r_4.Id),(.own 2 0 x_53.length)])) rfl rfl rfl trivial ⟨rfl,nle⟩ ⟨⟨rfl,trivial⟩,⟨⟨rfl,trivial⟩,trivial⟩⟩ rfl)<|l9 (.int .i64 0) rfl<|dk<|a0a<|?_;obtain rfl:=os hf;exact b1u ⟨nle,⟨trivial,trivial⟩⟩ rfl (.tup (.cons (.agg (.cons (.refl _) (.cons (.of_eq (congrArg (AV.lst _) (tko (enc:=(a1n 3 l7)) x_53))) .nil))) (.cons (.refl _) .nil)))

/- impl.MutateRow -/
def c34:a0n :=
 (.seq (.reg (tq 3 (.box 4 (.t 0)) (tq 4 (.box 2 (.t 1)) (tq 6 (.box 2 (.c (.agg [(.int .i64 0),.nil]))) (tm 7 (.c (.int .i64 0)) .done)))))
 (.seq (.block 0 (.seq (.reg (tm 10 (.t 2) (tq 11 (.call 125 [(.t 10)]) (tq 12 (.not (.t 11)) (tm 9 (.t 12) .done)))))
 (.cond (.t 9) (.seq (.reg (tq 13 (.build [(.int .i64 0),.nil] []) (.q ⟨none,none,.store 2 (.t 6) (.t 13)⟩
 (tm 7 (.c (.int .i64 2)) .done))))
 .ret)
 (.seq (.reg (tm 15 (.t 2) (tq 16 (.call 112 [(.t 15)]) (tq 17 (.not (.t 16)) (tm 18 (.t 17) (tg 19 18 false (.load 4 true (.t 3)) (tg 20 18 false (.load 2 true (.t 4)) (tg 21 18 false (.call 37 [(.t 19),(.t 20)]) (tg 22 18 false (.not (.t 21)) (tq 23 (.pick (.t 18) (.c (.bool true)) (.t 22)) (tm 14 (.t 23) .done)))))))))))
 (.cut (.cond (.t 14) (.seq (.reg (tq 24 (.build [(.int .i64 0),.nil] []) (.q ⟨none,none,.store 2 (.t 6) (.t 24)⟩
 (tm 7 (.c (.int .i64 1)) .done))))
 .ret)
 .skip))))))
 (.seq (.seq (.reg (tq 25 (.load 4 true (.t 3)) (tm 26 (.t 2) (tq 27 (.call 126 [(.t 25),(.t 26)]) (tm 8 (.t 27) .done)))))
 (.seq (.reg (tm 28 (.t 8) (tq 29 (.bin .neq (.t 28) (.c (.int .i64 0))) .done)))
 (.cond (.t 29) (.seq (.reg (tq 30 (.build [(.int .i64 0),.nil] []) (tm 31 (.t 8) (.q ⟨none,none,.store 2 (.t 6) (.t 30)⟩
 (tm 7 (.t 31) .done)))))
 .ret)
 .skip)))
 (.seq (.reg (tq 32 (.load 4 true (.t 3)) (tq 33 (.load 2 true (.t 4)) (tm 34 (.t 2) (tq 35 (.call 127 [(.t 32),(.t 33),(.t 34)]) (tq 36 (.extract 0 (.t 35)) (tq 37 (.extract 1 (.t 35)) (.q ⟨none,none,.store 2 (.t 6) (.t 36)⟩
 (tm 7 (.t 37) .done)))))))))
 .ret))))
theorem e8g:a1c Tryz.prog Tryz.f34 = some (c34.erase,[.load 2 true (.t 6),.mov (.t 7)],38):=by kernel_rfl
def a8y (t_1:a0w) (r_2:a4p) (list_3:(List a2w)):Option (a4p × Int) :=
    (a7g list_3).bind fun r_4 =>
    if (!r_4) then
    some ((⟨0,[]⟩:a4p),2)
    else
    (((b0u list_3).bind fun r_14 =>
    if (!r_14) then
    some true
    else
    (b0l t_1 r_2).bind fun r_17 =>
    some (!r_17):Option Bool)).bind fun s14_12 =>
    if s14_12 then
    some ((⟨0,[]⟩:a4p),1)
    else
    (a9y t_1 list_3).bind fun r_20 =>
    if (r_20 != 0) then
    some ((⟨0,[]⟩:a4p),r_20)
    else
    (b1m t_1 r_2 list_3).bind fun r_23 =>
    some (r_23.1,r_23.2)
theorem c0o (t_1:a0w) (r_2:a4p) (list_3:(List a2w)) (r:(a4p × Int)) (hf:a8y t_1 r_2 list_3 = some r):y8 Tryz.prog 34 .weak [(a1b t_1),(a3g r_2),(.lst 3 (list_3.map a0c))] (.tup [(a3g r.1),(.int .i64 r.2)]):=by
 refine y8.of_awp mixed Tryz.func34 e8g nle ?_;rw [a0h];unfold a8y at hf;unfold c34;refine (show awp Tryz.prog false 0 _ (ofL [(0,(a1b t_1)),(1,(a3g r_2)),(2,(.lst 3 (list_3.map a0c)))]) [] _ from ?_);refine sr<|x8 (a1o (j:=0) (c:=(.agg [(.str t_1.Name),(.lst 8 (t_1.Columns.map o5)),(.lst 1 (t_1.Unique.map encI)),(.bool t_1.Root)])) rfl trivial rfl rfl)<|x8 (a1o (j:=1) (c:=(.agg [(.int .i64 r_2.Id),(.lst 1 (r_2.Cells.map (a1n 3 l7)))])) rfl trivial rfl rfl)<|x8 (a1o (j:=2) (c:=(.agg [(.int .i64 0),.nil])) rfl trivial rfl rfl)<|l9 (.int .i64 0) rfl<|dk<|o6<|a3c<|sr<|?_
 obtain ⟨r_4,er5,hf⟩:=ob hf
 refine l9 (.lst 3 (list_3.map a0c)) rfl<|x8 (a0g (b5f _ _ er5) rfl (.refl _) rfl)<|o7 (.bool (!r_4)) rfl trivial rfl<|l9 (.bool (!r_4)) rfl<|dk<|?_
 rcases oi hf with ⟨c6,hf⟩ | ⟨c6,hf⟩
 ·refine x9 rfl c6<|sr<|o7 (.agg [(.int .i64 0),.nil]) rfl trivial rfl<|a3w (a0v (v:=(.agg [(.int .i64 0),.nil])) (y':=(.agg [(.int .i64 0),.nil])) rfl rfl rfl trivial ⟨rfl,nle⟩ ⟨⟨rfl,trivial⟩,⟨⟨rfl,trivial⟩,trivial⟩⟩ rfl)<|l9 (.int .i64 2) rfl<|dk<|a0a<|?_;obtain rfl:=os hf;exact b1u ⟨nle,⟨trivial,trivial⟩⟩ rfl (.tup (.cons (.agg (.cons (.refl _) (.cons (.nil _) .nil))) (.cons (.refl _) .nil)))
 ·refine y5 rfl (bf c6)<|o6<|?_
  obtain ⟨s14_12,hb1,hf⟩:=ob hf
  refine a1k ([(2,(.lst 3 (list_3.map a0c))),(3,(.ptr 0 0 0)),(4,(.ptr 1 0 0)),(6,(.ptr 2 0 0)),(14,(.bool s14_12))],[.box 4 (.agg [(.str t_1.Name),(.lst 8 (t_1.Columns.map o5)),(.lst 1 (t_1.Unique.map encI)),(.bool t_1.Root)]),.box 2 (.agg [(.int .i64 r_2.Id),(.lst 1 (r_2.Cells.map (a1n 3 l7)))]),.box 2 (.agg [(.int .i64 0),.nil])]) ?_ ?_
  ·refine a0k ?_
   obtain ⟨r_14,er15,hb1⟩:=ob hb1
   rcases oi hb1 with ⟨c16,hb1⟩ | ⟨c16,hb1⟩
   ·refine l9 (.lst 3 (list_3.map a0c)) rfl<|x8 (a0g (b7l _ _ er15) rfl (.refl _) rfl)<|o7 (.bool (!r_14)) rfl trivial rfl<|l9 (.bool (!r_14)) rfl<|a0u (s:=18) (b:=true) rfl c16<|o9 rfl rfl<|o9 rfl rfl<|o9 rfl rfl<|o9 rfl rfl<|o7 (.bool true) rfl trivial rfl<|l9 (.bool true) rfl<|y7<|?_;obtain rfl:=os hb1;exact ⟨[],[0,1,2],_,_,rfl,rfl,⟨.refl _,⟨.refl _,⟨.refl _,⟨.refl _,⟨.refl _,trivial⟩⟩⟩⟩⟩,(.refl _)⟩
   ·obtain ⟨r_17,er18,hb1⟩:=ob hb1
    refine l9 (.lst 3 (list_3.map a0c)) rfl<|x8 (a0g (b7l _ _ er15) rfl (.refl _) rfl)<|o7 (.bool (!r_14)) rfl trivial rfl<|l9 (.bool (!r_14)) rfl<|a0u (s:=18) (b:=false) rfl (bf c16)<|s_on rfl<|o7 (.agg [(.str t_1.Name),(.lst 8 (t_1.Columns.map o5)),(.lst 1 (t_1.Unique.map encI)),(.bool t_1.Root)]) rfl nle rfl<|s_on rfl<|o7 (.agg [(.int .i64 r_2.Id),(.lst 1 (r_2.Cells.map (a1n 3 l7)))]) rfl nle rfl<|s_on rfl<|x8 (a0g (b5h _ _ _ er18) rfl (.refl _) rfl)<|s_on rfl<|o7 (.bool (!r_17)) rfl trivial rfl<|o7 (.bool (!r_17)) rfl trivial rfl<|l9 (.bool (!r_17)) rfl<|y7<|?_;obtain rfl:=os hb1;exact ⟨[],[0,1,2],_,_,rfl,rfl,⟨.refl _,⟨.refl _,⟨.refl _,⟨.refl _,⟨.refl _,trivial⟩⟩⟩⟩⟩,(.refl _)⟩
  ·rcases oi hf with ⟨c19,hf⟩ | ⟨c19,hf⟩
   ·refine x9 rfl c19<|sr<|o7 (.agg [(.int .i64 0),.nil]) rfl trivial rfl<|a3w (a0v (v:=(.agg [(.int .i64 0),.nil])) (y':=(.agg [(.int .i64 0),.nil])) rfl rfl rfl trivial ⟨rfl,nle⟩ ⟨⟨rfl,trivial⟩,⟨⟨rfl,trivial⟩,trivial⟩⟩ rfl)<|l9 (.int .i64 1) rfl<|dk<|a0a<|?_;obtain rfl:=os hf;exact b1u ⟨nle,⟨trivial,trivial⟩⟩ rfl (.tup (.cons (.agg (.cons (.refl _) (.cons (.nil _) .nil))) (.cons (.refl _) .nil)))
   ·refine y5 rfl (bf c19)<|a0e<|a2c<|a0f<|o6<|sr<|?_
    obtain ⟨r_20,er21,hf⟩:=ob hf
    refine o7 (.agg [(.str t_1.Name),(.lst 8 (t_1.Columns.map o5)),(.lst 1 (t_1.Unique.map encI)),(.bool t_1.Root)]) rfl nle rfl<|l9 (.lst 3 (list_3.map a0c)) rfl<|x8 (a0g (c1w _ _ _ er21) rfl (.refl _) rfl)<|l9 (.int .i64 r_20) rfl<|dk<|sr<|l9 (.int .i64 r_20) rfl<|o7 (.bool (r_20 != 0)) rfl rfl rfl<|dk<|?_
    rcases oi hf with ⟨c22,hf⟩ | ⟨c22,hf⟩
    ·refine x9 rfl c22<|sr<|o7 (.agg [(.int .i64 0),.nil]) rfl trivial rfl<|l9 (.int .i64 r_20) rfl<|a3w (a0v (v:=(.agg [(.int .i64 0),.nil])) (y':=(.agg [(.int .i64 0),.nil])) rfl rfl rfl trivial ⟨rfl,nle⟩ ⟨⟨rfl,trivial⟩,⟨⟨rfl,trivial⟩,trivial⟩⟩ rfl)<|l9 (.int .i64 r_20) rfl<|dk<|a0a<|?_;obtain rfl:=os hf;exact b1u ⟨nle,⟨trivial,trivial⟩⟩ rfl (.tup (.cons (.agg (.cons (.refl _) (.cons (.nil _) .nil))) (.cons (.refl _) .nil)))
    ·refine y5 rfl (bf c22)<|a0e<|a0f<|sr<|?_
     obtain ⟨r_23,er24,hf⟩:=ob hf
     refine o7 (.agg [(.str t_1.Name),(.lst 8 (t_1.Columns.map o5)),(.lst 1 (t_1.Unique.map encI)),(.bool t_1.Root)]) rfl nle rfl<|o7 (.agg [(.int .i64 r_2.Id),(.lst 1 (r_2.Cells.map (a1n 3 l7)))]) rfl nle rfl<|l9 (.lst 3 (list_3.map a0c)) rfl<|x8 (c8h rfl (c0n _ _ _ _ er24) rfl (.refl _) rfl rfl)<|o7 (a3g r_23.1) rfl nle rfl<|o7 (.int .i64 r_23.2) rfl nle rfl<|a3w (a0v (v:=(.agg [(.int .i64 r_23.1.Id),(.lst 1 (r_23.1.Cells.map (a1n 3 l7)))])) (y':=(.agg [(.int .i64 r_23.1.Id),(.lst 1 (r_23.1.Cells.map (a1n 3 l7)))])) rfl rfl rfl trivial ⟨rfl,nle⟩ ⟨⟨rfl,trivial⟩,⟨⟨rfl,trivial⟩,trivial⟩⟩ rfl)<|l9 (.int .i64 r_23.2) rfl<|?_
     refine dk<|a0a<|?_;obtain rfl:=os hf;exact b1u ⟨nle,⟨trivial,trivial⟩⟩ rfl (.refl _)

/- spec.l00Letter -/
def e5t:a0n :=
 (.seq (.reg (tm 2 (.c (.bool false)) .done))
 (.seq (.reg (tm 3 (.t 0) (tq 4 (.bin .geq (.t 3) (.c (.int .u8 97))) (tm 5 (.t 4) (tg 6 5 true (.mov (.t 0)) (tg 7 5 true (.bin .leq (.t 6) (.c (.int .u8 122))) (tq 8 (.pick (.t 5) (.t 7) (.c (.bool false))) (tm 9 (.t 8) (tg 10 9 false (.mov (.t 0)) (tg 11 9 false (.bin .geq (.t 10) (.c (.int .u8 65))) (tg 12 9 false (.mov (.t 11)) (tg 13 12 true (.mov (.t 0)) (tg 14 12 true (.bin .leq (.t 13) (.c (.int .u8 90))) (tg 15 9 false (.pick (.t 12) (.t 14) (.c (.bool false))) (tq 16 (.pick (.t 9) (.c (.bool true)) (.t 15)) (tm 17 (.t 16) (tg 18 17 false (.mov (.t 0)) (tg 19 17 false (.bin .eql (.t 18) (.c (.int .u8 95))) (tq 20 (.pick (.t 17) (.c (.bool true)) (.t 19)) (tm 2 (.t 20) .done))))))))))))))))))))
 .ret))
theorem e5u:a1c Tryz.prog Tryz.f395 = some (e5t.erase,[.mov (.t 2)],21):=by kernel_rfl
def a7p (c_1:Int):Option Bool :=
    some (bif (bif (bif (decide (c_1 ≥ 97)) then (decide (c_1 ≤ 122)) else false) then true else (bif (decide (c_1 ≥ 65)) then (decide (c_1 ≤ 90)) else false)) then true else (c_1 == 95))
theorem b1y (c_1:Int) (r:Bool) (hf:a7p c_1 = some r):y8 Tryz.prog 395 .flat [(.int .u8 c_1)] (.bool r):=by
 refine y8.of_awp mixed Tryz.func395 e5u nle ?_;rw [a0h];unfold a7p at hf;unfold e5t;refine (show awp Tryz.prog false 0 _ (ofL [(0,(.int .u8 c_1))]) [] _ from ?_);refine sr<|l9 (.bool false) rfl<|dk<|sr<|l9 (.int .u8 c_1) rfl<|o7 (.bool (decide (c_1 ≥ 97))) rfl rfl rfl<|l9 (.bool (decide (c_1 ≥ 97))) rfl<|?_;refine s_g (v:=(decide (c_1 ≥ 97))) (.int .u8 c_1) rfl (fun hv => by (try simp only [a0i hv]);exact ⟨rfl,trivial,rfl⟩) ?_;refine s_g (v:=(decide (c_1 ≥ 97))) (.bool (decide (c_1 ≤ 122))) rfl (fun hv => by (try simp only [a0i hv]);exact ⟨rfl,rfl,rfl⟩) ?_;refine a6l (x:=(decide (c_1 ≤ 122))) (y:=false) rfl (fun hv => by (try simp only [a0i hv]);rfl) (fun hv => by (try simp only [a0i hv]);rfl) ?_
 refine l9 (.bool (bif (decide (c_1 ≥ 97)) then (decide (c_1 ≤ 122)) else false)) rfl ?_;refine s_g (v:=(bif (decide (c_1 ≥ 97)) then (decide (c_1 ≤ 122)) else false)) (.int .u8 c_1) rfl (fun hv => by (try simp only [a0i hv]);exact ⟨rfl,trivial,rfl⟩) ?_;refine s_g (v:=(bif (decide (c_1 ≥ 97)) then (decide (c_1 ≤ 122)) else false)) (.bool (decide (c_1 ≥ 65))) rfl (fun hv => by (try simp only [a0i hv]);exact ⟨rfl,rfl,rfl⟩) ?_;refine s_g (v:=(bif (decide (c_1 ≥ 97)) then (decide (c_1 ≤ 122)) else false)) (.bool (decide (c_1 ≥ 65))) rfl (fun hv => by (try simp only [a0i hv]);exact ⟨rfl,trivial,rfl⟩) ?_;refine c1s (v1:=(bif (decide (c_1 ≥ 97)) then (decide (c_1 ≤ 122)) else false)) (b1:=false) (v2:=(decide (c_1 ≥ 65))) (.int .u8 c_1) rfl (fun hv hw => by (try simp only [a0i hv,a0i hw]);exact ⟨rfl,trivial,rfl⟩) ?_
 refine c1s (v1:=(bif (decide (c_1 ≥ 97)) then (decide (c_1 ≤ 122)) else false)) (b1:=false) (v2:=(decide (c_1 ≥ 65))) (.bool (decide (c_1 ≤ 90))) rfl (fun hv hw => by (try simp only [a0i hv,a0i hw]);exact ⟨rfl,rfl,rfl⟩) ?_;refine d9i (v1:=(bif (decide (c_1 ≥ 97)) then (decide (c_1 ≤ 122)) else false)) (b1:=false) (v2:=(decide (c_1 ≥ 65))) (x:=(decide (c_1 ≤ 90))) (y:=false) rfl (fun hv => by (try simp only [a0i hv]);rfl) (fun hv hw => by (try simp only [a0i hv,a0i hw]);rfl) (fun hv hw => by (try simp only [a0i hv,a0i hw]);rfl) ?_;refine a6l (x:=true) (y:=(bif (decide (c_1 ≥ 65)) then (decide (c_1 ≤ 90)) else false)) rfl (fun hv => by (try simp only [a0i hv]);rfl) (fun hv => by (try simp only [a0i hv]);rfl) ?_
 refine l9 (.bool (bif (bif (decide (c_1 ≥ 97)) then (decide (c_1 ≤ 122)) else false) then true else (bif (decide (c_1 ≥ 65)) then (decide (c_1 ≤ 90)) else false))) rfl ?_;refine s_g (v:=(bif (bif (decide (c_1 ≥ 97)) then (decide (c_1 ≤ 122)) else false) then true else (bif (decide (c_1 ≥ 65)) then (decide (c_1 ≤ 90)) else false))) (.int .u8 c_1) rfl (fun hv => by (try simp only [a0i hv]);exact ⟨rfl,trivial,rfl⟩) ?_;refine s_g (v:=(bif (bif (decide (c_1 ≥ 97)) then (decide (c_1 ≤ 122)) else false) then true else (bif (decide (c_1 ≥ 65)) then (decide (c_1 ≤ 90)) else false))) (.bool (c_1 == 95)) rfl (fun hv => by (try simp only [a0i hv]);exact ⟨rfl,rfl,rfl⟩) ?_;refine a6l (x:=true) (y:=(c_1 == 95)) rfl (fun hv => by (try simp only [a0i hv]);rfl) (fun hv => by (try simp only [a0i hv]);rfl) ?_
 refine l9 (.bool (bif (bif (bif (decide (c_1 ≥ 97)) then (decide (c_1 ≤ 122)) else false) then true else (bif (decide (c_1 ≥ 65)) then (decide (c_1 ≤ 90)) else false)) then true else (c_1 == 95))) rfl<|dk<|a0a<|?_;obtain rfl:=os hf;exact a0d ⟨trivial,trivial⟩ rfl (.refl _)

/- spec.l00Digit -/
def e5v:a0n :=
 (.seq (.reg (tm 2 (.c (.bool false)) .done))
 (.seq (.reg (tm 3 (.t 0) (tq 4 (.bin .geq (.t 3) (.c (.int .u8 48))) (tm 5 (.t 4) (tg 6 5 true (.mov (.t 0)) (tg 7 5 true (.bin .leq (.t 6) (.c (.int .u8 57))) (tq 8 (.pick (.t 5) (.t 7) (.c (.bool false))) (tm 2 (.t 8) .done))))))))
 .ret))
theorem e5w:a1c Tryz.prog Tryz.f396 = some (e5v.erase,[.mov (.t 2)],9):=by kernel_rfl
def b0b (c_1:Int):Option Bool :=
    if (decide (c_1 ≥ 48)) then
    some (decide (c_1 ≤ 57))
    else
    some false
theorem c1y (c_1:Int) (r:Bool) (hf:b0b c_1 = some r):y8 Tryz.prog 396 .flat [(.int .u8 c_1)] (.bool r):=by
 refine y8.of_awp mixed Tryz.func396 e5w nle ?_;rw [a0h];unfold b0b at hf;unfold e5v;refine (show awp Tryz.prog false 0 _ (ofL [(0,(.int .u8 c_1))]) [] _ from ?_);refine sr<|l9 (.bool false) rfl<|dk<|sr<|?_
 rcases oi hf with ⟨c2,hf⟩ | ⟨c2,hf⟩
 ·refine l9 (.int .u8 c_1) rfl<|o7 (.bool (decide (c_1 ≥ 48))) rfl rfl rfl<|l9 (.bool (decide (c_1 ≥ 48))) rfl<|a0u (s:=5) (b:=true) rfl c2<|s_on rfl<|l9 (.int .u8 c_1) rfl<|s_on rfl<|o7 (.bool (decide (c_1 ≤ 57))) rfl rfl rfl<|o7 (.bool (decide (c_1 ≤ 57))) rfl trivial rfl<|l9 (.bool (decide (c_1 ≤ 57))) rfl<|dk<|a0a<|?_;obtain rfl:=os hf;exact a0d ⟨trivial,trivial⟩ rfl (.refl _)
 ·refine l9 (.int .u8 c_1) rfl<|o7 (.bool (decide (c_1 ≥ 48))) rfl rfl rfl<|l9 (.bool (decide (c_1 ≥ 48))) rfl<|a0u (s:=5) (b:=false) rfl (bf c2)<|o9 rfl rfl<|o9 rfl rfl<|o7 (.bool false) rfl trivial rfl<|l9 (.bool false) rfl<|dk<|a0a<|?_;obtain rfl:=os hf;exact a0d ⟨trivial,trivial⟩ rfl (.refl _)

/- spec.l00Word -/
def e5x:a0n :=
 (.seq (.reg (tm 2 (.c (.bool false)) .done))
 (.seq (.seq (.reg (tm 4 (.t 0) (tq 5 (.lenS (.t 4)) (tq 6 (.bin .lss (.t 5) (.c (.int .i64 1))) (tm 7 (.t 6) (tg 8 7 false (.mov (.t 0)) (tg 9 7 false (.lenS (.t 8)) (tg 10 7 false (.bin .gtr (.t 9) (.c (.int .i64 40))) (tq 11 (.pick (.t 7) (.c (.bool true)) (.t 10)) (tm 12 (.t 11) (tg 13 12 false (.mov (.t 0)) (tg 14 12 false (.idxs (.t 13) (.c (.int .i64 0))) (tg 15 12 false (.call 395 [(.t 14)]) (tg 16 12 false (.not (.t 15)) (tq 17 (.pick (.t 12) (.c (.bool true)) (.t 16)) .done)))))))))))))))
 (.cut (.cond (.t 17) (.seq (.reg (tm 2 (.c (.bool false)) .done))
 .ret)
 .skip)))
 (.seq (.seq (.reg (tm 3 (.c (.int .i64 1)) .done))
 (.block 0 (.loop (.seq (.seq (.reg (tm 18 (.t 3) (tm 19 (.t 0) (tq 20 (.lenS (.t 19)) (tq 21 (.bin .lss (.t 18) (.t 20)) .done)))))
 (.cond (.t 21) .skip
 (.exit 0)))
 (.seq (.block 1 (.seq (.reg (tm 24 (.t 0) (tm 25 (.t 3) (tq 26 (.idxs (.t 24) (.t 25)) (tq 27 (.call 395 [(.t 26)]) (tq 28 (.not (.t 27)) (tm 29 (.t 28) (tg 30 29 true (.mov (.t 0)) (tg 31 29 true (.mov (.t 3)) (tg 32 29 true (.idxs (.t 30) (.t 31)) (tg 33 29 true (.call 396 [(.t 32)]) (tg 34 29 true (.not (.t 33)) (tq 35 (.pick (.t 29) (.t 34) (.c (.bool false))) .done)))))))))))))
 (.cut (.cond (.t 35) (.seq (.reg (tm 2 (.c (.bool false)) .done))
 .ret)
 .skip))))
 (.reg (tm 22 (.t 3) (tq 23 (.bin .add (.t 22) (.c (.int .i64 1))) (tm 3 (.t 23) .done)))))))))
 (.cut (.seq (.reg (tm 2 (.c (.bool true)) .done))
 .ret)))))
theorem e5y:a1c Tryz.prog Tryz.f329 = some (e5x.erase,[.mov (.t 2)],36):=by kernel_rfl
def a5b :List UInt8 → Option (Fl Bool Unit)
  | [] =>
    some (.go ())
  | x_98 :: xs =>
    (((a7p (x_98.toNat:Int)).bind fun r_108 =>
    if (!r_108) then
    (b0b (x_98.toNat:Int)).bind fun r_111 =>
    some (!r_111)
    else
    some false:Option Bool)).bind fun s35_106 =>
    if s35_106 then
    some (.ret false)
    else
    a5b xs 

def b1n (t_1:Str):Option Bool :=
    ((if (bif (decide ((t_1.length:Int) < 1)) then true else (decide ((t_1.length:Int) > 40))) then
    some true
    else
    (idx t_1 0).bind fun b_14 =>
    (a7p (b_14.toNat:Int)).bind fun r_16 =>
    some (!r_16):Option Bool)).bind fun s17_9 =>
    if s17_9 then
    some false
    else
    (a5b (t_1.drop 1) ).bind fun q => (match q with
    | .ret r => some r
    | .go _ =>
    some true)
theorem c4i (t_1:Str) (r:Bool) (hf:b1n t_1 = some r):y8 Tryz.prog 329 .flat [(.str t_1)] (.bool r):=by
 refine y8.of_awp mixed Tryz.func329 e5y nle ?_;rw [a0h];unfold b1n at hf;unfold e5x;refine (show awp Tryz.prog false 0 _ (ofL [(0,(.str t_1))]) [] _ from ?_);refine sr<|l9 (.bool false) rfl<|dk<|o6<|o6<|?_
 obtain ⟨s17_9,hb1,hf⟩:=ob hf
 refine a1k ([(0,(.str t_1)),(17,(.bool s17_9))],[]) ?_ ?_
 ·refine a0k<|l9 (.str t_1) rfl<|a1e (b3o rfl) fun hl11 => o7 (.bool (decide ((t_1.length:Int) < 1))) rfl rfl rfl<|l9 (.bool (decide ((t_1.length:Int) < 1))) rfl<|?_;refine s_g (v:=(decide ((t_1.length:Int) < 1))) (.str t_1) rfl (fun hv => by (try simp only [a0i hv]);exact ⟨rfl,trivial,rfl⟩) ?_;refine s_g (v:=(decide ((t_1.length:Int) < 1))) (.int .i64 (t_1.length:Int)) rfl (fun hv => by (try simp only [a0i hv]);exact ⟨rfl,trivial,rfl⟩) ?_;refine s_g (v:=(decide ((t_1.length:Int) < 1))) (.bool (decide ((t_1.length:Int) > 40))) rfl (fun hv => by (try simp only [a0i hv]);exact ⟨rfl,rfl,rfl⟩) ?_;refine a6l (x:=true) (y:=(decide ((t_1.length:Int) > 40))) rfl (fun hv => by (try simp only [a0i hv]);rfl) (fun hv => by (try simp only [a0i hv]);rfl) ?_
  refine l9 (.bool (bif (decide ((t_1.length:Int) < 1)) then true else (decide ((t_1.length:Int) > 40)))) rfl ?_
  rcases oi hb1 with ⟨c13,hb1⟩ | ⟨c13,hb1⟩
  ·refine a0u (s:=12) (b:=true) rfl c13<|o9 rfl rfl<|o9 rfl rfl<|o9 rfl rfl<|o9 rfl rfl<|o7 (.bool true) rfl trivial rfl<|y7<|?_;obtain rfl:=os hb1;exact ⟨[],[],_,_,rfl,rfl,⟨.refl _,⟨.refl _,trivial⟩⟩,(.refl _)⟩
  ·refine a0u (s:=12) (b:=false) rfl (bf c13)<|s_on rfl<|l9 (.str t_1) rfl<|s_on rfl<|?_
   obtain ⟨b_14,eb15,hb1⟩:=ob hb1
   refine x8 (c8g rfl rfl (a8m eb15) (a8n eb15))<|s_on rfl<|?_
   obtain ⟨r_16,er17,hb1⟩:=ob hb1
   refine x8 (a0g (b1y _ _ er17) rfl (.refl _) rfl)<|s_on rfl<|o7 (.bool (!r_16)) rfl trivial rfl<|o7 (.bool (!r_16)) rfl trivial rfl<|y7<|?_;obtain rfl:=os hb1;exact ⟨[],[],_,_,rfl,rfl,⟨.refl _,⟨.refl _,trivial⟩⟩,(.refl _)⟩
 ·rcases oi hf with ⟨c18,hf⟩ | ⟨c18,hf⟩
  ·refine x9 rfl c18<|sr<|l9 (.bool false) rfl<|dk<|a0a<|?_;obtain rfl:=os hf;exact a0d ⟨trivial,trivial⟩ rfl (.refl _)
  ·refine y5 rfl (bf c18)<|a0e<|a0f<|o6<|sr<|l9 (.int .i64 1) rfl<|dk<|?_
   obtain ⟨p91,hb1,hf⟩:=ob hf
   refine a2i (X:={q:Unit // p91 = .go q}) (fun q => ([],[])) ?_ ?_
   ·refine a1m (X:={q:Nat // a5b (t_1.drop q)  = some p91}) (fun q => ([(0,(.str t_1)),(3,(.int .i64 (q.1:Int)))],[])) (fun q => t_1.length - q.1) ⟨1,hb1⟩ ⟨[],[],_,_,rfl,rfl,⟨.refl _,⟨.refl _,trivial⟩⟩,(.refl _)⟩ ?_
    rintro ⟨i_66,hc1⟩
    have hc1:a5b (t_1.drop i_66)  = some p91:=hc1
    refine (show awp Tryz.prog false 0 _ (ofL [(0,(.str t_1)),(3,(.int .i64 (i_66:Int)))]) [] _ from ?_)
    rcases a5p t_1 i_66 with ⟨hie94,hd97⟩ | ⟨hlt92,x_98,hx93,hd97⟩
    ·rw [hd97,a5b.eq_1] at hc1
     have hq96:=dlf hie94
     refine o6<|sr<|l9 (.int .i64 (i_66:Int)) rfl<|l9 (.str t_1) rfl<|a1e (b3o rfl) fun hl99 => o7 (.bool (decide ((i_66:Int) < (t_1.length:Int)))) rfl rfl rfl<|dk<|y5 rfl hq96<|a2u<|a2t<|a1x<|a2s<|?_;obtain rfl:=os hc1;exact a3h ⟨_,rfl⟩ ⟨[],[],_,_,rfl,rfl,trivial,(.refl _)⟩
    ·rw [hd97,a5b.eq_2] at hc1
     have hq96:=dlt hlt92
     refine o6<|sr<|l9 (.int .i64 (i_66:Int)) rfl<|l9 (.str t_1) rfl<|a1e (b3o rfl) fun hl100 => o7 (.bool (decide ((i_66:Int) < (t_1.length:Int)))) rfl rfl rfl<|dk<|x9 rfl hq96<|a0e<|a0f<|o6<|a3c<|o6<|?_
     obtain ⟨s35_106,hb2,hc1⟩:=ob hc1
     refine a1k ([(0,(.str t_1)),(3,(.int .i64 (i_66:Int))),(35,(.bool s35_106))],[]) ?_ ?_
     ·refine a0k ?_
      obtain ⟨r_108,er109,hb2⟩:=ob hb2
      rcases oi hb2 with ⟨d4u,hb2⟩ | ⟨d4u,hb2⟩
      ·obtain ⟨r_111,er112,hb2⟩:=ob hb2
       refine l9 (.str t_1) rfl<|l9 (.int .i64 (i_66:Int)) rfl<|x8 (b2d rfl rfl hx93)<|x8 (a0g (b1y _ _ er109) rfl (.refl _) rfl)<|o7 (.bool (!r_108)) rfl trivial rfl<|l9 (.bool (!r_108)) rfl<|a0u (s:=29) (b:=true) rfl d4u<|s_on rfl<|l9 (.str t_1) rfl<|s_on rfl<|l9 (.int .i64 (i_66:Int)) rfl<|s_on rfl<|x8 (b2d rfl rfl hx93)<|s_on rfl<|x8 (a0g (c1y _ _ er112) rfl (.refl _) rfl)<|s_on rfl<|o7 (.bool (!r_111)) rfl trivial rfl<|o7 (.bool (!r_111)) rfl trivial rfl<|y7<|?_;obtain rfl:=os hb2;exact ⟨[],[],_,_,rfl,rfl,⟨.refl _,⟨.refl _,⟨.refl _,trivial⟩⟩⟩,(.refl _)⟩
      ·refine l9 (.str t_1) rfl<|l9 (.int .i64 (i_66:Int)) rfl<|x8 (b2d rfl rfl hx93)<|x8 (a0g (b1y _ _ er109) rfl (.refl _) rfl)<|o7 (.bool (!r_108)) rfl trivial rfl<|l9 (.bool (!r_108)) rfl<|a0u (s:=29) (b:=false) rfl (bf d4u)<|o9 rfl rfl<|o9 rfl rfl<|o9 rfl rfl<|o9 rfl rfl<|o9 rfl rfl<|o7 (.bool false) rfl trivial rfl<|y7<|?_;obtain rfl:=os hb2;exact ⟨[],[],_,_,rfl,rfl,⟨.refl _,⟨.refl _,⟨.refl _,trivial⟩⟩⟩,(.refl _)⟩
     ·rcases oi hc1 with ⟨c113,hc1⟩ | ⟨c113,hc1⟩
      ·refine x9 rfl c113<|sr<|l9 (.bool false) rfl<|dk<|a0a<|?_;obtain rfl:=os hc1;obtain rfl:=os hf;exact a0d ⟨trivial,trivial⟩ rfl (.refl _)
      ·refine y5 rfl (bf c113)<|a0e<|a2c<|a0f<|a0k<|l9 (.int .i64 (i_66:Int)) rfl<|o7 (.int .i64 (w64 ((i_66:Int) + 1))) rfl rfl rfl<|l9 (.int .i64 (w64 ((i_66:Int) + 1))) rfl<|y7<|?_;exact a1t ⟨(i_66 + 1),hc1⟩ (mul hlt92) ⟨[],[],_,_,rfl,rfl,⟨.refl _,⟨.of_eq (congrArg (AV.int _) (a1w hlt92 hl100)),trivial⟩⟩,(.refl _)⟩
   ·rintro ⟨_,rfl⟩
    refine sr<|l9 (.bool true) rfl<|dk<|a0a<|?_;obtain rfl:=os hf;exact a0d ⟨trivial,trivial⟩ rfl (.refl _)

/- spec.NameOK -/
def c210:a0n :=
 (.seq (.reg (tm 2 (.c (.bool false)) .done))
 (.seq (.reg (tm 3 (.t 0) (tq 4 (.call 329 [(.t 3)]) (tm 2 (.t 4) .done))))
 .ret))
theorem e5z:a1c Tryz.prog Tryz.f210 = some (c210.erase,[.mov (.t 2)],5):=by kernel_rfl
def a8z (t_1:Str):Option Bool :=
    (b1n t_1).bind fun r_2 =>
    some r_2
theorem b2g (t_1:Str) (r:Bool) (hf:a8z t_1 = some r):y8 Tryz.prog 210 .flat [(.str t_1)] (.bool r):=by
  refine y8.of_awp mixed Tryz.func210 e5z nle ?_
  rw [a0h]
  unfold a8z at hf
  unfold c210
  refine (show awp Tryz.prog false 0 _ (ofL [(0,(.str t_1))]) [] _ from ?_)
  refine o6 ?_
  refine a0k ?_
  refine x8 (a2r (.bool false) rfl) ?_
  refine y7 ?_
  refine a0f ?_
  refine o6 ?_
  refine a0k ?_
  obtain ⟨r_2,er3,hf⟩:=ob hf
  refine x8 (a2r (.str t_1) rfl) ?_
  refine x8 (a0g (c4i _ _ er3) rfl (.refl _) rfl) ?_
  refine x8 (a2r (.bool r_2) rfl) ?_
  refine y7 ?_
  refine a0f ?_
  refine a0a ?_
  obtain rfl:=os hf
  exact a0d ⟨trivial,trivial⟩ rfl (.refl _)

/- spec.l01In -/
def d4y:a0n :=
 (.seq (.reg (tm 6 (.c (.bool false)) .done))
 (.seq (.reg (tm 7 (.t 1) (tm 8 (.t 0) (tq 9 (.bin .leq (.t 7) (.t 8)) (tm 10 (.t 9) (tg 11 10 true (.mov (.t 0)) (tg 12 10 true (.mov (.t 2)) (tg 13 10 true (.bin .leq (.t 11) (.t 12)) (tq 14 (.pick (.t 10) (.t 13) (.c (.bool false))) (tm 6 (.t 14) .done))))))))))
 .ret))
theorem e6a:a1c Tryz.prog Tryz.f158 = some (d4y.erase,[.mov (.t 6)],15):=by kernel_rfl
def a3r (n_1:Int) (low_2:Int) (high_3:Int):Option Bool :=
    if (decide (low_2 ≤ n_1)) then
    some (decide (n_1 ≤ high_3))
    else
    some false
theorem a3b (n_1:Int) (low_2:Int) (high_3:Int) (r:Bool) (hf:a3r n_1 low_2 high_3 = some r):y8 Tryz.prog 158 .flat [(.int .i64 n_1),(.int .i64 low_2),(.int .i64 high_3)] (.bool r):=by
 refine y8.of_awp mixed Tryz.func158 e6a nle ?_;rw [a0h];unfold a3r at hf;unfold d4y;refine (show awp Tryz.prog false 0 _ (ofL [(0,(.int .i64 n_1)),(1,(.int .i64 low_2)),(2,(.int .i64 high_3))]) [] _ from ?_);refine sr<|l9 (.bool false) rfl<|dk<|sr<|?_
 rcases oi hf with ⟨c4,hf⟩ | ⟨c4,hf⟩
 ·refine l9 (.int .i64 low_2) rfl<|l9 (.int .i64 n_1) rfl<|o7 (.bool (decide (low_2 ≤ n_1))) rfl rfl rfl<|l9 (.bool (decide (low_2 ≤ n_1))) rfl<|a0u (s:=10) (b:=true) rfl c4<|s_on rfl<|l9 (.int .i64 n_1) rfl<|s_on rfl<|l9 (.int .i64 high_3) rfl<|s_on rfl<|o7 (.bool (decide (n_1 ≤ high_3))) rfl rfl rfl<|o7 (.bool (decide (n_1 ≤ high_3))) rfl trivial rfl<|l9 (.bool (decide (n_1 ≤ high_3))) rfl<|dk<|a0a<|?_;obtain rfl:=os hf;exact a0d ⟨trivial,trivial⟩ rfl (.refl _)
 ·refine l9 (.int .i64 low_2) rfl<|l9 (.int .i64 n_1) rfl<|o7 (.bool (decide (low_2 ≤ n_1))) rfl rfl rfl<|l9 (.bool (decide (low_2 ≤ n_1))) rfl<|a0u (s:=10) (b:=false) rfl (bf c4)<|o9 rfl rfl<|o9 rfl rfl<|o9 rfl rfl<|o7 (.bool false) rfl trivial rfl<|l9 (.bool false) rfl<|dk<|a0a<|?_;obtain rfl:=os hf;exact a0d ⟨trivial,trivial⟩ rfl (.refl _)

/- spec.ColumnOK -/
def e6b:a0n :=
 (.seq (.reg (tq 1 (.box 8 (.t 0)) (tm 2 (.c (.bool false)) .done)))
 (.seq (.seq (.reg (tq 3 (.faddr 0 (.t 1)) (tq 4 (.load 1 false (.t 3)) (tq 5 (.call 210 [(.t 4)]) (tq 6 (.not (.t 5)) (tm 7 (.t 6) (tg 8 7 false (.faddr 1 (.t 1)) (tg 9 7 false (.load 1 false (.t 8)) (tg 10 7 false (.call 158 [(.t 9),(.c (.int .i64 1)),(.c (.int .i64 4))]) (tg 11 7 false (.not (.t 10)) (tq 12 (.pick (.t 7) (.c (.bool true)) (.t 11)) (tm 13 (.t 12) (tg 14 13 false (.faddr 2 (.t 1)) (tg 15 13 false (.load 1 false (.t 14)) (tg 16 13 false (.call 158 [(.t 15),(.c (.int .i64 0)),(.c (.int .i64 1))]) (tg 17 13 false (.not (.t 16)) (tq 18 (.pick (.t 13) (.c (.bool true)) (.t 17)) (tm 19 (.t 18) (tg 20 19 false (.faddr 3 (.t 1)) (tg 21 19 false (.load 1 false (.t 20)) (tg 22 19 false (.call 158 [(.t 21),(.c (.int .i64 1)),(.c (.int .i64 8))]) (tg 23 19 false (.not (.t 22)) (tq 24 (.pick (.t 19) (.c (.bool true)) (.t 23)) .done)))))))))))))))))))))))
 (.cut (.cond (.t 24) (.seq (.reg (tm 2 (.c (.bool false)) .done))
 .ret)
 .skip)))
 (.seq (.seq (.reg (tq 25 (.faddr 1 (.t 1)) (tq 26 (.load 1 false (.t 25)) (tq 27 (.bin .eql (.t 26) (.c (.int .i64 1))) .done))))
 (.cond (.t 27) (.seq (.reg (tq 28 (.faddr 4 (.t 1)) (tq 29 (.load 1 false (.t 28)) (tq 30 (.faddr 5 (.t 1)) (tq 31 (.load 1 false (.t 30)) (tq 32 (.call 158 [(.t 29),(.c (.int .i64 (-1000000000))),(.t 31)]) (tm 33 (.t 32) (tg 34 33 true (.faddr 5 (.t 1)) (tg 35 33 true (.load 1 false (.t 34)) (tg 36 33 true (.faddr 4 (.t 1)) (tg 37 33 true (.load 1 false (.t 36)) (tg 38 33 true (.call 158 [(.t 35),(.t 37),(.c (.int .i64 1000000000))]) (tq 39 (.pick (.t 33) (.t 38) (.c (.bool false))) (tm 40 (.t 39) (tg 41 40 true (.faddr 6 (.t 1)) (tg 42 40 true (.load 1 false (.t 41)) (tg 43 40 true (.bin .eql (.t 42) (.c (.str []))) (tq 44 (.pick (.t 40) (.t 43) (.c (.bool false))) (tm 45 (.t 44) (tg 46 45 true (.faddr 7 (.t 1)) (tg 47 45 true (.load 1 false (.t 46)) (tg 48 45 true (.not (.t 47)) (tq 49 (.pick (.t 45) (.t 48) (.c (.bool false))) (tm 2 (.t 49) .done))))))))))))))))))))))))
 .ret)
 .skip))
 (.seq (.seq (.reg (tq 50 (.faddr 4 (.t 1)) (tq 51 (.load 1 false (.t 50)) (tq 52 (.bin .neq (.t 51) (.c (.int .i64 0))) (tm 53 (.t 52) (tg 54 53 false (.faddr 5 (.t 1)) (tg 55 53 false (.load 1 false (.t 54)) (tg 56 53 false (.bin .neq (.t 55) (.c (.int .i64 0))) (tq 57 (.pick (.t 53) (.c (.bool true)) (.t 56)) .done)))))))))
 (.cut (.cond (.t 57) (.seq (.reg (tm 2 (.c (.bool false)) .done))
 .ret)
 .skip)))
 (.seq (.seq (.reg (tq 58 (.faddr 1 (.t 1)) (tq 59 (.load 1 false (.t 58)) (tq 60 (.bin .eql (.t 59) (.c (.int .i64 4))) .done))))
 (.cond (.t 60) (.seq (.reg (tq 61 (.faddr 6 (.t 1)) (tq 62 (.load 1 false (.t 61)) (tq 63 (.call 210 [(.t 62)]) (tm 64 (.t 63) (tg 65 64 true (.faddr 2 (.t 1)) (tg 66 64 true (.load 1 false (.t 65)) (tg 67 64 true (.bin .eql (.t 66) (.c (.int .i64 0))) (tq 68 (.pick (.t 64) (.t 67) (.c (.bool false))) (tm 2 (.t 68) .done))))))))))
 .ret)
 .skip))
 (.seq (.reg (tq 69 (.faddr 6 (.t 1)) (tq 70 (.load 1 false (.t 69)) (tq 71 (.bin .eql (.t 70) (.c (.str []))) (tm 72 (.t 71) (tg 73 72 true (.faddr 7 (.t 1)) (tg 74 72 true (.load 1 false (.t 73)) (tg 75 72 true (.not (.t 74)) (tq 76 (.pick (.t 72) (.t 75) (.c (.bool false))) (tm 2 (.t 76) .done))))))))))
 .ret))))))
theorem e6c:a1c Tryz.prog Tryz.f261 = some (e6b.erase,[.mov (.t 2)],77):=by kernel_rfl
def b0c (c_1:a0m):Option Bool :=
    (((a8z c_1.Name).bind fun r_15 =>
    if (!r_15) then
    some true
    else
    (a3r c_1.Kind 1 4).bind fun r_18 =>
    if (!r_18) then
    some true
    else
    (a3r c_1.Min 0 1).bind fun r_21 =>
    if (!r_21) then
    some true
    else
    (a3r c_1.Max 1 8).bind fun r_24 =>
    some (!r_24):Option Bool)).bind fun s24_13 =>
    if s24_13 then
    some false
    else
    if (c_1.Kind == 1) then
    (a3r c_1.Low (-1000000000) c_1.High).bind fun r_28 =>
    if r_28 then
    (a3r c_1.High c_1.Low 1000000000).bind fun r_31 =>
    some (bif (bif r_31 then (c_1.Ref == []) else false) then (!c_1.Strong) else false)
    else
    some false
    else
    ((if (c_1.Low != 0) then
    some true
    else
    some (c_1.High != 0):Option Bool)).bind fun s57_34 =>
    if s57_34 then
    some false
    else
    if (c_1.Kind == 4) then
    (a8z c_1.Ref).bind fun r_39 =>
    if r_39 then
    some (c_1.Min == 0)
    else
    some false
    else
    if (c_1.Ref == []) then
    some (!c_1.Strong)
    else
    some false
theorem c1z (c_1:a0m) (r:Bool) (hf:b0c c_1 = some r):y8 Tryz.prog 261 .flat [(o5 c_1)] (.bool r):=by
 refine y8.of_awp mixed Tryz.func261 e6c nle ?_;rw [a0h];unfold b0c at hf;unfold e6b;refine (show awp Tryz.prog false 0 _ (ofL [(0,(o5 c_1))]) [] _ from ?_);refine sr<|x8 (a1o (j:=0) (c:=(.agg [(.str c_1.Name),(.int .i64 c_1.Kind),(.int .i64 c_1.Min),(.int .i64 c_1.Max),(.int .i64 c_1.Low),(.int .i64 c_1.High),(.str c_1.Ref),(.bool c_1.Strong)])) rfl trivial rfl rfl)<|l9 (.bool false) rfl<|dk<|o6<|o6<|?_
 obtain ⟨s24_13,hb1,hf⟩:=ob hf
 refine a1k ([(1,(.ptr 0 0 0)),(24,(.bool s24_13))],[.box 8 (.agg [(.str c_1.Name),(.int .i64 c_1.Kind),(.int .i64 c_1.Min),(.int .i64 c_1.Max),(.int .i64 c_1.Low),(.int .i64 c_1.High),(.str c_1.Ref),(.bool c_1.Strong)])]) ?_ ?_
 ·refine a0k<|o7 (.ptr 0 0 0) rfl trivial rfl<|o7 (.str c_1.Name) rfl nle rfl<|?_
  obtain ⟨r_15,er16,hb1⟩:=ob hb1
  refine x8 (a0g (b2g _ _ er16) rfl (.refl _) rfl)<|o7 (.bool (!r_15)) rfl trivial rfl<|l9 (.bool (!r_15)) rfl<|?_
  rcases oi hb1 with ⟨c17,hb1⟩ | ⟨c17,hb1⟩
  ·refine a0u (s:=7) (b:=true) rfl c17<|o9 rfl rfl<|o9 rfl rfl<|o9 rfl rfl<|o9 rfl rfl<|o7 (.bool true) rfl trivial rfl<|l9 (.bool true) rfl<|o9 rfl rfl<|o9 rfl rfl<|o9 rfl rfl<|o9 rfl rfl<|o7 (.bool true) rfl trivial rfl<|l9 (.bool true) rfl<|o9 rfl rfl<|o9 rfl rfl<|o9 rfl rfl<|o9 rfl rfl<|o7 (.bool true) rfl trivial rfl<|y7<|?_;obtain rfl:=os hb1;exact ⟨[],[0],_,_,rfl,rfl,⟨.refl _,⟨.refl _,trivial⟩⟩,(.refl _)⟩
  ·refine a0u (s:=7) (b:=false) rfl (bf c17)<|s_on rfl<|o7 (.ptr 0 0 1) rfl trivial rfl<|s_on rfl<|o7 (.int .i64 c_1.Kind) rfl nle rfl<|s_on rfl<|?_
   obtain ⟨r_18,er19,hb1⟩:=ob hb1
   refine x8 (a0g (a3b _ _ _ _ er19) rfl (.refl _) rfl)<|s_on rfl<|o7 (.bool (!r_18)) rfl trivial rfl<|o7 (.bool (!r_18)) rfl trivial rfl<|l9 (.bool (!r_18)) rfl<|?_
   rcases oi hb1 with ⟨c20,hb1⟩ | ⟨c20,hb1⟩
   ·refine a0u (s:=13) (b:=true) rfl c20<|o9 rfl rfl<|o9 rfl rfl<|o9 rfl rfl<|o9 rfl rfl<|o7 (.bool true) rfl trivial rfl<|l9 (.bool true) rfl<|o9 rfl rfl<|o9 rfl rfl<|o9 rfl rfl<|o9 rfl rfl<|o7 (.bool true) rfl trivial rfl<|y7<|?_;obtain rfl:=os hb1;exact ⟨[],[0],_,_,rfl,rfl,⟨.refl _,⟨.refl _,trivial⟩⟩,(.refl _)⟩
   ·refine a0u (s:=13) (b:=false) rfl (bf c20)<|s_on rfl<|o7 (.ptr 0 0 2) rfl trivial rfl<|s_on rfl<|o7 (.int .i64 c_1.Min) rfl nle rfl<|s_on rfl<|?_
    obtain ⟨r_21,er22,hb1⟩:=ob hb1
    refine x8 (a0g (a3b _ _ _ _ er22) rfl (.refl _) rfl)<|s_on rfl<|o7 (.bool (!r_21)) rfl trivial rfl<|o7 (.bool (!r_21)) rfl trivial rfl<|l9 (.bool (!r_21)) rfl<|?_
    rcases oi hb1 with ⟨c23,hb1⟩ | ⟨c23,hb1⟩
    ·refine a0u (s:=19) (b:=true) rfl c23<|o9 rfl rfl<|o9 rfl rfl<|o9 rfl rfl<|o9 rfl rfl<|o7 (.bool true) rfl trivial rfl<|y7<|?_;obtain rfl:=os hb1;exact ⟨[],[0],_,_,rfl,rfl,⟨.refl _,⟨.refl _,trivial⟩⟩,(.refl _)⟩
    ·refine a0u (s:=19) (b:=false) rfl (bf c23)<|s_on rfl<|o7 (.ptr 0 0 3) rfl trivial rfl<|s_on rfl<|o7 (.int .i64 c_1.Max) rfl nle rfl<|s_on rfl<|?_
     obtain ⟨r_24,er25,hb1⟩:=ob hb1
     refine x8 (a0g (a3b _ _ _ _ er25) rfl (.refl _) rfl)<|s_on rfl<|o7 (.bool (!r_24)) rfl trivial rfl<|o7 (.bool (!r_24)) rfl trivial rfl<|y7<|?_;obtain rfl:=os hb1;exact ⟨[],[0],_,_,rfl,rfl,⟨.refl _,⟨.refl _,trivial⟩⟩,(.refl _)⟩
 ·rcases oi hf with ⟨c26,hf⟩ | ⟨c26,hf⟩
  ·refine x9 rfl c26<|sr<|l9 (.bool false) rfl<|dk<|a0a<|?_;obtain rfl:=os hf;exact a0d ⟨trivial,trivial⟩ rfl (.refl _)
  ·refine y5 rfl (bf c26)<|a0e<|a0f<|o6<|sr<|o7 (.ptr 0 0 1) rfl trivial rfl<|o7 (.int .i64 c_1.Kind) rfl nle rfl<|o7 (.bool (c_1.Kind == 1)) rfl rfl rfl<|dk<|?_
   rcases oi hf with ⟨c27,hf⟩ | ⟨c27,hf⟩
   ·refine x9 rfl c27<|sr<|o7 (.ptr 0 0 4) rfl trivial rfl<|o7 (.int .i64 c_1.Low) rfl nle rfl<|o7 (.ptr 0 0 5) rfl trivial rfl<|o7 (.int .i64 c_1.High) rfl nle rfl<|?_
    obtain ⟨r_28,er29,hf⟩:=ob hf
    refine x8 (a0g (a3b _ _ _ _ er29) rfl (.refl _) rfl)<|l9 (.bool r_28) rfl<|?_
    rcases oi hf with ⟨c30,hf⟩ | ⟨c30,hf⟩
    ·refine a0u (s:=33) (b:=true) rfl c30<|s_on rfl<|o7 (.ptr 0 0 5) rfl trivial rfl<|s_on rfl<|o7 (.int .i64 c_1.High) rfl nle rfl<|s_on rfl<|o7 (.ptr 0 0 4) rfl trivial rfl<|s_on rfl<|o7 (.int .i64 c_1.Low) rfl nle rfl<|s_on rfl<|?_
     obtain ⟨r_31,er32,hf⟩:=ob hf
     refine x8 (a0g (a3b _ _ _ _ er32) rfl (.refl _) rfl)<|o7 (.bool r_31) rfl trivial rfl<|l9 (.bool r_31) rfl<|?_;refine s_g (v:=r_31) (.ptr 0 0 6) rfl (fun hv => by (try simp only [a0i hv]);exact ⟨rfl,trivial,rfl⟩) ?_;refine s_g (v:=r_31) (.str c_1.Ref) rfl (fun hv => by (try simp only [a0i hv]);exact ⟨rfl,nle,rfl⟩) ?_;refine s_g (v:=r_31) (.bool (c_1.Ref == [])) rfl (fun hv => by (try simp only [a0i hv]);exact ⟨rfl,trivial,rfl⟩) ?_;refine a6l (x:=(c_1.Ref == [])) (y:=false) rfl (fun hv => by (try simp only [a0i hv]);rfl) (fun hv => by (try simp only [a0i hv]);rfl) ?_;refine l9 (.bool (bif r_31 then (c_1.Ref == []) else false)) rfl ?_;refine s_g (v:=(bif r_31 then (c_1.Ref == []) else false)) (.ptr 0 0 7) rfl (fun hv => by (try simp only [a0i hv]);exact ⟨rfl,trivial,rfl⟩) ?_
     refine s_g (v:=(bif r_31 then (c_1.Ref == []) else false)) (.bool c_1.Strong) rfl (fun hv => by (try simp only [a0i hv]);exact ⟨rfl,nle,rfl⟩) ?_;refine s_g (v:=(bif r_31 then (c_1.Ref == []) else false)) (.bool (!c_1.Strong)) rfl (fun hv => by (try simp only [a0i hv]);exact ⟨rfl,trivial,rfl⟩) ?_;refine a6l (x:=(!c_1.Strong)) (y:=false) rfl (fun hv => by (try simp only [a0i hv]);rfl) (fun hv => by (try simp only [a0i hv]);rfl) ?_;refine l9 (.bool (bif (bif r_31 then (c_1.Ref == []) else false) then (!c_1.Strong) else false)) rfl<|dk<|a0a<|?_;obtain rfl:=os hf;exact a0d ⟨trivial,trivial⟩ rfl (.refl _)
    ·refine a0u (s:=33) (b:=false) rfl (bf c30)<|o9 rfl rfl<|o9 rfl rfl<|o9 rfl rfl<|o9 rfl rfl<|o9 rfl rfl<|o7 (.bool false) rfl trivial rfl<|l9 (.bool false) rfl<|o9 rfl rfl<|o9 rfl rfl<|o9 rfl rfl<|o7 (.bool false) rfl trivial rfl<|l9 (.bool false) rfl<|o9 rfl rfl<|o9 rfl rfl<|o9 rfl rfl<|o7 (.bool false) rfl trivial rfl<|l9 (.bool false) rfl<|dk<|a0a<|?_;obtain rfl:=os hf;exact a0d ⟨trivial,trivial⟩ rfl (.refl _)
   ·refine y5 rfl (bf c27)<|a0e<|a0f<|o6<|o6<|?_
    obtain ⟨s57_34,hb1,hf⟩:=ob hf
    refine a1k ([(1,(.ptr 0 0 0)),(57,(.bool s57_34))],[.box 8 (.agg [(.str c_1.Name),(.int .i64 c_1.Kind),(.int .i64 c_1.Min),(.int .i64 c_1.Max),(.int .i64 c_1.Low),(.int .i64 c_1.High),(.str c_1.Ref),(.bool c_1.Strong)])]) ?_ ?_
    ·refine a0k ?_
     rcases oi hb1 with ⟨c36,hb1⟩ | ⟨c36,hb1⟩
     ·refine o7 (.ptr 0 0 4) rfl trivial rfl<|o7 (.int .i64 c_1.Low) rfl nle rfl<|o7 (.bool (c_1.Low != 0)) rfl rfl rfl<|l9 (.bool (c_1.Low != 0)) rfl<|a0u (s:=53) (b:=true) rfl c36<|o9 rfl rfl<|o9 rfl rfl<|o9 rfl rfl<|o7 (.bool true) rfl trivial rfl<|y7<|?_;obtain rfl:=os hb1;exact ⟨[],[0],_,_,rfl,rfl,⟨.refl _,⟨.refl _,trivial⟩⟩,(.refl _)⟩
     ·refine o7 (.ptr 0 0 4) rfl trivial rfl<|o7 (.int .i64 c_1.Low) rfl nle rfl<|o7 (.bool (c_1.Low != 0)) rfl rfl rfl<|l9 (.bool (c_1.Low != 0)) rfl<|a0u (s:=53) (b:=false) rfl (bf c36)<|s_on rfl<|o7 (.ptr 0 0 5) rfl trivial rfl<|s_on rfl<|o7 (.int .i64 c_1.High) rfl nle rfl<|s_on rfl<|o7 (.bool (c_1.High != 0)) rfl rfl rfl<|o7 (.bool (c_1.High != 0)) rfl trivial rfl<|y7<|?_;obtain rfl:=os hb1;exact ⟨[],[0],_,_,rfl,rfl,⟨.refl _,⟨.refl _,trivial⟩⟩,(.refl _)⟩
    ·rcases oi hf with ⟨c37,hf⟩ | ⟨c37,hf⟩
     ·refine x9 rfl c37<|sr<|l9 (.bool false) rfl<|dk<|a0a<|?_;obtain rfl:=os hf;exact a0d ⟨trivial,trivial⟩ rfl (.refl _)
     ·refine y5 rfl (bf c37)<|a0e<|a0f<|o6<|sr<|o7 (.ptr 0 0 1) rfl trivial rfl<|o7 (.int .i64 c_1.Kind) rfl nle rfl<|o7 (.bool (c_1.Kind == 4)) rfl rfl rfl<|dk<|?_
      rcases oi hf with ⟨c38,hf⟩ | ⟨c38,hf⟩
      ·refine x9 rfl c38<|sr<|?_
       obtain ⟨r_39,er40,hf⟩:=ob hf
       rcases oi hf with ⟨c41,hf⟩ | ⟨c41,hf⟩
       ·refine o7 (.ptr 0 0 6) rfl trivial rfl<|o7 (.str c_1.Ref) rfl nle rfl<|x8 (a0g (b2g _ _ er40) rfl (.refl _) rfl)<|l9 (.bool r_39) rfl<|a0u (s:=64) (b:=true) rfl c41<|s_on rfl<|o7 (.ptr 0 0 2) rfl trivial rfl<|s_on rfl<|o7 (.int .i64 c_1.Min) rfl nle rfl<|s_on rfl<|o7 (.bool (c_1.Min == 0)) rfl rfl rfl<|o7 (.bool (c_1.Min == 0)) rfl trivial rfl<|l9 (.bool (c_1.Min == 0)) rfl<|dk<|a0a<|?_;obtain rfl:=os hf;exact a0d ⟨trivial,trivial⟩ rfl (.refl _)
       ·refine o7 (.ptr 0 0 6) rfl trivial rfl<|o7 (.str c_1.Ref) rfl nle rfl<|x8 (a0g (b2g _ _ er40) rfl (.refl _) rfl)<|l9 (.bool r_39) rfl<|a0u (s:=64) (b:=false) rfl (bf c41)<|o9 rfl rfl<|o9 rfl rfl<|o9 rfl rfl<|o7 (.bool false) rfl trivial rfl<|l9 (.bool false) rfl<|dk<|a0a<|?_;obtain rfl:=os hf;exact a0d ⟨trivial,trivial⟩ rfl (.refl _)
      ·refine y5 rfl (bf c38)<|a0e<|a0f<|sr<|?_
       rcases oi hf with ⟨c42,hf⟩ | ⟨c42,hf⟩
       ·refine o7 (.ptr 0 0 6) rfl trivial rfl<|o7 (.str c_1.Ref) rfl nle rfl<|o7 (.bool (c_1.Ref == [])) rfl trivial rfl<|l9 (.bool (c_1.Ref == [])) rfl<|a0u (s:=72) (b:=true) rfl c42<|s_on rfl<|o7 (.ptr 0 0 7) rfl trivial rfl<|s_on rfl<|o7 (.bool c_1.Strong) rfl nle rfl<|s_on rfl<|o7 (.bool (!c_1.Strong)) rfl trivial rfl<|o7 (.bool (!c_1.Strong)) rfl trivial rfl<|l9 (.bool (!c_1.Strong)) rfl<|dk<|a0a<|?_;obtain rfl:=os hf;exact a0d ⟨trivial,trivial⟩ rfl (.refl _)
       ·refine o7 (.ptr 0 0 6) rfl trivial rfl<|o7 (.str c_1.Ref) rfl nle rfl<|o7 (.bool (c_1.Ref == [])) rfl trivial rfl<|l9 (.bool (c_1.Ref == [])) rfl<|a0u (s:=72) (b:=false) rfl (bf c42)<|o9 rfl rfl<|o9 rfl rfl<|o9 rfl rfl<|o7 (.bool false) rfl trivial rfl<|l9 (.bool false) rfl<|dk<|a0a<|?_;obtain rfl:=os hf;exact a0d ⟨trivial,trivial⟩ rfl (.refl _)

/- spec.l04Table -/
def e6d:a0n :=
 (.seq (.reg (tq 1 (.box 4 (.t 0)) (tm 2 (.c (.bool false)) .done)))
 (.seq (.seq (.reg (tq 6 (.faddr 0 (.t 1)) (tq 7 (.load 1 false (.t 6)) (tq 8 (.call 210 [(.t 7)]) (tq 9 (.not (.t 8)) (tm 10 (.t 9) (tg 11 10 false (.faddr 1 (.t 1)) (tg 12 10 false (.load 1 false (.t 11)) (tg 13 10 false (.len (.t 12)) (tg 14 10 false (.call 158 [(.t 13),(.c (.int .i64 1)),(.c (.int .i64 6))]) (tg 15 10 false (.not (.t 14)) (tq 16 (.pick (.t 10) (.c (.bool true)) (.t 15)) (tm 17 (.t 16) (tg 18 17 false (.faddr 2 (.t 1)) (tg 19 17 false (.load 1 false (.t 18)) (tg 20 17 false (.len (.t 19)) (tg 21 17 false (.bin .gtr (.t 20) (.c (.int .i64 6))) (tq 22 (.pick (.t 17) (.c (.bool true)) (.t 21)) .done))))))))))))))))))
 (.cut (.cond (.t 22) (.seq (.reg (tm 2 (.c (.bool false)) .done))
 .ret)
 .skip)))
 (.seq (.seq (.reg (tm 3 (.c (.int .i64 0)) .done))
 (.block 0 (.loop (.seq (.seq (.reg (tm 23 (.t 3) (tq 24 (.faddr 1 (.t 1)) (tq 25 (.load 1 false (.t 24)) (tq 26 (.len (.t 25)) (tq 27 (.bin .lss (.t 23) (.t 26)) .done))))))
 (.cond (.t 27) .skip
 (.exit 0)))
 (.seq (.block 1 (.seq (.seq (.reg (tq 30 (.faddr 1 (.t 1)) (tq 31 (.load 1 false (.t 30)) (tm 32 (.t 3) (tq 33 (.iaddr 8 (.t 31) (.t 32)) (tq 34 (.load 8 true (.t 33)) (tq 35 (.call 261 [(.t 34)]) (tq 36 (.not (.t 35)) .done))))))))
 (.cond (.t 36) (.seq (.reg (tm 2 (.c (.bool false)) .done))
 .ret)
 .skip))
 (.seq (.reg (tm 4 (.c (.int .i64 0)) .done))
 (.block 2 (.loop (.seq (.seq (.reg (tm 37 (.t 4) (tm 38 (.t 3) (tq 39 (.bin .lss (.t 37) (.t 38)) .done))))
 (.cond (.t 39) .skip
 (.exit 2)))
 (.seq (.block 3 (.seq (.reg (tq 42 (.faddr 1 (.t 1)) (tq 43 (.load 1 false (.t 42)) (tm 44 (.t 4) (tq 45 (.iaddr 8 (.t 43) (.t 44)) (tq 46 (.faddr 0 (.t 45)) (tq 47 (.load 1 false (.t 46)) (tq 48 (.faddr 1 (.t 1)) (tq 49 (.load 1 false (.t 48)) (tm 50 (.t 3) (tq 51 (.iaddr 8 (.t 49) (.t 50)) (tq 52 (.faddr 0 (.t 51)) (tq 53 (.load 1 false (.t 52)) (tq 54 (.bin .eql (.t 47) (.t 53)) .done))))))))))))))
 (.cond (.t 54) (.seq (.reg (tm 2 (.c (.bool false)) .done))
 .ret)
 .skip)))
 (.reg (tm 40 (.t 4) (tq 41 (.bin .add (.t 40) (.c (.int .i64 1))) (tm 4 (.t 41) .done)))))))))))
 (.cut (.reg (tm 28 (.t 3) (tq 29 (.bin .add (.t 28) (.c (.int .i64 1))) (tm 3 (.t 29) .done))))))))))
 (.cut (.seq (.seq (.reg (tm 5 (.c (.int .i64 0)) .done))
 (.block 4 (.loop (.seq (.seq (.reg (tm 55 (.t 5) (tq 56 (.faddr 2 (.t 1)) (tq 57 (.load 1 false (.t 56)) (tq 58 (.len (.t 57)) (tq 59 (.bin .lss (.t 55) (.t 58)) .done))))))
 (.cond (.t 59) .skip
 (.exit 4)))
 (.seq (.block 5 (.seq (.reg (tq 62 (.faddr 2 (.t 1)) (tq 63 (.load 1 false (.t 62)) (tm 64 (.t 5) (tq 65 (.iaddr 1 (.t 63) (.t 64)) (tq 66 (.load 1 false (.t 65)) (tq 67 (.faddr 1 (.t 1)) (tq 68 (.load 1 false (.t 67)) (tq 69 (.len (.t 68)) (tq 70 (.bin .sub (.t 69) (.c (.int .i64 1))) (.l ⟨(some 71),none,.call 158 [(.t 66),(.c (.int .i64 0)),(.t 70)]⟩ []
 (tq 72 (.not (.t 71)) (tm 73 (.t 72) (tg 74 73 false (.mov (.t 5)) (tg 75 73 false (.bin .gtr (.t 74) (.c (.int .i64 0))) (tg 76 73 false (.mov (.t 75)) (tg 77 76 true (.faddr 2 (.t 1)) (tg 78 76 true (.load 1 false (.t 77)) (tg 79 76 true (.mov (.t 5)) (tg 80 76 true (.bin .sub (.t 79) (.c (.int .i64 1))) (tg 81 76 true (.iaddr 1 (.t 78) (.t 80)) (tg 82 76 true (.load 1 false (.t 81)) (tg 83 76 true (.faddr 2 (.t 1)) (tg 84 76 true (.load 1 false (.t 83)) (tg 85 76 true (.mov (.t 5)) (tg 86 76 true (.iaddr 1 (.t 84) (.t 85)) (tg 87 76 true (.load 1 false (.t 86)) (tg 88 76 true (.bin .geq (.t 82) (.t 87)) (tg 89 73 false (.pick (.t 76) (.t 88) (.c (.bool false))) (tq 90 (.pick (.t 73) (.c (.bool true)) (.t 89)) .done))))))))))))))))))) .non)))))))))))
 (.cut (.cond (.t 90) (.seq (.reg (tm 2 (.c (.bool false)) .done))
 .ret)
 .skip))))
 (.reg (tm 60 (.t 5) (tq 61 (.bin .add (.t 60) (.c (.int .i64 1))) (tm 5 (.t 61) .done)))))))))
 (.cut (.seq (.reg (tm 2 (.c (.bool true)) .done))
 .ret)))))))
theorem e6e:a1c Tryz.prog Tryz.f137 = some (e6d.erase,[.mov (.t 2)],91):=by kernel_rfl
def a3z (i_130:Nat) (t_1:a0w) (x_193:a0m):Nat → Int → Option (Fl Bool Unit)
  | 0,_ => none
  | k + 1,k_222 =>
    if (decide (k_222 < (i_130:Int))) then
    (idx t_1.Columns k_222).bind fun x_229 =>
    if (x_229.Name == x_193.Name) then
    some (.ret false)
    else
    a3z i_130 t_1 x_193 k (w64 (k_222 + 1))
    else
    some (.go ())

def a4m (t_1:a0w):List a0m → Nat → Option (Fl Bool Unit)
  | [],i_130 =>
    some (.go ())
  | x_193 :: xs,i_130 =>
    (b0c x_193).bind fun r_196 =>
    if (!r_196) then
    some (.ret false)
    else
    (a3z i_130 t_1 x_193 FUEL 0).bind fun q => (match q with
    | .ret r => some (.ret r)
    | .go _ =>
    a4m t_1 xs (i_130 + 1))

def a4n (t_1:a0w):List Int → Nat → Option (Fl Bool Unit)
  | [],i_287 =>
    some (.go ())
  | x_323 :: xs,i_287 =>
    (((a3r x_323 0 (w64 ((t_1.Columns.length:Int) - 1))).bind fun r_336 =>
    if (!r_336) then
    some true
    else
    if (decide ((i_287:Int) > 0)) then
    (idx t_1.Unique (w64 ((i_287:Int) - 1))).bind fun x_340 =>
    some (decide (x_340 ≥ x_323))
    else
    some false:Option Bool)).bind fun s90_333 =>
    if s90_333 then
    some (.ret false)
    else
    a4n t_1 xs (i_287 + 1)

def a8f (t_1:a0w):Option Bool :=
    (((a8z t_1.Name).bind fun r_12 =>
    if (!r_12) then
    some true
    else
    (a3r (t_1.Columns.length:Int) 1 6).bind fun r_17 =>
    some (bif (!r_17) then true else (decide ((t_1.Unique.length:Int) > 6))):Option Bool)).bind fun s22_10 =>
    if s22_10 then
    some false
    else
    (a4m t_1 t_1.Columns 0).bind fun q => (match q with
    | .ret r => some r
    | .go _ =>
    (a4n t_1 t_1.Unique 0).bind fun q => (match q with
    | .ret r => some r
    | .go _ =>
    some true))
theorem b0i (t_1:a0w) (r:Bool) (hf:a8f t_1 = some r):y8 Tryz.prog 137 .flat [(a1b t_1)] (.bool r):=by
 refine y8.of_awp mixed Tryz.func137 e6e nle ?_;rw [a0h];unfold a8f at hf;unfold e6d;refine (show awp Tryz.prog false 0 _ (ofL [(0,(a1b t_1))]) [] _ from ?_);refine sr<|x8 (a1o (j:=0) (c:=(.agg [(.str t_1.Name),(.lst 8 (t_1.Columns.map o5)),(.lst 1 (t_1.Unique.map encI)),(.bool t_1.Root)])) rfl trivial rfl rfl)<|l9 (.bool false) rfl<|dk<|o6<|o6<|?_
 obtain ⟨s22_10,hb1,hf⟩:=ob hf
 refine a1k ([(1,(.ptr 0 0 0)),(22,(.bool s22_10))],[.box 4 (.agg [(.str t_1.Name),(.lst 8 (t_1.Columns.map o5)),(.lst 1 (t_1.Unique.map encI)),(.bool t_1.Root)])]) ?_ ?_
 ·refine a0k<|o7 (.ptr 0 0 0) rfl trivial rfl<|o7 (.str t_1.Name) rfl nle rfl<|?_
  obtain ⟨r_12,er13,hb1⟩:=ob hb1
  refine x8 (a0g (b2g _ _ er13) rfl (.refl _) rfl)<|o7 (.bool (!r_12)) rfl trivial rfl<|l9 (.bool (!r_12)) rfl<|?_
  rcases oi hb1 with ⟨c15,hb1⟩ | ⟨c15,hb1⟩
  ·refine a0u (s:=10) (b:=true) rfl c15<|o9 rfl rfl<|o9 rfl rfl<|o9 rfl rfl<|o9 rfl rfl<|o9 rfl rfl<|o7 (.bool true) rfl trivial rfl<|l9 (.bool true) rfl<|o9 rfl rfl<|o9 rfl rfl<|o9 rfl rfl<|o9 rfl rfl<|o7 (.bool true) rfl trivial rfl<|y7<|?_;obtain rfl:=os hb1;exact ⟨[],[0],_,_,rfl,rfl,⟨.refl _,⟨.refl _,trivial⟩⟩,(.refl _)⟩
  ·refine a0u (s:=10) (b:=false) rfl (bf c15)<|s_on rfl<|o7 (.ptr 0 0 1) rfl trivial rfl<|s_on rfl<|o7 (.lst 8 (t_1.Columns.map o5)) rfl nle rfl<|s_on rfl<|a1e (a1p (enc:=o5) rfl) fun hl16 => s_on rfl<|?_
   obtain ⟨r_17,er18,hb1⟩:=ob hb1
   refine x8 (a0g (a3b _ _ _ _ er18) rfl (.refl _) rfl)<|s_on rfl<|o7 (.bool (!r_17)) rfl trivial rfl<|o7 (.bool (!r_17)) rfl trivial rfl<|l9 (.bool (!r_17)) rfl<|?_;refine s_g (v:=(!r_17)) (.ptr 0 0 2) rfl (fun hv => by (try simp only [a0i hv]);exact ⟨rfl,trivial,rfl⟩) ?_;refine s_g (v:=(!r_17)) (.lst 1 (t_1.Unique.map encI)) rfl (fun hv => by (try simp only [a0i hv]);exact ⟨rfl,nle,rfl⟩) ?_;refine s_g (v:=(!r_17)) (.int .i64 (t_1.Unique.length:Int)) rfl (fun hv => by (try simp only [a0i hv]);exact ⟨rfl,trivial,lenV _ _⟩) ?_;refine s_g (v:=(!r_17)) (.bool (decide ((t_1.Unique.length:Int) > 6))) rfl (fun hv => by (try simp only [a0i hv]);exact ⟨rfl,rfl,rfl⟩) ?_
   refine a6l (x:=true) (y:=(decide ((t_1.Unique.length:Int) > 6))) rfl (fun hv => by (try simp only [a0i hv]);rfl) (fun hv => by (try simp only [a0i hv]);rfl) ?_;refine y7 ?_;obtain rfl:=os hb1;exact ⟨[],[0],_,_,rfl,rfl,⟨.refl _,⟨.refl _,trivial⟩⟩,(.refl _)⟩
 ·rcases oi hf with ⟨c20,hf⟩ | ⟨c20,hf⟩
  ·refine x9 rfl c20<|sr<|l9 (.bool false) rfl<|dk<|a0a<|?_;obtain rfl:=os hf;exact a0d ⟨trivial,trivial⟩ rfl (.refl _)
  ·refine y5 rfl (bf c20)<|a0e<|a0f<|o6<|sr<|l9 (.int .i64 0) rfl<|dk<|?_
   obtain ⟨p186,hb1,hf⟩:=ob hf
   refine a2i (X:={q:Unit // p186 = .go q}) (fun q => ([(1,(.ptr 0 0 0))],[.box 4 (.agg [(.str t_1.Name),(.lst 8 (t_1.Columns.map o5)),(.lst 1 (t_1.Unique.map encI)),(.bool t_1.Root)])])) ?_ ?_
   ·refine a1m (X:={q:Nat // a4m t_1 (t_1.Columns.drop q) q = some p186}) (fun q => ([(1,(.ptr 0 0 0)),(3,(.int .i64 (q.1:Int)))],[.box 4 (.agg [(.str t_1.Name),(.lst 8 (t_1.Columns.map o5)),(.lst 1 (t_1.Unique.map encI)),(.bool t_1.Root)])])) (fun q => t_1.Columns.length - q.1) ⟨0,hb1⟩ ⟨[],[0],_,_,rfl,rfl,⟨.refl _,⟨.refl _,trivial⟩⟩,(.refl _)⟩ ?_
    rintro ⟨i_130,hc1⟩
    have hc1:a4m t_1 (t_1.Columns.drop i_130) i_130 = some p186:=hc1
    refine (show awp Tryz.prog false 0 _ (ofL [(1,(.ptr 0 0 0)),(3,(.int .i64 (i_130:Int)))]) [.box 4 (.agg [(.str t_1.Name),(.lst 8 (t_1.Columns.map o5)),(.lst 1 (t_1.Unique.map encI)),(.bool t_1.Root)])] _ from ?_)
    rcases a5p t_1.Columns i_130 with ⟨hie189,hd192⟩ | ⟨hlt187,x_193,hx188,hd192⟩
    ·rw [hd192,a4m.eq_1] at hc1
     have hq191:=dlf hie189
     refine o6<|sr<|l9 (.int .i64 (i_130:Int)) rfl<|o7 (.ptr 0 0 1) rfl trivial rfl<|o7 (.lst 8 (t_1.Columns.map o5)) rfl nle rfl<|a1e (a1p (enc:=o5) rfl) fun hl194 => o7 (.bool (decide ((i_130:Int) < (t_1.Columns.length:Int)))) rfl rfl rfl<|dk<|y5 rfl hq191<|a2u<|a2t<|a1x<|a2s<|?_;obtain rfl:=os hc1;exact a3h ⟨_,rfl⟩ ⟨[],[0],_,_,rfl,rfl,⟨.refl _,trivial⟩,(.refl _)⟩
    ·rw [hd192,a4m.eq_2] at hc1
     have hq191:=dlt hlt187
     refine o6<|sr<|l9 (.int .i64 (i_130:Int)) rfl<|o7 (.ptr 0 0 1) rfl trivial rfl<|o7 (.lst 8 (t_1.Columns.map o5)) rfl nle rfl<|a1e (a1p (enc:=o5) rfl) fun hl195 => o7 (.bool (decide ((i_130:Int) < (t_1.Columns.length:Int)))) rfl rfl rfl<|dk<|x9 rfl hq191<|a0e<|a0f<|o6<|a3c<|o6<|sr<|?_
     obtain ⟨r_196,er197,hc1⟩:=ob hc1
     refine o7 (.ptr 0 0 1) rfl trivial rfl<|o7 (.lst 8 (t_1.Columns.map o5)) rfl nle rfl<|l9 (.int .i64 (i_130:Int)) rfl<|x8 (a1r (enc:=o5) rfl rfl hx188)<|o7 (o5 x_193) rfl nle rfl<|x8 (a0g (c1z _ _ er197) rfl (.refl _) rfl)<|o7 (.bool (!r_196)) rfl trivial rfl<|dk<|?_
     rcases oi hc1 with ⟨c198,hc1⟩ | ⟨c198,hc1⟩
     ·refine x9 rfl c198<|sr<|l9 (.bool false) rfl<|dk<|a0a<|?_;obtain rfl:=os hc1;obtain rfl:=os hf;exact a0d ⟨trivial,trivial⟩ rfl (.refl _)
     ·refine y5 rfl (bf c198)<|a0e<|a0f<|sr<|l9 (.int .i64 0) rfl<|dk<|?_
      obtain ⟨p227,hb2,hc1⟩:=ob hc1
      refine d4m (X:={q:Unit // p227 = .go q}) (fun q => ([(1,(.ptr 0 0 0)),(3,(.int .i64 (i_130:Int)))],[.box 4 (.agg [(.str t_1.Name),(.lst 8 (t_1.Columns.map o5)),(.lst 1 (t_1.Unique.map encI)),(.bool t_1.Root)])])) ?_ ?_
      ·refine a1m (X:={q:(Nat × Int) // a3z i_130 t_1 x_193 q.1 q.2 = some p227}) (fun q => ([(1,(.ptr 0 0 0)),(3,(.int .i64 (i_130:Int))),(4,(.int .i64 q.1.2))],[.box 4 (.agg [(.str t_1.Name),(.lst 8 (t_1.Columns.map o5)),(.lst 1 (t_1.Unique.map encI)),(.bool t_1.Root)])])) (fun q => q.1.1) ⟨(FUEL,0),hb2⟩ ⟨[],[0],_,_,rfl,rfl,⟨.refl _,⟨.refl _,⟨.refl _,trivial⟩⟩⟩,(.refl _)⟩ ?_
       rintro ⟨⟨k,k_222⟩,hc2⟩
       have hc2:a3z i_130 t_1 x_193 k k_222 = some p227:=hc2
       refine (show awp Tryz.prog false 0 _ (ofL [(1,(.ptr 0 0 0)),(3,(.int .i64 (i_130:Int))),(4,(.int .i64 k_222))]) [.box 4 (.agg [(.str t_1.Name),(.lst 8 (t_1.Columns.map o5)),(.lst 1 (t_1.Unique.map encI)),(.bool t_1.Root)])] _ from ?_)
       rcases k with _ | k
       ·rw [a3z.eq_1] at hc2
        cases hc2
       ·rw [a3z.eq_2] at hc2;refine o6<|sr<|l9 (.int .i64 k_222) rfl<|l9 (.int .i64 (i_130:Int)) rfl<|o7 (.bool (decide (k_222 < (i_130:Int)))) rfl rfl rfl<|dk<|?_
        rcases oi hc2 with ⟨c228,hc2⟩ | ⟨c228,hc2⟩
        ·refine x9 rfl c228<|a0e<|a0f<|o6<|a3c<|sr<|o7 (.ptr 0 0 1) rfl trivial rfl<|o7 (.lst 8 (t_1.Columns.map o5)) rfl nle rfl<|l9 (.int .i64 k_222) rfl<|?_
         obtain ⟨x_229,ex230,hc2⟩:=ob hc2
         refine x8 (a3l (enc:=o5) rfl rfl (a8m ex230) (a8n ex230))<|o7 (.iptr (o5 x_229) 0) rfl trivial rfl<|o7 (.str x_229.Name) rfl nle rfl<|o7 (.ptr 0 0 1) rfl trivial rfl<|o7 (.lst 8 (t_1.Columns.map o5)) rfl nle rfl<|l9 (.int .i64 (i_130:Int)) rfl<|x8 (a1r (enc:=o5) rfl rfl hx188)<|o7 (.iptr (o5 x_193) 0) rfl trivial rfl<|o7 (.str x_193.Name) rfl nle rfl<|o7 (.bool (x_229.Name == x_193.Name)) rfl trivial rfl<|dk<|?_
         rcases oi hc2 with ⟨c231,hc2⟩ | ⟨c231,hc2⟩
         ·refine x9 rfl c231<|sr<|l9 (.bool false) rfl<|dk<|a0a<|?_;obtain rfl:=os hc2;obtain rfl:=os hc1;obtain rfl:=os hf;exact a0d ⟨trivial,trivial⟩ rfl (.refl _)
         ·refine y5 rfl (bf c231)<|a0e<|a2c<|a0f<|a0k<|l9 (.int .i64 k_222) rfl<|o7 (.int .i64 (w64 (k_222 + 1))) rfl rfl rfl<|l9 (.int .i64 (w64 (k_222 + 1))) rfl<|y7<|?_;exact a1t ⟨(k,w64 (k_222 + 1)),hc2⟩ (Nat.lt_succ_self _) ⟨[],[0],_,_,rfl,rfl,⟨.refl _,⟨.refl _,⟨.refl _,trivial⟩⟩⟩,(.refl _)⟩
        ·refine y5 rfl (bf c228)<|a2u<|a2t<|a1x<|a2s<|?_;refine a2c ?_;obtain rfl:=os hc2;exact a3h ⟨_,rfl⟩ ⟨[],[0],_,_,rfl,rfl,⟨.refl _,⟨.refl _,trivial⟩⟩,(.refl _)⟩
      ·rintro ⟨_,rfl⟩
       refine a0k<|l9 (.int .i64 (i_130:Int)) rfl<|o7 (.int .i64 (w64 ((i_130:Int) + 1))) rfl rfl rfl<|l9 (.int .i64 (w64 ((i_130:Int) + 1))) rfl<|y7<|?_;exact a1t ⟨(i_130 + 1),hc1⟩ (mul hlt187) ⟨[],[0],_,_,rfl,rfl,⟨.refl _,⟨.of_eq (congrArg (AV.int _) (a1w hlt187 hl195)),trivial⟩⟩,(.refl _)⟩
   ·rintro ⟨_,rfl⟩
    refine o6<|sr<|l9 (.int .i64 0) rfl<|dk<|?_
    obtain ⟨p316,hb1,hf⟩:=ob hf
    refine a2i (X:={q:Unit // p316 = .go q}) (fun q => ([],[])) ?_ ?_
    ·refine a1m (X:={q:Nat // a4n t_1 (t_1.Unique.drop q) q = some p316}) (fun q => ([(1,(.ptr 0 0 0)),(5,(.int .i64 (q.1:Int)))],[.box 4 (.agg [(.str t_1.Name),(.lst 8 (t_1.Columns.map o5)),(.lst 1 (t_1.Unique.map encI)),(.bool t_1.Root)])])) (fun q => t_1.Unique.length - q.1) ⟨0,hb1⟩ ⟨[],[0],_,_,rfl,rfl,⟨.refl _,⟨.refl _,trivial⟩⟩,(.refl _)⟩ ?_
     rintro ⟨i_287,hc1⟩
     have hc1:a4n t_1 (t_1.Unique.drop i_287) i_287 = some p316:=hc1
     refine (show awp Tryz.prog false 0 _ (ofL [(1,(.ptr 0 0 0)),(5,(.int .i64 (i_287:Int)))]) [.box 4 (.agg [(.str t_1.Name),(.lst 8 (t_1.Columns.map o5)),(.lst 1 (t_1.Unique.map encI)),(.bool t_1.Root)])] _ from ?_)
     rcases a5p t_1.Unique i_287 with ⟨hie319,hd322⟩ | ⟨hlt317,x_323,hx318,hd322⟩
     ·rw [hd322,a4n.eq_1] at hc1
      have hq321:=dlf hie319
      refine o6<|sr<|l9 (.int .i64 (i_287:Int)) rfl<|o7 (.ptr 0 0 2) rfl trivial rfl<|o7 (.lst 1 (t_1.Unique.map encI)) rfl nle rfl<|a1e (a1p (enc:=encI) rfl) fun hl324 => o7 (.bool (decide ((i_287:Int) < (t_1.Unique.length:Int)))) rfl rfl rfl<|dk<|y5 rfl hq321<|a2u<|a2t<|a1x<|a2s<|?_;obtain rfl:=os hc1;exact a3h ⟨_,rfl⟩ ⟨[],[],_,_,rfl,rfl,trivial,(.refl _)⟩
     ·rw [hd322,a4n.eq_2] at hc1
      have hq321:=dlt hlt317
      refine o6<|sr<|l9 (.int .i64 (i_287:Int)) rfl<|o7 (.ptr 0 0 2) rfl trivial rfl<|o7 (.lst 1 (t_1.Unique.map encI)) rfl nle rfl<|a1e (a1p (enc:=encI) rfl) fun hl325 => o7 (.bool (decide ((i_287:Int) < (t_1.Unique.length:Int)))) rfl rfl rfl<|dk<|x9 rfl hq321<|a0e<|a0f<|o6<|a3c<|o6<|?_
      obtain ⟨s90_333,hb2,hc1⟩:=ob hc1
      refine a1k ([(1,(.ptr 0 0 0)),(5,(.int .i64 (i_287:Int))),(90,(.bool s90_333))],[.box 4 (.agg [(.str t_1.Name),(.lst 8 (t_1.Columns.map o5)),(.lst 1 (t_1.Unique.map encI)),(.bool t_1.Root)])]) ?_ ?_
      ·refine a0k<|o7 (.ptr 0 0 2) rfl trivial rfl<|o7 (.lst 1 (t_1.Unique.map encI)) rfl nle rfl<|l9 (.int .i64 (i_287:Int)) rfl<|x8 (a1r (enc:=encI) rfl rfl hx318)<|o7 (.int .i64 x_323) rfl ⟨rfl,rfl⟩ rfl<|o7 (.ptr 0 0 1) rfl trivial rfl<|o7 (.lst 8 (t_1.Columns.map o5)) rfl nle rfl<|a1e (a1p (enc:=o5) rfl) fun hl335 => o7 (.int .i64 (w64 ((t_1.Columns.length:Int) - 1))) rfl rfl rfl<|?_
       obtain ⟨r_336,er337,hb2⟩:=ob hb2
       refine a2j (a0g (a3b _ _ _ _ er337) rfl (.refl _) rfl) a6a trivial<|o7 (.bool (!r_336)) rfl trivial rfl<|l9 (.bool (!r_336)) rfl<|?_
       rcases oi hb2 with ⟨d4w,hb2⟩ | ⟨d4w,hb2⟩
       ·refine a0u (s:=73) (b:=true) rfl d4w<|o9 rfl rfl<|o9 rfl rfl<|o9 rfl rfl<|a1y rfl<|a1y rfl<|a1y rfl<|a1y rfl<|a1y rfl<|a1y rfl<|a1y rfl<|a1y rfl<|a1y rfl<|a1y rfl<|a1y rfl<|a1y rfl<|o9 rfl rfl<|o7 (.bool true) rfl trivial rfl<|y7<|?_;obtain rfl:=os hb2;exact ⟨[],[0],_,_,rfl,rfl,⟨.refl _,⟨.refl _,⟨.refl _,trivial⟩⟩⟩,(.refl _)⟩
       ·refine a0u (s:=73) (b:=false) rfl (bf d4w)<|s_on rfl<|l9 (.int .i64 (i_287:Int)) rfl<|s_on rfl<|o7 (.bool (decide ((i_287:Int) > 0))) rfl rfl rfl<|s_on rfl<|l9 (.bool (decide ((i_287:Int) > 0))) rfl<|?_
        rcases oi hb2 with ⟨c339,hb2⟩ | ⟨c339,hb2⟩
        ·refine a0u (s:=76) (b:=true) rfl c339<|s_on rfl<|o7 (.ptr 0 0 2) rfl trivial rfl<|s_on rfl<|o7 (.lst 1 (t_1.Unique.map encI)) rfl nle rfl<|s_on rfl<|l9 (.int .i64 (i_287:Int)) rfl<|s_on rfl<|o7 (.int .i64 (w64 ((i_287:Int) - 1))) rfl rfl rfl<|s_on rfl<|?_
         obtain ⟨x_340,ex341,hb2⟩:=ob hb2
         refine x8 (a3l (enc:=encI) rfl rfl (a8m ex341) (a8n ex341))<|s_on rfl<|o7 (.int .i64 x_340) rfl ⟨rfl,rfl⟩ rfl<|s_on rfl<|o7 (.ptr 0 0 2) rfl trivial rfl<|s_on rfl<|o7 (.lst 1 (t_1.Unique.map encI)) rfl nle rfl<|s_on rfl<|l9 (.int .i64 (i_287:Int)) rfl<|s_on rfl<|x8 (a1r (enc:=encI) rfl rfl hx318)<|s_on rfl<|o7 (.int .i64 x_323) rfl ⟨rfl,rfl⟩ rfl<|s_on rfl<|o7 (.bool (decide (x_340 ≥ x_323))) rfl rfl rfl<|s_on rfl<|o7 (.bool (decide (x_340 ≥ x_323))) rfl trivial rfl<|o7 (.bool (decide (x_340 ≥ x_323))) rfl trivial rfl<|y7<|?_;obtain rfl:=os hb2;exact ⟨[],[0],_,_,rfl,rfl,⟨.refl _,⟨.refl _,⟨.refl _,trivial⟩⟩⟩,(.refl _)⟩
        ·refine a0u (s:=76) (b:=false) rfl (bf c339)<|o9 rfl rfl<|o9 rfl rfl<|o9 rfl rfl<|o9 rfl rfl<|o9 rfl rfl<|o9 rfl rfl<|o9 rfl rfl<|o9 rfl rfl<|o9 rfl rfl<|o9 rfl rfl<|o9 rfl rfl<|o9 rfl rfl<|s_on rfl<|o7 (.bool false) rfl trivial rfl<|o7 (.bool false) rfl trivial rfl<|y7<|?_;obtain rfl:=os hb2;exact ⟨[],[0],_,_,rfl,rfl,⟨.refl _,⟨.refl _,⟨.refl _,trivial⟩⟩⟩,(.refl _)⟩
      ·rcases oi hc1 with ⟨c342,hc1⟩ | ⟨c342,hc1⟩
       ·refine x9 rfl c342<|sr<|l9 (.bool false) rfl<|dk<|a0a<|?_;obtain rfl:=os hc1;obtain rfl:=os hf;exact a0d ⟨trivial,trivial⟩ rfl (.refl _)
       ·refine y5 rfl (bf c342)<|a0e<|a2c<|a0f<|a0k<|l9 (.int .i64 (i_287:Int)) rfl<|o7 (.int .i64 (w64 ((i_287:Int) + 1))) rfl rfl rfl<|l9 (.int .i64 (w64 ((i_287:Int) + 1))) rfl<|y7<|?_;exact a1t ⟨(i_287 + 1),hc1⟩ (mul hlt317) ⟨[],[0],_,_,rfl,rfl,⟨.refl _,⟨.of_eq (congrArg (AV.int _) (a1w hlt317 hl325)),trivial⟩⟩,(.refl _)⟩
    ·rintro ⟨_,rfl⟩
     refine sr<|l9 (.bool true) rfl<|dk<|a0a<|?_;obtain rfl:=os hf;exact a0d ⟨trivial,trivial⟩ rfl (.refl _)

/- spec.l01Text -/
def e6f:a0n :=
 (.seq (.reg (tm 2 (.c (.bool false)) .done))
 (.seq (.seq (.reg (tm 3 (.c (.int .i64 0)) .done))
 (.block 0 (.loop (.seq (.seq (.reg (tm 4 (.t 3) (tm 5 (.t 0) (tq 6 (.lenS (.t 5)) (tq 7 (.bin .lss (.t 4) (.t 6)) .done)))))
 (.cond (.t 7) .skip
 (.exit 0)))
 (.seq (.block 1 (.seq (.reg (tm 10 (.t 0) (tm 11 (.t 3) (tq 12 (.idxs (.t 10) (.t 11)) (tq 13 (.bin .lss (.t 12) (.c (.int .u8 32))) (tm 14 (.t 13) (tg 15 14 false (.mov (.t 0)) (tg 16 14 false (.mov (.t 3)) (tg 17 14 false (.idxs (.t 15) (.t 16)) (tg 18 14 false (.bin .gtr (.t 17) (.c (.int .u8 126))) (tq 19 (.pick (.t 14) (.c (.bool true)) (.t 18)) .done)))))))))))
 (.cut (.cond (.t 19) (.seq (.reg (tm 2 (.c (.bool false)) .done))
 .ret)
 .skip))))
 (.reg (tm 8 (.t 3) (tq 9 (.bin .add (.t 8) (.c (.int .i64 1))) (tm 3 (.t 9) .done)))))))))
 (.cut (.seq (.reg (tm 20 (.t 0) (tq 21 (.lenS (.t 20)) (tq 22 (.bin .leq (.t 21) (.c (.int .i64 200))) (tm 2 (.t 22) .done)))))
 .ret))))
theorem e6g:a1c Tryz.prog Tryz.f370 = some (e6f.erase,[.mov (.t 2)],23):=by kernel_rfl
def a5c :List UInt8 → Option (Fl Bool Unit)
  | [] =>
    some (.go ())
  | x_57 :: xs =>
    ((if (decide ((x_57.toNat:Int) < 32)) then
    some true
    else
    some (decide ((x_57.toNat:Int) > 126)):Option Bool)).bind fun s19_61 =>
    if s19_61 then
    some (.ret false)
    else
    a5c xs 

def b1o (t_1:Str):Option Bool :=
    (a5c t_1 ).bind fun q => (match q with
    | .ret r => some r
    | .go _ =>
    some (decide ((t_1.length:Int) ≤ 200)))
theorem c4j (t_1:Str) (r:Bool) (hf:b1o t_1 = some r):y8 Tryz.prog 370 .flat [(.str t_1)] (.bool r):=by
 refine y8.of_awp mixed Tryz.func370 e6g nle ?_;rw [a0h];unfold b1o at hf;unfold e6f;refine (show awp Tryz.prog false 0 _ (ofL [(0,(.str t_1))]) [] _ from ?_);refine sr<|l9 (.bool false) rfl<|dk<|o6<|sr<|l9 (.int .i64 0) rfl<|dk<|?_
 obtain ⟨p50,hb1,hf⟩:=ob hf
 refine a2i (X:={q:Unit // p50 = .go q}) (fun q => ([(0,(.str t_1))],[])) ?_ ?_
 ·refine a1m (X:={q:Nat // a5c (t_1.drop q)  = some p50}) (fun q => ([(0,(.str t_1)),(3,(.int .i64 (q.1:Int)))],[])) (fun q => t_1.length - q.1) ⟨0,hb1⟩ ⟨[],[],_,_,rfl,rfl,⟨.refl _,⟨.refl _,trivial⟩⟩,(.refl _)⟩ ?_
  rintro ⟨i_33,hc1⟩
  have hc1:a5c (t_1.drop i_33)  = some p50:=hc1
  refine (show awp Tryz.prog false 0 _ (ofL [(0,(.str t_1)),(3,(.int .i64 (i_33:Int)))]) [] _ from ?_)
  rcases a5p t_1 i_33 with ⟨hie53,hd56⟩ | ⟨hlt51,x_57,hx52,hd56⟩
  ·rw [hd56,a5c.eq_1] at hc1
   have hq55:=dlf hie53
   refine o6<|sr<|l9 (.int .i64 (i_33:Int)) rfl<|l9 (.str t_1) rfl<|a1e (b3o rfl) fun hl58 => o7 (.bool (decide ((i_33:Int) < (t_1.length:Int)))) rfl rfl rfl<|dk<|y5 rfl hq55<|a2u<|a2t<|a1x<|a2s<|?_;obtain rfl:=os hc1;exact a3h ⟨_,rfl⟩ ⟨[],[],_,_,rfl,rfl,⟨.refl _,trivial⟩,(.refl _)⟩
  ·rw [hd56,a5c.eq_2] at hc1
   have hq55:=dlt hlt51
   refine o6<|sr<|l9 (.int .i64 (i_33:Int)) rfl<|l9 (.str t_1) rfl<|a1e (b3o rfl) fun hl59 => o7 (.bool (decide ((i_33:Int) < (t_1.length:Int)))) rfl rfl rfl<|dk<|x9 rfl hq55<|a0e<|a0f<|o6<|a3c<|o6<|?_
   obtain ⟨s19_61,hb2,hc1⟩:=ob hc1
   refine a1k ([(0,(.str t_1)),(3,(.int .i64 (i_33:Int))),(19,(.bool s19_61))],[]) ?_ ?_
   ·refine a0k ?_
    rcases oi hb2 with ⟨c63,hb2⟩ | ⟨c63,hb2⟩
    ·refine l9 (.str t_1) rfl<|l9 (.int .i64 (i_33:Int)) rfl<|x8 (b2d rfl rfl hx52)<|o7 (.bool (decide ((x_57.toNat:Int) < 32))) rfl rfl rfl<|l9 (.bool (decide ((x_57.toNat:Int) < 32))) rfl<|a0u (s:=14) (b:=true) rfl c63<|o9 rfl rfl<|o9 rfl rfl<|o9 rfl rfl<|o9 rfl rfl<|o7 (.bool true) rfl trivial rfl<|y7<|?_;obtain rfl:=os hb2;exact ⟨[],[],_,_,rfl,rfl,⟨.refl _,⟨.refl _,⟨.refl _,trivial⟩⟩⟩,(.refl _)⟩
    ·refine l9 (.str t_1) rfl<|l9 (.int .i64 (i_33:Int)) rfl<|x8 (b2d rfl rfl hx52)<|o7 (.bool (decide ((x_57.toNat:Int) < 32))) rfl rfl rfl<|l9 (.bool (decide ((x_57.toNat:Int) < 32))) rfl<|a0u (s:=14) (b:=false) rfl (bf c63)<|s_on rfl<|l9 (.str t_1) rfl<|s_on rfl<|l9 (.int .i64 (i_33:Int)) rfl<|s_on rfl<|x8 (b2d rfl rfl hx52)<|s_on rfl<|o7 (.bool (decide ((x_57.toNat:Int) > 126))) rfl rfl rfl<|o7 (.bool (decide ((x_57.toNat:Int) > 126))) rfl trivial rfl<|y7<|?_;obtain rfl:=os hb2;exact ⟨[],[],_,_,rfl,rfl,⟨.refl _,⟨.refl _,⟨.refl _,trivial⟩⟩⟩,(.refl _)⟩
   ·rcases oi hc1 with ⟨c64,hc1⟩ | ⟨c64,hc1⟩
    ·refine x9 rfl c64<|sr<|l9 (.bool false) rfl<|dk<|a0a<|?_;obtain rfl:=os hc1;obtain rfl:=os hf;exact a0d ⟨trivial,trivial⟩ rfl (.refl _)
    ·refine y5 rfl (bf c64)<|a0e<|a2c<|a0f<|a0k<|l9 (.int .i64 (i_33:Int)) rfl<|o7 (.int .i64 (w64 ((i_33:Int) + 1))) rfl rfl rfl<|l9 (.int .i64 (w64 ((i_33:Int) + 1))) rfl<|y7<|?_;exact a1t ⟨(i_33 + 1),hc1⟩ (mul hlt51) ⟨[],[],_,_,rfl,rfl,⟨.refl _,⟨.of_eq (congrArg (AV.int _) (a1w hlt51 hl59)),trivial⟩⟩,(.refl _)⟩
 ·rintro ⟨_,rfl⟩
  refine sr<|l9 (.str t_1) rfl<|a1e (b3o rfl) fun hl65 => o7 (.bool (decide ((t_1.length:Int) ≤ 200))) rfl rfl rfl<|l9 (.bool (decide ((t_1.length:Int) ≤ 200))) rfl<|dk<|a0a<|?_;obtain rfl:=os hf;exact a0d ⟨trivial,trivial⟩ rfl (.refl _)

/- spec.AtomOK -/
def e6h:a0n :=
 (.seq (.reg (tq 1 (.box 3 (.t 0)) (tm 2 (.c (.bool false)) .done)))
 (.seq (.seq (.reg (tq 3 (.faddr 0 (.t 1)) (tq 4 (.load 1 false (.t 3)) .done)))
 (.block 0 (.seq (.reg (tq 6 (.bin .eql (.t 4) (.c (.int .i64 1))) (tm 5 (.t 6) .done)))
 (.cond (.t 5) (.seq (.reg (tq 7 (.faddr 1 (.t 1)) (tq 8 (.load 1 false (.t 7)) (tq 9 (.call 158 [(.t 8),(.c (.int .i64 (-1000000000))),(.c (.int .i64 1000000000))]) (tm 10 (.t 9) (tg 11 10 true (.faddr 2 (.t 1)) (tg 12 10 true (.load 1 false (.t 11)) (tg 13 10 true (.bin .eql (.t 12) (.c (.str []))) (tq 14 (.pick (.t 10) (.t 13) (.c (.bool false))) (tm 2 (.t 14) .done))))))))))
 .ret)
 (.seq (.reg (tq 16 (.bin .eql (.t 4) (.c (.int .i64 2))) (tm 15 (.t 16) .done)))
 (.cond (.t 15) (.seq (.reg (tq 17 (.faddr 1 (.t 1)) (tq 18 (.load 1 false (.t 17)) (tq 19 (.bin .eql (.t 18) (.c (.int .i64 0))) (tm 20 (.t 19) (tg 21 20 true (.faddr 2 (.t 1)) (tg 22 20 true (.load 1 false (.t 21)) (tg 23 20 true (.call 370 [(.t 22)]) (tq 24 (.pick (.t 20) (.t 23) (.c (.bool false))) (tm 2 (.t 24) .done))))))))))
 .ret)
 (.seq (.reg (tq 26 (.bin .eql (.t 4) (.c (.int .i64 3))) (tm 25 (.t 26) .done)))
 (.cond (.t 25) (.seq (.reg (tq 27 (.faddr 1 (.t 1)) (tq 28 (.load 1 false (.t 27)) (tq 29 (.call 158 [(.t 28),(.c (.int .i64 0)),(.c (.int .i64 1))]) (tm 30 (.t 29) (tg 31 30 true (.faddr 2 (.t 1)) (tg 32 30 true (.load 1 false (.t 31)) (tg 33 30 true (.bin .eql (.t 32) (.c (.str []))) (tq 34 (.pick (.t 30) (.t 33) (.c (.bool false))) (tm 2 (.t 34) .done))))))))))
 .ret)
 (.seq (.reg (tq 36 (.bin .eql (.t 4) (.c (.int .i64 4))) (tm 35 (.t 36) .done)))
 (.cond (.t 35) (.seq (.reg (tq 37 (.faddr 1 (.t 1)) (tq 38 (.load 1 false (.t 37)) (tq 39 (.call 158 [(.t 38),(.c (.int .i64 1)),(.c (.int .i64 1000000))]) (tm 40 (.t 39) (tg 41 40 true (.faddr 2 (.t 1)) (tg 42 40 true (.load 1 false (.t 41)) (tg 43 40 true (.bin .eql (.t 42) (.c (.str []))) (tq 44 (.pick (.t 40) (.t 43) (.c (.bool false))) (tm 2 (.t 44) .done))))))))))
 .ret)
 .skip))))))))))
 (.seq (.reg (tm 2 (.c (.bool false)) .done))
 .ret)))
theorem e6i:a1c Tryz.prog Tryz.f287 = some (e6h.erase,[.mov (.t 2)],45):=by kernel_rfl
def b0v (a_1:o8):Option Bool :=
    if (a_1.Kind == 1) then
    (a3r a_1.N (-1000000000) 1000000000).bind fun r_3 =>
    if r_3 then
    some (a_1.T == [])
    else
    some false
    else
    if (a_1.Kind == 2) then
    if (a_1.N == 0) then
    (b1o a_1.T).bind fun r_8 =>
    some r_8
    else
    some false
    else
    if (a_1.Kind == 3) then
    (a3r a_1.N 0 1).bind fun r_11 =>
    if r_11 then
    some (a_1.T == [])
    else
    some false
    else
    if (a_1.Kind == 4) then
    (a3r a_1.N 1 1000000).bind fun r_15 =>
    if r_15 then
    some (a_1.T == [])
    else
    some false
    else
    some false
theorem c5s (a_1:o8) (r:Bool) (hf:b0v a_1 = some r):y8 Tryz.prog 287 .flat [(l7 a_1)] (.bool r):=by
 refine y8.of_awp mixed Tryz.func287 e6i nle ?_;rw [a0h];unfold b0v at hf;unfold e6h;refine (show awp Tryz.prog false 0 _ (ofL [(0,(l7 a_1))]) [] _ from ?_);refine sr<|x8 (a1o (j:=0) (c:=(.agg [(.int .i64 a_1.Kind),(.int .i64 a_1.N),(.str a_1.T)])) rfl trivial rfl rfl)<|l9 (.bool false) rfl<|dk<|o6<|sr<|o7 (.ptr 0 0 0) rfl trivial rfl<|o7 (.int .i64 a_1.Kind) rfl nle rfl<|dk<|a3c<|sr<|o7 (.bool (a_1.Kind == 1)) rfl rfl rfl<|l9 (.bool (a_1.Kind == 1)) rfl<|dk<|?_
 rcases oi hf with ⟨c2,hf⟩ | ⟨c2,hf⟩
 ·refine x9 rfl c2<|sr<|?_
  obtain ⟨r_3,er4,hf⟩:=ob hf
  rcases oi hf with ⟨c5,hf⟩ | ⟨c5,hf⟩
  ·refine o7 (.ptr 0 0 1) rfl trivial rfl<|o7 (.int .i64 a_1.N) rfl nle rfl<|x8 (a0g (a3b _ _ _ _ er4) rfl (.refl _) rfl)<|l9 (.bool r_3) rfl<|a0u (s:=10) (b:=true) rfl c5<|s_on rfl<|o7 (.ptr 0 0 2) rfl trivial rfl<|s_on rfl<|o7 (.str a_1.T) rfl nle rfl<|s_on rfl<|o7 (.bool (a_1.T == [])) rfl trivial rfl<|o7 (.bool (a_1.T == [])) rfl trivial rfl<|l9 (.bool (a_1.T == [])) rfl<|dk<|a0a<|?_;obtain rfl:=os hf;exact a0d ⟨trivial,trivial⟩ rfl (.refl _)
  ·refine o7 (.ptr 0 0 1) rfl trivial rfl<|o7 (.int .i64 a_1.N) rfl nle rfl<|x8 (a0g (a3b _ _ _ _ er4) rfl (.refl _) rfl)<|l9 (.bool r_3) rfl<|a0u (s:=10) (b:=false) rfl (bf c5)<|o9 rfl rfl<|o9 rfl rfl<|o9 rfl rfl<|o7 (.bool false) rfl trivial rfl<|l9 (.bool false) rfl<|dk<|a0a<|?_;obtain rfl:=os hf;exact a0d ⟨trivial,trivial⟩ rfl (.refl _)
 ·refine y5 rfl (bf c2)<|sr<|o7 (.bool (a_1.Kind == 2)) rfl rfl rfl<|l9 (.bool (a_1.Kind == 2)) rfl<|dk<|?_
  rcases oi hf with ⟨c6,hf⟩ | ⟨c6,hf⟩
  ·refine x9 rfl c6<|sr<|?_
   rcases oi hf with ⟨c7,hf⟩ | ⟨c7,hf⟩
   ·obtain ⟨r_8,er9,hf⟩:=ob hf
    refine o7 (.ptr 0 0 1) rfl trivial rfl<|o7 (.int .i64 a_1.N) rfl nle rfl<|o7 (.bool (a_1.N == 0)) rfl rfl rfl<|l9 (.bool (a_1.N == 0)) rfl<|a0u (s:=20) (b:=true) rfl c7<|s_on rfl<|o7 (.ptr 0 0 2) rfl trivial rfl<|s_on rfl<|o7 (.str a_1.T) rfl nle rfl<|s_on rfl<|x8 (a0g (c4j _ _ er9) rfl (.refl _) rfl)<|o7 (.bool r_8) rfl trivial rfl<|l9 (.bool r_8) rfl<|dk<|a0a<|?_;obtain rfl:=os hf;exact a0d ⟨trivial,trivial⟩ rfl (.refl _)
   ·refine o7 (.ptr 0 0 1) rfl trivial rfl<|o7 (.int .i64 a_1.N) rfl nle rfl<|o7 (.bool (a_1.N == 0)) rfl rfl rfl<|l9 (.bool (a_1.N == 0)) rfl<|a0u (s:=20) (b:=false) rfl (bf c7)<|o9 rfl rfl<|o9 rfl rfl<|o9 rfl rfl<|o7 (.bool false) rfl trivial rfl<|l9 (.bool false) rfl<|dk<|a0a<|?_;obtain rfl:=os hf;exact a0d ⟨trivial,trivial⟩ rfl (.refl _)
  ·refine y5 rfl (bf c6)<|sr<|o7 (.bool (a_1.Kind == 3)) rfl rfl rfl<|l9 (.bool (a_1.Kind == 3)) rfl<|dk<|?_
   rcases oi hf with ⟨c10,hf⟩ | ⟨c10,hf⟩
   ·refine x9 rfl c10<|sr<|?_
    obtain ⟨r_11,er12,hf⟩:=ob hf
    rcases oi hf with ⟨c13,hf⟩ | ⟨c13,hf⟩
    ·refine o7 (.ptr 0 0 1) rfl trivial rfl<|o7 (.int .i64 a_1.N) rfl nle rfl<|x8 (a0g (a3b _ _ _ _ er12) rfl (.refl _) rfl)<|l9 (.bool r_11) rfl<|a0u (s:=30) (b:=true) rfl c13<|s_on rfl<|o7 (.ptr 0 0 2) rfl trivial rfl<|s_on rfl<|o7 (.str a_1.T) rfl nle rfl<|s_on rfl<|o7 (.bool (a_1.T == [])) rfl trivial rfl<|o7 (.bool (a_1.T == [])) rfl trivial rfl<|l9 (.bool (a_1.T == [])) rfl<|dk<|a0a<|?_;obtain rfl:=os hf;exact a0d ⟨trivial,trivial⟩ rfl (.refl _)
    ·refine o7 (.ptr 0 0 1) rfl trivial rfl<|o7 (.int .i64 a_1.N) rfl nle rfl<|x8 (a0g (a3b _ _ _ _ er12) rfl (.refl _) rfl)<|l9 (.bool r_11) rfl<|a0u (s:=30) (b:=false) rfl (bf c13)<|o9 rfl rfl<|o9 rfl rfl<|o9 rfl rfl<|o7 (.bool false) rfl trivial rfl<|l9 (.bool false) rfl<|dk<|a0a<|?_;obtain rfl:=os hf;exact a0d ⟨trivial,trivial⟩ rfl (.refl _)
   ·refine y5 rfl (bf c10)<|sr<|o7 (.bool (a_1.Kind == 4)) rfl rfl rfl<|l9 (.bool (a_1.Kind == 4)) rfl<|dk<|?_
    rcases oi hf with ⟨c14,hf⟩ | ⟨c14,hf⟩
    ·refine x9 rfl c14<|sr<|?_
     obtain ⟨r_15,er16,hf⟩:=ob hf
     rcases oi hf with ⟨c17,hf⟩ | ⟨c17,hf⟩
     ·refine o7 (.ptr 0 0 1) rfl trivial rfl<|o7 (.int .i64 a_1.N) rfl nle rfl<|x8 (a0g (a3b _ _ _ _ er16) rfl (.refl _) rfl)<|l9 (.bool r_15) rfl<|a0u (s:=40) (b:=true) rfl c17<|s_on rfl<|o7 (.ptr 0 0 2) rfl trivial rfl<|s_on rfl<|o7 (.str a_1.T) rfl nle rfl<|s_on rfl<|o7 (.bool (a_1.T == [])) rfl trivial rfl<|o7 (.bool (a_1.T == [])) rfl trivial rfl<|l9 (.bool (a_1.T == [])) rfl<|dk<|a0a<|?_;obtain rfl:=os hf;exact a0d ⟨trivial,trivial⟩ rfl (.refl _)
     ·refine o7 (.ptr 0 0 1) rfl trivial rfl<|o7 (.int .i64 a_1.N) rfl nle rfl<|x8 (a0g (a3b _ _ _ _ er16) rfl (.refl _) rfl)<|l9 (.bool r_15) rfl<|a0u (s:=40) (b:=false) rfl (bf c17)<|o9 rfl rfl<|o9 rfl rfl<|o9 rfl rfl<|o7 (.bool false) rfl trivial rfl<|l9 (.bool false) rfl<|dk<|a0a<|?_;obtain rfl:=os hf;exact a0d ⟨trivial,trivial⟩ rfl (.refl _)
    ·refine y5 rfl (bf c14)<|a0e<|a2c<|a0f<|sr<|l9 (.bool false) rfl<|dk<|a0a<|?_;obtain rfl:=os hf;exact a0d ⟨trivial,trivial⟩ rfl (.refl _)

/- spec.DatumOK -/
def e6j:a0n :=
 (.seq (.reg (tm 2 (.c (.bool false)) .done))
 (.seq (.seq (.reg (tm 4 (.t 0) (tq 5 (.len (.t 4)) (tq 6 (.bin .gtr (.t 5) (.c (.int .i64 4096))) .done))))
 (.cond (.t 6) (.seq (.reg (tm 2 (.c (.bool false)) .done))
 .ret)
 .skip))
 (.seq (.seq (.reg (tm 3 (.c (.int .i64 0)) .done))
 (.block 0 (.loop (.seq (.seq (.reg (tm 7 (.t 3) (tm 8 (.t 0) (tq 9 (.len (.t 8)) (tq 10 (.bin .lss (.t 7) (.t 9)) .done)))))
 (.cond (.t 10) .skip
 (.exit 0)))
 (.seq (.block 1 (.seq (.reg (tm 13 (.t 0) (tm 14 (.t 3) (tq 15 (.iaddr 3 (.t 13) (.t 14)) (tq 16 (.load 3 true (.t 15)) (.l ⟨(some 17),none,.call 287 [(.t 16)]⟩ []
 (tq 18 (.not (.t 17)) (tm 19 (.t 18) (tg 20 19 false (.mov (.t 0)) (tg 21 19 false (.mov (.t 3)) (tg 22 19 false (.iaddr 3 (.t 20) (.t 21)) (tg 23 19 false (.faddr 0 (.t 22)) (tg 24 19 false (.load 1 false (.t 23)) (tg 25 19 false (.mov (.t 0)) (tg 26 19 false (.iaddr 3 (.t 25) (.c (.int .i64 0))) (tg 27 19 false (.faddr 0 (.t 26)) (tg 28 19 false (.load 1 false (.t 27)) (tg 29 19 false (.bin .neq (.t 24) (.t 28)) (tq 30 (.pick (.t 19) (.c (.bool true)) (.t 29)) (tm 31 (.t 30) (tg 32 31 false (.mov (.t 3)) (tg 33 31 false (.bin .gtr (.t 32) (.c (.int .i64 0))) (tg 34 31 false (.mov (.t 33)) (tg 35 34 true (.mov (.t 0)) (tg 36 34 true (.mov (.t 3)) (tg 37 34 true (.bin .sub (.t 36) (.c (.int .i64 1))) (tg 38 34 true (.iaddr 3 (.t 35) (.t 37)) (tg 39 34 true (.load 3 true (.t 38)) (tg 40 34 true (.mov (.t 0)) (tg 41 34 true (.mov (.t 3)) (tg 42 34 true (.iaddr 3 (.t 40) (.t 41)) (tg 43 34 true (.load 3 true (.t 42)) (.l ⟨(some 44),(some (34,true)),.call 288 [(.t 39),(.t 43)]⟩ []
 (tg 45 34 true (.bin .geq (.t 44) (.c (.int .i64 0))) (tg 46 31 false (.pick (.t 34) (.t 45) (.c (.bool false))) (tq 47 (.pick (.t 31) (.c (.bool true)) (.t 46)) .done))) .non))))))))))))))))))))))))))) .non))))))
 (.cut (.cond (.t 47) (.seq (.reg (tm 2 (.c (.bool false)) .done))
 .ret)
 .skip))))
 (.reg (tm 11 (.t 3) (tq 12 (.bin .add (.t 11) (.c (.int .i64 1))) (tm 3 (.t 12) .done)))))))))
 (.cut (.seq (.reg (tm 48 (.t 0) (tq 49 (.len (.t 48)) (tq 50 (.bin .leq (.t 49) (.c (.int .i64 8))) (tm 2 (.t 50) .done)))))
 .ret)))))
theorem e6k:a1c Tryz.prog Tryz.f170 = some (e6j.erase,[.mov (.t 2)],51):=by kernel_rfl
def a5d (d_1:(List o8)):List o8 → Nat → Option (Fl Bool Unit)
  | [],i_83 =>
    some (.go ())
  | x_131 :: xs,i_83 =>
    (((b0v x_131).bind fun r_147 =>
    if (!r_147) then
    some true
    else
    (idx d_1 0).bind fun x_150 =>
    if (x_131.Kind != x_150.Kind) then
    some true
    else
    if (decide ((i_83:Int) > 0)) then
    (idx d_1 (w64 ((i_83:Int) - 1))).bind fun x_154 =>
    (a6p x_154 x_131).bind fun r_156 =>
    some (decide (r_156 ≥ 0))
    else
    some false:Option Bool)).bind fun s47_145 =>
    if s47_145 then
    some (.ret false)
    else
    a5d d_1 xs (i_83 + 1)

def a9m (d_1:(List o8)):Option Bool :=
    if (decide ((d_1.length:Int) > 4096)) then
    some false
    else
    (a5d d_1 d_1 0).bind fun q => (match q with
    | .ret r => some r
    | .go _ =>
    some (decide ((d_1.length:Int) ≤ 8)))
theorem b6i (d_1:(List o8)) (r:Bool) (hf:a9m d_1 = some r):y8 Tryz.prog 170 .flat [(.lst 3 (d_1.map l7))] (.bool r):=by
 refine y8.of_awp mixed Tryz.func170 e6k nle ?_;rw [a0h];unfold a9m at hf;unfold e6j;refine (show awp Tryz.prog false 0 _ (ofL [(0,(.lst 3 (d_1.map l7)))]) [] _ from ?_);refine sr<|l9 (.bool false) rfl<|dk<|o6<|sr<|l9 (.lst 3 (d_1.map l7)) rfl<|a1e (a1p (enc:=l7) rfl) fun hl2 => o7 (.bool (decide ((d_1.length:Int) > 4096))) rfl rfl rfl<|dk<|?_
 rcases oi hf with ⟨c3,hf⟩ | ⟨c3,hf⟩
 ·refine x9 rfl c3<|sr<|l9 (.bool false) rfl<|dk<|a0a<|?_;obtain rfl:=os hf;exact a0d ⟨trivial,trivial⟩ rfl (.refl _)
 ·refine y5 rfl (bf c3)<|a0e<|a0f<|o6<|sr<|l9 (.int .i64 0) rfl<|dk<|?_
  obtain ⟨p124,hb1,hf⟩:=ob hf
  refine a2i (X:={q:Unit // p124 = .go q}) (fun q => ([(0,(.lst 3 (d_1.map l7)))],[])) ?_ ?_
  ·refine a1m (X:={q:Nat // a5d d_1 (d_1.drop q) q = some p124}) (fun q => ([(0,(.lst 3 (d_1.map l7))),(3,(.int .i64 (q.1:Int)))],[])) (fun q => d_1.length - q.1) ⟨0,hb1⟩ ⟨[],[],_,_,rfl,rfl,⟨.refl _,⟨.refl _,trivial⟩⟩,(.refl _)⟩ ?_
   rintro ⟨i_83,hc1⟩
   have hc1:a5d d_1 (d_1.drop i_83) i_83 = some p124:=hc1
   refine (show awp Tryz.prog false 0 _ (ofL [(0,(.lst 3 (d_1.map l7))),(3,(.int .i64 (i_83:Int)))]) [] _ from ?_)
   rcases a5p d_1 i_83 with ⟨hie127,hd130⟩ | ⟨hlt125,x_131,hx126,hd130⟩
   ·rw [hd130,a5d.eq_1] at hc1
    have hq129:=dlf hie127
    refine o6<|sr<|l9 (.int .i64 (i_83:Int)) rfl<|l9 (.lst 3 (d_1.map l7)) rfl<|a1e (a1p (enc:=l7) rfl) fun hl132 => o7 (.bool (decide ((i_83:Int) < (d_1.length:Int)))) rfl rfl rfl<|dk<|y5 rfl hq129<|a2u<|a2t<|a1x<|a2s<|?_;obtain rfl:=os hc1;exact a3h ⟨_,rfl⟩ ⟨[],[],_,_,rfl,rfl,⟨.refl _,trivial⟩,(.refl _)⟩
   ·rw [hd130,a5d.eq_2] at hc1
    have hq129:=dlt hlt125
    refine o6<|sr<|l9 (.int .i64 (i_83:Int)) rfl<|l9 (.lst 3 (d_1.map l7)) rfl<|a1e (a1p (enc:=l7) rfl) fun hl133 => o7 (.bool (decide ((i_83:Int) < (d_1.length:Int)))) rfl rfl rfl<|dk<|x9 rfl hq129<|a0e<|a0f<|o6<|a3c<|o6<|?_
    obtain ⟨s47_145,hb2,hc1⟩:=ob hc1
    refine a1k ([(0,(.lst 3 (d_1.map l7))),(3,(.int .i64 (i_83:Int))),(47,(.bool s47_145))],[]) ?_ ?_
    ·refine a0k<|l9 (.lst 3 (d_1.map l7)) rfl<|l9 (.int .i64 (i_83:Int)) rfl<|x8 (a1r (enc:=l7) rfl rfl hx126)<|o7 (l7 x_131) rfl nle rfl<|?_
     obtain ⟨r_147,er148,hb2⟩:=ob hb2
     refine a2j (a0g (c5s _ _ er148) rfl (.refl _) rfl) a6a trivial<|o7 (.bool (!r_147)) rfl trivial rfl<|l9 (.bool (!r_147)) rfl<|?_
     rcases oi hb2 with ⟨c149,hb2⟩ | ⟨c149,hb2⟩
     ·refine a0u (s:=19) (b:=true) rfl c149<|o9 rfl rfl<|o9 rfl rfl<|o9 rfl rfl<|o9 rfl rfl<|o9 rfl rfl<|o9 rfl rfl<|o9 rfl rfl<|o9 rfl rfl<|o9 rfl rfl<|o9 rfl rfl<|o7 (.bool true) rfl trivial rfl<|l9 (.bool true) rfl<|o9 rfl rfl<|o9 rfl rfl<|o9 rfl rfl<|a1y rfl<|a1y rfl<|a1y rfl<|a1y rfl<|a1y rfl<|a1y rfl<|a1y rfl<|a1y rfl<|a1y rfl<|c2j rfl trivial<|a1y rfl<|o9 rfl rfl<|o7 (.bool true) rfl trivial rfl<|y7<|?_;obtain rfl:=os hb2;exact ⟨[],[],_,_,rfl,rfl,⟨.refl _,⟨.refl _,⟨.refl _,trivial⟩⟩⟩,(.refl _)⟩
     ·refine a0u (s:=19) (b:=false) rfl (bf c149)<|s_on rfl<|l9 (.lst 3 (d_1.map l7)) rfl<|s_on rfl<|l9 (.int .i64 (i_83:Int)) rfl<|s_on rfl<|x8 (a1r (enc:=l7) rfl rfl hx126)<|s_on rfl<|o7 (.iptr (l7 x_131) 0) rfl trivial rfl<|s_on rfl<|o7 (.int .i64 x_131.Kind) rfl nle rfl<|s_on rfl<|l9 (.lst 3 (d_1.map l7)) rfl<|s_on rfl<|?_
      obtain ⟨x_150,ex151,hb2⟩:=ob hb2
      refine x8 (a3l (enc:=l7) rfl rfl (a8m ex151) (a8n ex151))<|s_on rfl<|o7 (.iptr (l7 x_150) 0) rfl trivial rfl<|s_on rfl<|o7 (.int .i64 x_150.Kind) rfl nle rfl<|s_on rfl<|o7 (.bool (x_131.Kind != x_150.Kind)) rfl rfl rfl<|o7 (.bool (x_131.Kind != x_150.Kind)) rfl trivial rfl<|l9 (.bool (x_131.Kind != x_150.Kind)) rfl<|?_
      rcases oi hb2 with ⟨c152,hb2⟩ | ⟨c152,hb2⟩
      ·refine a0u (s:=31) (b:=true) rfl c152<|o9 rfl rfl<|o9 rfl rfl<|o9 rfl rfl<|a1y rfl<|a1y rfl<|a1y rfl<|a1y rfl<|a1y rfl<|a1y rfl<|a1y rfl<|a1y rfl<|a1y rfl<|c2j rfl trivial<|a1y rfl<|o9 rfl rfl<|o7 (.bool true) rfl trivial rfl<|y7<|?_;obtain rfl:=os hb2;exact ⟨[],[],_,_,rfl,rfl,⟨.refl _,⟨.refl _,⟨.refl _,trivial⟩⟩⟩,(.refl _)⟩
      ·refine a0u (s:=31) (b:=false) rfl (bf c152)<|s_on rfl<|l9 (.int .i64 (i_83:Int)) rfl<|s_on rfl<|o7 (.bool (decide ((i_83:Int) > 0))) rfl rfl rfl<|s_on rfl<|l9 (.bool (decide ((i_83:Int) > 0))) rfl<|?_
       rcases oi hb2 with ⟨c153,hb2⟩ | ⟨c153,hb2⟩
       ·refine a0u (s:=34) (b:=true) rfl c153<|s_on rfl<|l9 (.lst 3 (d_1.map l7)) rfl<|s_on rfl<|l9 (.int .i64 (i_83:Int)) rfl<|s_on rfl<|o7 (.int .i64 (w64 ((i_83:Int) - 1))) rfl rfl rfl<|s_on rfl<|?_
        obtain ⟨x_154,ex155,hb2⟩:=ob hb2
        refine x8 (a3l (enc:=l7) rfl rfl (a8m ex155) (a8n ex155))<|s_on rfl<|o7 (l7 x_154) rfl nle rfl<|s_on rfl<|l9 (.lst 3 (d_1.map l7)) rfl<|s_on rfl<|l9 (.int .i64 (i_83:Int)) rfl<|s_on rfl<|x8 (a1r (enc:=l7) rfl rfl hx126)<|s_on rfl<|o7 (l7 x_131) rfl nle rfl<|b8x rfl<|?_
        obtain ⟨r_156,er157,hb2⟩:=ob hb2
        refine a2j (a0g (b2u _ _ _ er157) rfl (.refl _) rfl) a6a trivial<|s_on rfl<|o7 (.bool (decide (r_156 ≥ 0))) rfl rfl rfl<|s_on rfl<|o7 (.bool (decide (r_156 ≥ 0))) rfl trivial rfl<|o7 (.bool (decide (r_156 ≥ 0))) rfl trivial rfl<|y7<|?_;obtain rfl:=os hb2;exact ⟨[],[],_,_,rfl,rfl,⟨.refl _,⟨.refl _,⟨.refl _,trivial⟩⟩⟩,(.refl _)⟩
       ·refine a0u (s:=34) (b:=false) rfl (bf c153)<|o9 rfl rfl<|o9 rfl rfl<|o9 rfl rfl<|o9 rfl rfl<|o9 rfl rfl<|o9 rfl rfl<|o9 rfl rfl<|o9 rfl rfl<|o9 rfl rfl<|b5e rfl rfl trivial<|o9 rfl rfl<|s_on rfl<|o7 (.bool false) rfl trivial rfl<|o7 (.bool false) rfl trivial rfl<|y7<|?_;obtain rfl:=os hb2;exact ⟨[],[],_,_,rfl,rfl,⟨.refl _,⟨.refl _,⟨.refl _,trivial⟩⟩⟩,(.refl _)⟩
    ·rcases oi hc1 with ⟨d4y,hc1⟩ | ⟨d4y,hc1⟩
     ·refine x9 rfl d4y<|sr<|l9 (.bool false) rfl<|dk<|a0a<|?_;obtain rfl:=os hc1;obtain rfl:=os hf;exact a0d ⟨trivial,trivial⟩ rfl (.refl _)
     ·refine y5 rfl (bf d4y)<|a0e<|a2c<|a0f<|a0k<|l9 (.int .i64 (i_83:Int)) rfl<|o7 (.int .i64 (w64 ((i_83:Int) + 1))) rfl rfl rfl<|l9 (.int .i64 (w64 ((i_83:Int) + 1))) rfl<|y7<|?_;exact a1t ⟨(i_83 + 1),hc1⟩ (mul hlt125) ⟨[],[],_,_,rfl,rfl,⟨.refl _,⟨.of_eq (congrArg (AV.int _) (a1w hlt125 hl133)),trivial⟩⟩,(.refl _)⟩
  ·rintro ⟨_,rfl⟩
   refine sr<|l9 (.lst 3 (d_1.map l7)) rfl<|a1e (a1p (enc:=l7) rfl) fun hl159 => o7 (.bool (decide ((d_1.length:Int) ≤ 8))) rfl rfl rfl<|l9 (.bool (decide ((d_1.length:Int) ≤ 8))) rfl<|dk<|a0a<|?_;obtain rfl:=os hf;exact a0d ⟨trivial,trivial⟩ rfl (.refl _)

/- spec.l04Fits -/
def e6l:a0n :=
 (.seq (.reg (tq 2 (.box 8 (.t 0)) (tm 4 (.c (.int .i64 0)) .done)))
 (.seq (.seq (.reg (tm 6 (.t 1) (tq 7 (.len (.t 6)) (tq 8 (.bin .gtr (.t 7) (.c (.int .i64 0))) (tm 9 (.t 8) (tg 10 9 true (.mov (.t 1)) (tg 11 9 true (.iaddr 3 (.t 10) (.c (.int .i64 0))) (tg 12 9 true (.faddr 0 (.t 11)) (tg 13 9 true (.load 1 false (.t 12)) (tg 14 9 true (.faddr 1 (.t 2)) (tg 15 9 true (.load 1 false (.t 14)) (tg 16 9 true (.bin .neq (.t 13) (.t 15)) (tq 17 (.pick (.t 9) (.t 16) (.c (.bool false))) .done)))))))))))))
 (.cut (.cond (.t 17) (.seq (.reg (tm 4 (.c (.int .i64 9)) .done))
 .ret)
 .skip)))
 (.seq (.seq (.reg (tm 18 (.t 1) (tq 19 (.len (.t 18)) (tq 20 (.faddr 2 (.t 2)) (tq 21 (.load 1 false (.t 20)) (tq 22 (.faddr 3 (.t 2)) (tq 23 (.load 1 false (.t 22)) (tq 24 (.call 158 [(.t 19),(.t 21),(.t 23)]) (tq 25 (.not (.t 24)) .done)))))))))
 (.cond (.t 25) (.seq (.reg (tm 4 (.c (.int .i64 6)) .done))
 .ret)
 .skip))
 (.seq (.seq (.reg (tm 5 (.c (.int .i64 0)) .done))
 (.block 0 (.loop (.seq (.seq (.reg (tm 26 (.t 5) (tm 27 (.t 1) (tq 28 (.len (.t 27)) (tq 29 (.bin .lss (.t 26) (.t 28)) .done)))))
 (.cond (.t 29) .skip
 (.exit 0)))
 (.seq (.block 1 (.seq (.reg (tq 32 (.faddr 1 (.t 2)) (tq 33 (.load 1 false (.t 32)) (tq 34 (.bin .eql (.t 33) (.c (.int .i64 1))) (tm 35 (.t 34) (tg 36 35 true (.mov (.t 1)) (tg 37 35 true (.mov (.t 5)) (tg 38 35 true (.iaddr 3 (.t 36) (.t 37)) (tg 39 35 true (.faddr 1 (.t 38)) (tg 40 35 true (.load 1 false (.t 39)) (tg 41 35 true (.faddr 4 (.t 2)) (tg 42 35 true (.load 1 false (.t 41)) (tg 43 35 true (.faddr 5 (.t 2)) (tg 44 35 true (.load 1 false (.t 43)) (.l ⟨(some 45),(some (35,true)),.call 158 [(.t 40),(.t 42),(.t 44)]⟩ []
 (tg 46 35 true (.not (.t 45)) (tq 47 (.pick (.t 35) (.t 46) (.c (.bool false))) .done)) .non)))))))))))))))
 (.cut (.cond (.t 47) (.seq (.reg (tm 4 (.c (.int .i64 4)) .done))
 .ret)
 .skip))))
 (.reg (tm 30 (.t 5) (tq 31 (.bin .add (.t 30) (.c (.int .i64 1))) (tm 5 (.t 31) .done)))))))))
 (.cut (.seq (.reg (tm 4 (.c (.int .i64 0)) .done))
 .ret))))))
theorem e6m:a1c Tryz.prog Tryz.f356 = some (e6l.erase,[.mov (.t 4)],48):=by kernel_rfl
def a5e (c_1:a0m):List o8 → Option (Fl Int Unit)
  | [] =>
    some (.go ())
  | x_73 :: xs =>
    ((if (c_1.Kind == 1) then
    (a3r x_73.N c_1.Low c_1.High).bind fun r_82 =>
    some (!r_82)
    else
    some false:Option Bool)).bind fun s47_79 =>
    if s47_79 then
    some (.ret 4)
    else
    a5e c_1 xs 

def a9n (c_1:a0m) (d_2:(List o8)):Option Int :=
    ((if (decide ((d_2.length:Int) > 0)) then
    (idx d_2 0).bind fun x_11 =>
    some (x_11.Kind != c_1.Kind)
    else
    some false:Option Bool)).bind fun s17_7 =>
    if s17_7 then
    some 9
    else
    (a3r (d_2.length:Int) c_1.Min c_1.Max).bind fun r_15 =>
    if (!r_15) then
    some 6
    else
    (a5e c_1 d_2 ).bind fun q => (match q with
    | .ret r => some r
    | .go _ =>
    some 0)
theorem b6j (c_1:a0m) (d_2:(List o8)) (r:Int) (hf:a9n c_1 d_2 = some r):y8 Tryz.prog 356 .flat [(o5 c_1),(.lst 3 (d_2.map l7))] (.int .i64 r):=by
 refine y8.of_awp mixed Tryz.func356 e6m nle ?_;rw [a0h];unfold a9n at hf;unfold e6l;refine (show awp Tryz.prog false 0 _ (ofL [(0,(o5 c_1)),(1,(.lst 3 (d_2.map l7)))]) [] _ from ?_);refine sr<|x8 (a1o (j:=0) (c:=(.agg [(.str c_1.Name),(.int .i64 c_1.Kind),(.int .i64 c_1.Min),(.int .i64 c_1.Max),(.int .i64 c_1.Low),(.int .i64 c_1.High),(.str c_1.Ref),(.bool c_1.Strong)])) rfl trivial rfl rfl)<|l9 (.int .i64 0) rfl<|dk<|o6<|o6<|?_
 obtain ⟨s17_7,hb1,hf⟩:=ob hf
 refine a1k ([(1,(.lst 3 (d_2.map l7))),(2,(.ptr 0 0 0)),(17,(.bool s17_7))],[.box 8 (.agg [(.str c_1.Name),(.int .i64 c_1.Kind),(.int .i64 c_1.Min),(.int .i64 c_1.Max),(.int .i64 c_1.Low),(.int .i64 c_1.High),(.str c_1.Ref),(.bool c_1.Strong)])]) ?_ ?_
 ·refine a0k ?_
  rcases oi hb1 with ⟨c10,hb1⟩ | ⟨c10,hb1⟩
  ·obtain ⟨x_11,ex12,hb1⟩:=ob hb1
   refine l9 (.lst 3 (d_2.map l7)) rfl<|a1e (a1p (enc:=l7) rfl) fun hl9 => o7 (.bool (decide ((d_2.length:Int) > 0))) rfl rfl rfl<|l9 (.bool (decide ((d_2.length:Int) > 0))) rfl<|a0u (s:=9) (b:=true) rfl c10<|s_on rfl<|l9 (.lst 3 (d_2.map l7)) rfl<|s_on rfl<|x8 (a3l (enc:=l7) rfl rfl (a8m ex12) (a8n ex12))<|s_on rfl<|o7 (.iptr (l7 x_11) 0) rfl trivial rfl<|s_on rfl<|o7 (.int .i64 x_11.Kind) rfl nle rfl<|s_on rfl<|o7 (.ptr 0 0 1) rfl trivial rfl<|s_on rfl<|o7 (.int .i64 c_1.Kind) rfl nle rfl<|s_on rfl<|o7 (.bool (x_11.Kind != c_1.Kind)) rfl rfl rfl<|o7 (.bool (x_11.Kind != c_1.Kind)) rfl trivial rfl<|?_
   refine y7 ?_;obtain rfl:=os hb1;exact ⟨[],[0],_,_,rfl,rfl,⟨.refl _,⟨.refl _,⟨.refl _,trivial⟩⟩⟩,(.refl _)⟩
  ·refine l9 (.lst 3 (d_2.map l7)) rfl<|a1e (a1p (enc:=l7) rfl) fun hl9 => o7 (.bool (decide ((d_2.length:Int) > 0))) rfl rfl rfl<|l9 (.bool (decide ((d_2.length:Int) > 0))) rfl<|a0u (s:=9) (b:=false) rfl (bf c10)<|o9 rfl rfl<|o9 rfl rfl<|o9 rfl rfl<|o9 rfl rfl<|o9 rfl rfl<|o9 rfl rfl<|o9 rfl rfl<|o7 (.bool false) rfl trivial rfl<|y7<|?_;obtain rfl:=os hb1;exact ⟨[],[0],_,_,rfl,rfl,⟨.refl _,⟨.refl _,⟨.refl _,trivial⟩⟩⟩,(.refl _)⟩
 ·rcases oi hf with ⟨c13,hf⟩ | ⟨c13,hf⟩
  ·refine x9 rfl c13<|sr<|l9 (.int .i64 9) rfl<|dk<|a0a<|?_;obtain rfl:=os hf;exact a0d ⟨trivial,trivial⟩ rfl (.refl _)
  ·refine y5 rfl (bf c13)<|a0e<|a0f<|o6<|sr<|?_
   obtain ⟨r_15,er16,hf⟩:=ob hf
   refine l9 (.lst 3 (d_2.map l7)) rfl<|a1e (a1p (enc:=l7) rfl) fun hl14 => o7 (.ptr 0 0 2) rfl trivial rfl<|o7 (.int .i64 c_1.Min) rfl nle rfl<|o7 (.ptr 0 0 3) rfl trivial rfl<|o7 (.int .i64 c_1.Max) rfl nle rfl<|x8 (a0g (a3b _ _ _ _ er16) rfl (.refl _) rfl)<|o7 (.bool (!r_15)) rfl trivial rfl<|dk<|?_
   rcases oi hf with ⟨c17,hf⟩ | ⟨c17,hf⟩
   ·refine x9 rfl c17<|sr<|l9 (.int .i64 6) rfl<|dk<|a0a<|?_;obtain rfl:=os hf;exact a0d ⟨trivial,trivial⟩ rfl (.refl _)
   ·refine y5 rfl (bf c17)<|a0e<|a0f<|o6<|sr<|l9 (.int .i64 0) rfl<|dk<|?_
    obtain ⟨p66,hb1,hf⟩:=ob hf
    refine a2i (X:={q:Unit // p66 = .go q}) (fun q => ([],[])) ?_ ?_
    ·refine a1m (X:={q:Nat // a5e c_1 (d_2.drop q)  = some p66}) (fun q => ([(1,(.lst 3 (d_2.map l7))),(2,(.ptr 0 0 0)),(5,(.int .i64 (q.1:Int)))],[.box 8 (.agg [(.str c_1.Name),(.int .i64 c_1.Kind),(.int .i64 c_1.Min),(.int .i64 c_1.Max),(.int .i64 c_1.Low),(.int .i64 c_1.High),(.str c_1.Ref),(.bool c_1.Strong)])])) (fun q => d_2.length - q.1) ⟨0,hb1⟩ ⟨[],[0],_,_,rfl,rfl,⟨.refl _,⟨.refl _,⟨.refl _,trivial⟩⟩⟩,(.refl _)⟩ ?_
     rintro ⟨i_49,hc1⟩
     have hc1:a5e c_1 (d_2.drop i_49)  = some p66:=hc1
     refine (show awp Tryz.prog false 0 _ (ofL [(1,(.lst 3 (d_2.map l7))),(2,(.ptr 0 0 0)),(5,(.int .i64 (i_49:Int)))]) [.box 8 (.agg [(.str c_1.Name),(.int .i64 c_1.Kind),(.int .i64 c_1.Min),(.int .i64 c_1.Max),(.int .i64 c_1.Low),(.int .i64 c_1.High),(.str c_1.Ref),(.bool c_1.Strong)])] _ from ?_)
     rcases a5p d_2 i_49 with ⟨hie69,hd72⟩ | ⟨hlt67,x_73,hx68,hd72⟩
     ·rw [hd72,a5e.eq_1] at hc1
      have hq71:=dlf hie69
      refine o6<|sr<|l9 (.int .i64 (i_49:Int)) rfl<|l9 (.lst 3 (d_2.map l7)) rfl<|a1e (a1p (enc:=l7) rfl) fun hl74 => o7 (.bool (decide ((i_49:Int) < (d_2.length:Int)))) rfl rfl rfl<|dk<|y5 rfl hq71<|a2u<|a2t<|a1x<|a2s<|?_;obtain rfl:=os hc1;exact a3h ⟨_,rfl⟩ ⟨[],[],_,_,rfl,rfl,trivial,(.refl _)⟩
     ·rw [hd72,a5e.eq_2] at hc1
      have hq71:=dlt hlt67
      refine o6<|sr<|l9 (.int .i64 (i_49:Int)) rfl<|l9 (.lst 3 (d_2.map l7)) rfl<|a1e (a1p (enc:=l7) rfl) fun hl75 => o7 (.bool (decide ((i_49:Int) < (d_2.length:Int)))) rfl rfl rfl<|dk<|x9 rfl hq71<|a0e<|a0f<|o6<|a3c<|o6<|?_
      obtain ⟨s47_79,hb2,hc1⟩:=ob hc1
      refine a1k ([(1,(.lst 3 (d_2.map l7))),(2,(.ptr 0 0 0)),(5,(.int .i64 (i_49:Int))),(47,(.bool s47_79))],[.box 8 (.agg [(.str c_1.Name),(.int .i64 c_1.Kind),(.int .i64 c_1.Min),(.int .i64 c_1.Max),(.int .i64 c_1.Low),(.int .i64 c_1.High),(.str c_1.Ref),(.bool c_1.Strong)])]) ?_ ?_
      ·refine a0k<|o7 (.ptr 0 0 1) rfl trivial rfl<|o7 (.int .i64 c_1.Kind) rfl nle rfl<|o7 (.bool (c_1.Kind == 1)) rfl rfl rfl<|l9 (.bool (c_1.Kind == 1)) rfl<|?_
       rcases oi hb2 with ⟨c81,hb2⟩ | ⟨c81,hb2⟩
       ·refine a0u (s:=35) (b:=true) rfl c81<|s_on rfl<|l9 (.lst 3 (d_2.map l7)) rfl<|s_on rfl<|l9 (.int .i64 (i_49:Int)) rfl<|s_on rfl<|x8 (a1r (enc:=l7) rfl rfl hx68)<|s_on rfl<|o7 (.iptr (l7 x_73) 1) rfl trivial rfl<|s_on rfl<|o7 (.int .i64 x_73.N) rfl nle rfl<|s_on rfl<|o7 (.ptr 0 0 4) rfl trivial rfl<|s_on rfl<|o7 (.int .i64 c_1.Low) rfl nle rfl<|s_on rfl<|o7 (.ptr 0 0 5) rfl trivial rfl<|s_on rfl<|o7 (.int .i64 c_1.High) rfl nle rfl<|b8x rfl<|?_
        obtain ⟨r_82,er83,hb2⟩:=ob hb2
        refine a2j (a0g (a3b _ _ _ _ er83) rfl (.refl _) rfl) a6a trivial<|s_on rfl<|o7 (.bool (!r_82)) rfl trivial rfl<|o7 (.bool (!r_82)) rfl trivial rfl<|y7<|?_;obtain rfl:=os hb2;exact ⟨[],[0],_,_,rfl,rfl,⟨.refl _,⟨.refl _,⟨.refl _,⟨.refl _,trivial⟩⟩⟩⟩,(.refl _)⟩
       ·refine a0u (s:=35) (b:=false) rfl (bf c81)<|o9 rfl rfl<|o9 rfl rfl<|o9 rfl rfl<|o9 rfl rfl<|o9 rfl rfl<|o9 rfl rfl<|o9 rfl rfl<|o9 rfl rfl<|o9 rfl rfl<|b5e rfl rfl trivial<|o9 rfl rfl<|o7 (.bool false) rfl trivial rfl<|y7<|?_;obtain rfl:=os hb2;exact ⟨[],[0],_,_,rfl,rfl,⟨.refl _,⟨.refl _,⟨.refl _,⟨.refl _,trivial⟩⟩⟩⟩,(.refl _)⟩
      ·rcases oi hc1 with ⟨c84,hc1⟩ | ⟨c84,hc1⟩
       ·refine x9 rfl c84<|sr<|l9 (.int .i64 4) rfl<|dk<|a0a<|?_;obtain rfl:=os hc1;obtain rfl:=os hf;exact a0d ⟨trivial,trivial⟩ rfl (.refl _)
       ·refine y5 rfl (bf c84)<|a0e<|a2c<|a0f<|a0k<|l9 (.int .i64 (i_49:Int)) rfl<|o7 (.int .i64 (w64 ((i_49:Int) + 1))) rfl rfl rfl<|l9 (.int .i64 (w64 ((i_49:Int) + 1))) rfl<|y7<|?_;exact a1t ⟨(i_49 + 1),hc1⟩ (mul hlt67) ⟨[],[0],_,_,rfl,rfl,⟨.refl _,⟨.refl _,⟨.of_eq (congrArg (AV.int _) (a1w hlt67 hl75)),trivial⟩⟩⟩,(.refl _)⟩
    ·rintro ⟨_,rfl⟩
     refine sr<|l9 (.int .i64 0) rfl<|dk<|a0a<|?_;obtain rfl:=os hf;exact a0d ⟨trivial,trivial⟩ rfl (.refl _)

/- spec.l05Row -/
def e6n:a0n :=
 (.seq (.reg (tq 2 (.box 4 (.t 0)) (tq 3 (.box 2 (.t 1)) (tm 4 (.c (.bool false)) .done))))
 (.seq (.seq (.reg (tq 6 (.faddr 0 (.t 3)) (tq 7 (.load 1 false (.t 6)) (tq 8 (.call 158 [(.t 7),(.c (.int .i64 1)),(.c (.int .i64 1000000))]) (tq 9 (.not (.t 8)) (tm 10 (.t 9) (tg 11 10 false (.faddr 1 (.t 3)) (tg 12 10 false (.load 1 false (.t 11)) (tg 13 10 false (.len (.t 12)) (tg 14 10 false (.faddr 1 (.t 2)) (tg 15 10 false (.load 1 false (.t 14)) (tg 16 10 false (.len (.t 15)) (tg 17 10 false (.bin .neq (.t 13) (.t 16)) (tq 18 (.pick (.t 10) (.c (.bool true)) (.t 17)) .done))))))))))))))
 (.cut (.cond (.t 18) (.seq (.reg (tm 4 (.c (.bool false)) .done))
 .ret)
 .skip)))
 (.seq (.seq (.reg (tm 5 (.c (.int .i64 0)) .done))
 (.block 0 (.loop (.seq (.seq (.reg (tm 19 (.t 5) (tq 20 (.faddr 1 (.t 3)) (tq 21 (.load 1 false (.t 20)) (tq 22 (.len (.t 21)) (tq 23 (.bin .lss (.t 19) (.t 22)) .done))))))
 (.cond (.t 23) .skip
 (.exit 0)))
 (.seq (.block 1 (.seq (.reg (tq 26 (.faddr 1 (.t 3)) (tq 27 (.load 1 false (.t 26)) (tm 28 (.t 5) (tq 29 (.iaddr 1 (.t 27) (.t 28)) (tq 30 (.load 1 false (.t 29)) (.l ⟨(some 31),none,.call 170 [(.t 30)]⟩ []
 (tq 32 (.not (.t 31)) (tm 33 (.t 32) (tg 34 33 false (.faddr 1 (.t 2)) (tg 35 33 false (.load 1 false (.t 34)) (tg 36 33 false (.mov (.t 5)) (tg 37 33 false (.iaddr 8 (.t 35) (.t 36)) (tg 38 33 false (.load 8 true (.t 37)) (tg 39 33 false (.faddr 1 (.t 3)) (tg 40 33 false (.load 1 false (.t 39)) (tg 41 33 false (.mov (.t 5)) (tg 42 33 false (.iaddr 1 (.t 40) (.t 41)) (tg 43 33 false (.load 1 false (.t 42)) (.l ⟨(some 44),(some (33,false)),.call 356 [(.t 38),(.t 43)]⟩ []
 (tg 45 33 false (.bin .neq (.t 44) (.c (.int .i64 0))) (tq 46 (.pick (.t 33) (.c (.bool true)) (.t 45)) .done)) .non))))))))))))) .non)))))))
 (.cut (.cond (.t 46) (.seq (.reg (tm 4 (.c (.bool false)) .done))
 .ret)
 .skip))))
 (.reg (tm 24 (.t 5) (tq 25 (.bin .add (.t 24) (.c (.int .i64 1))) (tm 5 (.t 25) .done)))))))))
 (.cut (.seq (.reg (tm 4 (.c (.bool true)) .done))
 .ret)))))
theorem e6o:a1c Tryz.prog Tryz.f256 = some (e6n.erase,[.mov (.t 4)],47):=by kernel_rfl
def a5v (t_1:a0w):List (List o8) → Nat → Option (Fl Bool Unit)
  | [],i_69 =>
    some (.go ())
  | x_105 :: xs,i_69 =>
    (((a9m x_105).bind fun r_117 =>
    if (!r_117) then
    some true
    else
    (idx t_1.Columns (i_69:Int)).bind fun x_120 =>
    (a9n x_120 x_105).bind fun r_122 =>
    some (r_122 != 0):Option Bool)).bind fun s46_115 =>
    if s46_115 then
    some (.ret false)
    else
    a5v t_1 xs (i_69 + 1)

def b2p (t_1:a0w) (r_2:a4p):Option Bool :=
    (((a3r r_2.Id 1 1000000).bind fun r_9 =>
    some (bif (!r_9) then true else ((r_2.Cells.length:Int) != (t_1.Columns.length:Int))):Option Bool)).bind fun s18_7 =>
    if s18_7 then
    some false
    else
    (a5v t_1 r_2.Cells 0).bind fun q => (match q with
    | .ret r => some r
    | .go _ =>
    some true)
theorem c5t (t_1:a0w) (r_2:a4p) (r:Bool) (hf:b2p t_1 r_2 = some r):y8 Tryz.prog 256 .flat [(a1b t_1),(a3g r_2)] (.bool r):=by
 refine y8.of_awp mixed Tryz.func256 e6o nle ?_;rw [a0h];unfold b2p at hf;unfold e6n;refine (show awp Tryz.prog false 0 _ (ofL [(0,(a1b t_1)),(1,(a3g r_2))]) [] _ from ?_);refine sr<|x8 (a1o (j:=0) (c:=(.agg [(.str t_1.Name),(.lst 8 (t_1.Columns.map o5)),(.lst 1 (t_1.Unique.map encI)),(.bool t_1.Root)])) rfl trivial rfl rfl)<|x8 (a1o (j:=1) (c:=(.agg [(.int .i64 r_2.Id),(.lst 1 (r_2.Cells.map (a1n 3 l7)))])) rfl trivial rfl rfl)<|l9 (.bool false) rfl<|dk<|o6<|o6<|?_
 obtain ⟨s18_7,hb1,hf⟩:=ob hf
 refine a1k ([(2,(.ptr 0 0 0)),(3,(.ptr 1 0 0)),(18,(.bool s18_7))],[.box 4 (.agg [(.str t_1.Name),(.lst 8 (t_1.Columns.map o5)),(.lst 1 (t_1.Unique.map encI)),(.bool t_1.Root)]),.box 2 (.agg [(.int .i64 r_2.Id),(.lst 1 (r_2.Cells.map (a1n 3 l7)))])]) ?_ ?_
 ·refine a0k<|o7 (.ptr 1 0 0) rfl trivial rfl<|o7 (.int .i64 r_2.Id) rfl nle rfl<|?_
  obtain ⟨r_9,er10,hb1⟩:=ob hb1
  refine x8 (a0g (a3b _ _ _ _ er10) rfl (.refl _) rfl)<|o7 (.bool (!r_9)) rfl trivial rfl<|l9 (.bool (!r_9)) rfl<|?_;refine s_g (v:=(!r_9)) (.ptr 1 0 1) rfl (fun hv => by (try simp only [a0i hv]);exact ⟨rfl,trivial,rfl⟩) ?_;refine s_g (v:=(!r_9)) (.lst 1 (r_2.Cells.map (a1n 3 l7))) rfl (fun hv => by (try simp only [a0i hv]);exact ⟨rfl,nle,rfl⟩) ?_;refine s_g (v:=(!r_9)) (.int .i64 (r_2.Cells.length:Int)) rfl (fun hv => by (try simp only [a0i hv]);exact ⟨rfl,trivial,lenV _ _⟩) ?_;refine s_g (v:=(!r_9)) (.ptr 0 0 1) rfl (fun hv => by (try simp only [a0i hv]);exact ⟨rfl,trivial,rfl⟩) ?_;refine s_g (v:=(!r_9)) (.lst 8 (t_1.Columns.map o5)) rfl (fun hv => by (try simp only [a0i hv]);exact ⟨rfl,nle,rfl⟩) ?_
  refine s_g (v:=(!r_9)) (.int .i64 (t_1.Columns.length:Int)) rfl (fun hv => by (try simp only [a0i hv]);exact ⟨rfl,trivial,lenV _ _⟩) ?_;refine s_g (v:=(!r_9)) (.bool ((r_2.Cells.length:Int) != (t_1.Columns.length:Int))) rfl (fun hv => by (try simp only [a0i hv]);exact ⟨rfl,rfl,rfl⟩) ?_;refine a6l (x:=true) (y:=((r_2.Cells.length:Int) != (t_1.Columns.length:Int))) rfl (fun hv => by (try simp only [a0i hv]);rfl) (fun hv => by (try simp only [a0i hv]);rfl) ?_;refine y7 ?_;obtain rfl:=os hb1;exact ⟨[],[0,1],_,_,rfl,rfl,⟨.refl _,⟨.refl _,⟨.refl _,trivial⟩⟩⟩,(.refl _)⟩
 ·rcases oi hf with ⟨c13,hf⟩ | ⟨c13,hf⟩
  ·refine x9 rfl c13<|sr<|l9 (.bool false) rfl<|dk<|a0a<|?_;obtain rfl:=os hf;exact a0d ⟨trivial,trivial⟩ rfl (.refl _)
  ·refine y5 rfl (bf c13)<|a0e<|a0f<|o6<|sr<|l9 (.int .i64 0) rfl<|dk<|?_
   obtain ⟨p98,hb1,hf⟩:=ob hf
   refine a2i (X:={q:Unit // p98 = .go q}) (fun q => ([],[])) ?_ ?_
   ·refine a1m (X:={q:Nat // a5v t_1 (r_2.Cells.drop q) q = some p98}) (fun q => ([(2,(.ptr 0 0 0)),(3,(.ptr 1 0 0)),(5,(.int .i64 (q.1:Int)))],[.box 4 (.agg [(.str t_1.Name),(.lst 8 (t_1.Columns.map o5)),(.lst 1 (t_1.Unique.map encI)),(.bool t_1.Root)]),.box 2 (.agg [(.int .i64 r_2.Id),(.lst 1 (r_2.Cells.map (a1n 3 l7)))])])) (fun q => r_2.Cells.length - q.1) ⟨0,hb1⟩ ⟨[],[0,1],_,_,rfl,rfl,⟨.refl _,⟨.refl _,⟨.refl _,trivial⟩⟩⟩,(.refl _)⟩ ?_
    rintro ⟨i_69,hc1⟩
    have hc1:a5v t_1 (r_2.Cells.drop i_69) i_69 = some p98:=hc1
    refine (show awp Tryz.prog false 0 _ (ofL [(2,(.ptr 0 0 0)),(3,(.ptr 1 0 0)),(5,(.int .i64 (i_69:Int)))]) [.box 4 (.agg [(.str t_1.Name),(.lst 8 (t_1.Columns.map o5)),(.lst 1 (t_1.Unique.map encI)),(.bool t_1.Root)]),.box 2 (.agg [(.int .i64 r_2.Id),(.lst 1 (r_2.Cells.map (a1n 3 l7)))])] _ from ?_)
    rcases a5p r_2.Cells i_69 with ⟨hie101,hd104⟩ | ⟨hlt99,x_105,hx100,hd104⟩
    ·rw [hd104,a5v.eq_1] at hc1
     have hq103:=dlf hie101
     refine o6<|sr<|l9 (.int .i64 (i_69:Int)) rfl<|o7 (.ptr 1 0 1) rfl trivial rfl<|o7 (.lst 1 (r_2.Cells.map (a1n 3 l7))) rfl nle rfl<|a1e (a1p (enc:=(a1n 3 l7)) rfl) fun hl106 => o7 (.bool (decide ((i_69:Int) < (r_2.Cells.length:Int)))) rfl rfl rfl<|dk<|y5 rfl hq103<|a2u<|a2t<|a1x<|a2s<|?_;obtain rfl:=os hc1;exact a3h ⟨_,rfl⟩ ⟨[],[],_,_,rfl,rfl,trivial,(.refl _)⟩
    ·rw [hd104,a5v.eq_2] at hc1
     have hq103:=dlt hlt99
     refine o6<|sr<|l9 (.int .i64 (i_69:Int)) rfl<|o7 (.ptr 1 0 1) rfl trivial rfl<|o7 (.lst 1 (r_2.Cells.map (a1n 3 l7))) rfl nle rfl<|a1e (a1p (enc:=(a1n 3 l7)) rfl) fun hl107 => o7 (.bool (decide ((i_69:Int) < (r_2.Cells.length:Int)))) rfl rfl rfl<|dk<|x9 rfl hq103<|a0e<|a0f<|o6<|a3c<|o6<|?_
     obtain ⟨s46_115,hb2,hc1⟩:=ob hc1
     refine a1k ([(2,(.ptr 0 0 0)),(3,(.ptr 1 0 0)),(5,(.int .i64 (i_69:Int))),(46,(.bool s46_115))],[.box 4 (.agg [(.str t_1.Name),(.lst 8 (t_1.Columns.map o5)),(.lst 1 (t_1.Unique.map encI)),(.bool t_1.Root)]),.box 2 (.agg [(.int .i64 r_2.Id),(.lst 1 (r_2.Cells.map (a1n 3 l7)))])]) ?_ ?_
     ·refine a0k<|o7 (.ptr 1 0 1) rfl trivial rfl<|o7 (.lst 1 (r_2.Cells.map (a1n 3 l7))) rfl nle rfl<|l9 (.int .i64 (i_69:Int)) rfl<|x8 (a1r (enc:=(a1n 3 l7)) rfl rfl hx100)<|o7 (.lst 3 (x_105.map l7)) rfl ⟨rfl,rfl⟩ rfl<|?_
      obtain ⟨r_117,er118,hb2⟩:=ob hb2
      refine a2j (a0g (b6i _ _ er118) rfl (.refl _) rfl) a6a trivial<|o7 (.bool (!r_117)) rfl trivial rfl<|l9 (.bool (!r_117)) rfl<|?_
      rcases oi hb2 with ⟨c119,hb2⟩ | ⟨c119,hb2⟩
      ·refine a0u (s:=33) (b:=true) rfl c119<|o9 rfl rfl<|o9 rfl rfl<|o9 rfl rfl<|o9 rfl rfl<|o9 rfl rfl<|o9 rfl rfl<|o9 rfl rfl<|o9 rfl rfl<|o9 rfl rfl<|o9 rfl rfl<|b5e rfl rfl trivial<|o9 rfl rfl<|o7 (.bool true) rfl trivial rfl<|y7<|?_;obtain rfl:=os hb2;exact ⟨[],[0,1],_,_,rfl,rfl,⟨.refl _,⟨.refl _,⟨.refl _,⟨.refl _,trivial⟩⟩⟩⟩,(.refl _)⟩
      ·refine a0u (s:=33) (b:=false) rfl (bf c119)<|s_on rfl<|o7 (.ptr 0 0 1) rfl trivial rfl<|s_on rfl<|o7 (.lst 8 (t_1.Columns.map o5)) rfl nle rfl<|s_on rfl<|l9 (.int .i64 (i_69:Int)) rfl<|s_on rfl<|?_
       obtain ⟨x_120,ex121,hb2⟩:=ob hb2
       refine x8 (a3l (enc:=o5) rfl rfl (a8m ex121) (a8n ex121))<|s_on rfl<|o7 (o5 x_120) rfl nle rfl<|s_on rfl<|o7 (.ptr 1 0 1) rfl trivial rfl<|s_on rfl<|o7 (.lst 1 (r_2.Cells.map (a1n 3 l7))) rfl nle rfl<|s_on rfl<|l9 (.int .i64 (i_69:Int)) rfl<|s_on rfl<|x8 (a1r (enc:=(a1n 3 l7)) rfl rfl hx100)<|s_on rfl<|o7 (.lst 3 (x_105.map l7)) rfl ⟨rfl,rfl⟩ rfl<|b8x rfl<|?_
       obtain ⟨r_122,er123,hb2⟩:=ob hb2
       refine a2j (a0g (b6j _ _ _ er123) rfl (.refl _) rfl) a6a trivial<|s_on rfl<|o7 (.bool (r_122 != 0)) rfl rfl rfl<|o7 (.bool (r_122 != 0)) rfl trivial rfl<|y7<|?_;obtain rfl:=os hb2;exact ⟨[],[0,1],_,_,rfl,rfl,⟨.refl _,⟨.refl _,⟨.refl _,⟨.refl _,trivial⟩⟩⟩⟩,(.refl _)⟩
     ·rcases oi hc1 with ⟨c124,hc1⟩ | ⟨c124,hc1⟩
      ·refine x9 rfl c124<|sr<|l9 (.bool false) rfl<|dk<|a0a<|?_;obtain rfl:=os hc1;obtain rfl:=os hf;exact a0d ⟨trivial,trivial⟩ rfl (.refl _)
      ·refine y5 rfl (bf c124)<|a0e<|a2c<|a0f<|a0k<|l9 (.int .i64 (i_69:Int)) rfl<|o7 (.int .i64 (w64 ((i_69:Int) + 1))) rfl rfl rfl<|l9 (.int .i64 (w64 ((i_69:Int) + 1))) rfl<|y7<|?_;exact a1t ⟨(i_69 + 1),hc1⟩ (mul hlt99) ⟨[],[0,1],_,_,rfl,rfl,⟨.refl _,⟨.refl _,⟨.of_eq (congrArg (AV.int _) (a1w hlt99 hl107)),trivial⟩⟩⟩,(.refl _)⟩
   ·rintro ⟨_,rfl⟩
    refine sr<|l9 (.bool true) rfl<|dk<|a0a<|?_;obtain rfl:=os hf;exact a0d ⟨trivial,trivial⟩ rfl (.refl _)

/- spec.RowOK -/
def e6p:a0n :=
 (.seq (.reg (tq 2 (.box 4 (.t 0)) (tq 3 (.box 2 (.t 1)) (tm 4 (.c (.bool false)) .done))))
 (.seq (.reg (tq 5 (.load 4 true (.t 2)) (tq 6 (.call 137 [(.t 5)]) (tm 7 (.t 6) (tg 8 7 true (.load 4 true (.t 2)) (tg 9 7 true (.load 2 true (.t 3)) (tg 10 7 true (.call 256 [(.t 8),(.t 9)]) (tq 11 (.pick (.t 7) (.t 10) (.c (.bool false))) (tm 4 (.t 11) .done)))))))))
 .ret))
theorem e6q:a1c Tryz.prog Tryz.f128 = some (e6p.erase,[.mov (.t 4)],12):=by kernel_rfl
def b3t (t_1:a0w) (r_2:a4p):Option Bool :=
    (a8f t_1).bind fun r_3 =>
    if r_3 then
    (b2p t_1 r_2).bind fun r_6 =>
    some r_6
    else
    some false
theorem b9h (t_1:a0w) (r_2:a4p) (r:Bool) (hf:b3t t_1 r_2 = some r):y8 Tryz.prog 128 .flat [(a1b t_1),(a3g r_2)] (.bool r):=by
 refine y8.of_awp mixed Tryz.func128 e6q nle ?_;rw [a0h];unfold b3t at hf;unfold e6p;refine (show awp Tryz.prog false 0 _ (ofL [(0,(a1b t_1)),(1,(a3g r_2))]) [] _ from ?_);refine sr<|x8 (a1o (j:=0) (c:=(.agg [(.str t_1.Name),(.lst 8 (t_1.Columns.map o5)),(.lst 1 (t_1.Unique.map encI)),(.bool t_1.Root)])) rfl trivial rfl rfl)<|x8 (a1o (j:=1) (c:=(.agg [(.int .i64 r_2.Id),(.lst 1 (r_2.Cells.map (a1n 3 l7)))])) rfl trivial rfl rfl)<|l9 (.bool false) rfl<|dk<|sr<|?_
 obtain ⟨r_3,er4,hf⟩:=ob hf
 rcases oi hf with ⟨c5,hf⟩ | ⟨c5,hf⟩
 ·obtain ⟨r_6,er7,hf⟩:=ob hf
  refine o7 (.agg [(.str t_1.Name),(.lst 8 (t_1.Columns.map o5)),(.lst 1 (t_1.Unique.map encI)),(.bool t_1.Root)]) rfl nle rfl<|x8 (a0g (b0i _ _ er4) rfl (.refl _) rfl)<|l9 (.bool r_3) rfl<|a0u (s:=7) (b:=true) rfl c5<|s_on rfl<|o7 (.agg [(.str t_1.Name),(.lst 8 (t_1.Columns.map o5)),(.lst 1 (t_1.Unique.map encI)),(.bool t_1.Root)]) rfl nle rfl<|s_on rfl<|o7 (.agg [(.int .i64 r_2.Id),(.lst 1 (r_2.Cells.map (a1n 3 l7)))]) rfl nle rfl<|s_on rfl<|x8 (a0g (c5t _ _ _ er7) rfl (.refl _) rfl)<|o7 (.bool r_6) rfl trivial rfl<|l9 (.bool r_6) rfl<|dk<|a0a<|?_;obtain rfl:=os hf;exact a0d ⟨trivial,trivial⟩ rfl (.refl _)
 ·refine o7 (.agg [(.str t_1.Name),(.lst 8 (t_1.Columns.map o5)),(.lst 1 (t_1.Unique.map encI)),(.bool t_1.Root)]) rfl nle rfl<|x8 (a0g (b0i _ _ er4) rfl (.refl _) rfl)<|l9 (.bool r_3) rfl<|a0u (s:=7) (b:=false) rfl (bf c5)<|o9 rfl rfl<|o9 rfl rfl<|o9 rfl rfl<|o7 (.bool false) rfl trivial rfl<|l9 (.bool false) rfl<|dk<|a0a<|?_;obtain rfl:=os hf;exact a0d ⟨trivial,trivial⟩ rfl (.refl _)

end Go.R
