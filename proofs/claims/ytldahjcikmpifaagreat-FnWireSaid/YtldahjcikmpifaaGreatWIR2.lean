/- Walks. -/
import Derived.Test.YtldahjcikmpifaaGreatWIR1
set_option linter.all false
namespace Go.R
open Go Go.Proofs
set_option linter.unusedVariables false
set_option linter.unusedSimpArgs false
set_option maxHeartbeats 8000000
/- spec.l13Atom -/
def e3p:a0p :=
 (.seq (.reg (tq 1 (.box 3 (.t 0)) (tq 2 (.box 5 (.c (.agg [(.int .i64 0),(.int .i64 0),(.str []),.nil,.nil]))) .done)))
 (.seq (.seq (.reg (tq 3 (.faddr 0 (.t 1)) (tq 4 (.load 1 false (.t 3)) .done)))
 (.block 0 (.seq (.reg (tq 6 (.bin .eql (.t 4) (.c (.int .i64 1))) (tm 5 (.t 6) .done)))
 (.cond (.t 5) (.seq (.reg (tq 7 (.faddr 1 (.t 1)) (tq 8 (.load 1 false (.t 7)) (tq 9 (.call 216 [(.t 8)]) (.q ⟨none,none,.store 5 (.t 2) (.t 9)⟩
 .done)))))
 .ret)
 (.seq (.reg (tq 11 (.bin .eql (.t 4) (.c (.int .i64 2))) (tm 10 (.t 11) .done)))
 (.cond (.t 10) (.seq (.reg (tq 12 (.faddr 2 (.t 1)) (tq 13 (.load 1 false (.t 12)) (tq 14 (.call 213 [(.t 13)]) (.q ⟨none,none,.store 5 (.t 2) (.t 14)⟩
 .done)))))
 .ret)
 (.seq (.reg (tq 16 (.bin .eql (.t 4) (.c (.int .i64 3))) (tm 15 (.t 16) .done)))
 (.cond (.t 15) (.seq (.reg (tq 17 (.faddr 1 (.t 1)) (tq 18 (.load 1 false (.t 17)) (tq 19 (.bin .eql (.t 18) (.c (.int .i64 1))) (tq 20 (.call 306 [(.t 19)]) (.q ⟨none,none,.store 5 (.t 2) (.t 20)⟩
 .done))))))
 .ret)
 .skip))))))))
 (.seq (.reg (tq 22 (.faddr 1 (.t 1)) (tq 23 (.load 1 false (.t 22)) (.l ⟨(some 21),none,.call 213 [(.c (.str [117,117,105,100]))]⟩ [⟨(some 23),none,.load 1 false (.t 22)⟩,⟨(some 22),none,.faddr 1 (.t 1)⟩]
 (.l ⟨(some 24),none,.call 216 [(.t 23)]⟩ []
 (.l ⟨(some 25),none,.bslice 5 [(.t 21),(.t 24)]⟩ []
 (.l ⟨(some 26),none,.call 215 [(.t 25)]⟩ []
 (.l ⟨none,none,.store 5 (.t 2) (.t 26)⟩ []
 .done .non) .non) .non) .non) .non))))
 .ret)))
theorem e3q:a1b Tryz.prog Tryz.f230 = some (e3p.erase,[.load 5 true (.t 2)],27):=by kernel_rfl
def a8z (a_1:x8):Option y7 :=
    if (a_1.Kind == 1) then
    (b6y a_1.N).bind fun r_3 =>
    some r_3
    else
    if (a_1.Kind == 2) then
    (b2p a_1.T).bind fun r_6 =>
    some r_6
    else
    if (a_1.Kind == 3) then
    (b6z (a_1.N == 1)).bind fun r_9 =>
    some r_9
    else
    (b2p [117,117,105,100]).bind fun r_11 =>
    (b6y a_1.N).bind fun r_13 =>
    (a6u [r_11,r_13]).bind fun r_15 =>
    some r_15
theorem b6g (a_1:x8) (r:y7) (hf:a8z a_1 = some r):y9 Tryz.prog 230 .fresh [(l9 a_1)] (o5 r):=by
 refine y9.of_awp mixed Tryz.func230 e3q nle ?_;rw [a0f];unfold a8z at hf;unfold e3p;refine (show awp Tryz.prog true 0 _ (ofL [(0,(l9 a_1))]) [] _ from ?_);refine sr<|o8 (a1g (j:=0) (c:=(.agg [(.int .i64 a_1.Kind),(.int .i64 a_1.N),(.str a_1.T)])) rfl trivial rfl rfl)<|o8 (a1g (j:=1) (c:=(.agg [(.int .i64 0),(.int .i64 0),(.str []),.nil,.nil])) rfl trivial rfl rfl)<|dk<|o6<|sr<|o7 (.ptr 0 0 0) rfl trivial rfl<|o7 (.int .i64 a_1.Kind) rfl nle rfl<|dk<|a3s<|sr<|o7 (.bool (a_1.Kind == 1)) rfl rfl rfl<|l7 (.bool (a_1.Kind == 1)) rfl<|dk<|?_
 rcases oi hf with ⟨c2,hf⟩ | ⟨c2,hf⟩
 ·refine a0b rfl c2<|sr<|?_
  obtain ⟨r_3,er4,hf⟩:=ob hf
  refine o7 (.ptr 0 0 1) rfl trivial rfl<|o7 (.int .i64 a_1.N) rfl nle rfl<|o8 (a3j (v:=(.agg [(.int .i64 r_3.Kind),(.int .i64 r_3.N),(.str r_3.T),(.own 2 0 r_3.Keys.length),(.own 3 0 r_3.Items.length)])) (h':=[.row 1 (r_3.Keys.map AV.str),.row 5 (r_3.Items.map o5)]) (c2a _ _ er4) rfl (.refl _) (by simp only [a2b,a2c,List.length_map,y8,List.nil_append,List.append_nil,List.cons_append];rfl))<|a1i (x9 (v:=(.agg [(.int .i64 r_3.Kind),(.int .i64 r_3.N),(.str r_3.T),(.own 2 0 r_3.Keys.length),(.own 3 0 r_3.Items.length)])) (y':=(.agg [(.int .i64 r_3.Kind),(.int .i64 r_3.N),(.str r_3.T),(.own 2 0 r_3.Keys.length),(.own 3 0 r_3.Items.length)])) rfl rfl rfl trivial ⟨rfl,nle⟩ ⟨⟨rfl,trivial⟩,⟨⟨rfl,trivial⟩,⟨⟨rfl,trivial⟩,⟨⟨rfl,trivial⟩,⟨⟨rfl,trivial⟩,trivial⟩⟩⟩⟩⟩ rfl)<|?_
  refine dk<|a0d<|?_;obtain rfl:=os hf;exact a1j ⟨nle,trivial⟩ rfl (by decide) (leJ (x:=r_3) (.agg (.cons (.refl _) (.cons (.refl _) (.cons (.refl _) (.cons (.of_eq (congrArg (AV.lst _) (tk (enc:=AV.str) r_3.Keys))) (.cons (.of_eq (congrArg (AV.lst _) (tk (enc:=o5) r_3.Items))) .nil)))))))
 ·refine a0c rfl (bf c2)<|sr<|o7 (.bool (a_1.Kind == 2)) rfl rfl rfl<|l7 (.bool (a_1.Kind == 2)) rfl<|dk<|?_
  rcases oi hf with ⟨c5,hf⟩ | ⟨c5,hf⟩
  ·refine a0b rfl c5<|sr<|?_
   obtain ⟨r_6,er7,hf⟩:=ob hf
   refine o7 (.ptr 0 0 2) rfl trivial rfl<|o7 (.str a_1.T) rfl nle rfl<|o8 (a3j (v:=(.agg [(.int .i64 r_6.Kind),(.int .i64 r_6.N),(.str r_6.T),(.own 2 0 r_6.Keys.length),(.own 3 0 r_6.Items.length)])) (h':=[.row 1 (r_6.Keys.map AV.str),.row 5 (r_6.Items.map o5)]) (b6e _ _ er7) rfl (.refl _) (by simp only [a2b,a2c,List.length_map,y8,List.nil_append,List.append_nil,List.cons_append];rfl))<|a1i (x9 (v:=(.agg [(.int .i64 r_6.Kind),(.int .i64 r_6.N),(.str r_6.T),(.own 2 0 r_6.Keys.length),(.own 3 0 r_6.Items.length)])) (y':=(.agg [(.int .i64 r_6.Kind),(.int .i64 r_6.N),(.str r_6.T),(.own 2 0 r_6.Keys.length),(.own 3 0 r_6.Items.length)])) rfl rfl rfl trivial ⟨rfl,nle⟩ ⟨⟨rfl,trivial⟩,⟨⟨rfl,trivial⟩,⟨⟨rfl,trivial⟩,⟨⟨rfl,trivial⟩,⟨⟨rfl,trivial⟩,trivial⟩⟩⟩⟩⟩ rfl)<|?_
   refine dk<|a0d<|?_;obtain rfl:=os hf;exact a1j ⟨nle,trivial⟩ rfl (by decide) (leJ (x:=r_6) (.agg (.cons (.refl _) (.cons (.refl _) (.cons (.refl _) (.cons (.of_eq (congrArg (AV.lst _) (tk (enc:=AV.str) r_6.Keys))) (.cons (.of_eq (congrArg (AV.lst _) (tk (enc:=o5) r_6.Items))) .nil)))))))
  ·refine a0c rfl (bf c5)<|sr<|o7 (.bool (a_1.Kind == 3)) rfl rfl rfl<|l7 (.bool (a_1.Kind == 3)) rfl<|dk<|?_
   rcases oi hf with ⟨c8,hf⟩ | ⟨c8,hf⟩
   ·refine a0b rfl c8<|sr<|?_
    obtain ⟨r_9,er10,hf⟩:=ob hf
    refine o7 (.ptr 0 0 1) rfl trivial rfl<|o7 (.int .i64 a_1.N) rfl nle rfl<|o7 (.bool (a_1.N == 1)) rfl rfl rfl<|o8 (a3j (v:=(.agg [(.int .i64 r_9.Kind),(.int .i64 r_9.N),(.str r_9.T),(.own 2 0 r_9.Keys.length),(.own 3 0 r_9.Items.length)])) (h':=[.row 1 (r_9.Keys.map AV.str),.row 5 (r_9.Items.map o5)]) (d0z _ _ er10) rfl (.refl _) (by simp only [a2b,a2c,List.length_map,y8,List.nil_append,List.append_nil,List.cons_append];rfl))<|a1i (x9 (v:=(.agg [(.int .i64 r_9.Kind),(.int .i64 r_9.N),(.str r_9.T),(.own 2 0 r_9.Keys.length),(.own 3 0 r_9.Items.length)])) (y':=(.agg [(.int .i64 r_9.Kind),(.int .i64 r_9.N),(.str r_9.T),(.own 2 0 r_9.Keys.length),(.own 3 0 r_9.Items.length)])) rfl rfl rfl trivial ⟨rfl,nle⟩ ⟨⟨rfl,trivial⟩,⟨⟨rfl,trivial⟩,⟨⟨rfl,trivial⟩,⟨⟨rfl,trivial⟩,⟨⟨rfl,trivial⟩,trivial⟩⟩⟩⟩⟩ rfl)<|?_
    refine dk<|a0d<|?_;obtain rfl:=os hf;exact a1j ⟨nle,trivial⟩ rfl (by decide) (leJ (x:=r_9) (.agg (.cons (.refl _) (.cons (.refl _) (.cons (.refl _) (.cons (.of_eq (congrArg (AV.lst _) (tk (enc:=AV.str) r_9.Keys))) (.cons (.of_eq (congrArg (AV.lst _) (tk (enc:=o5) r_9.Items))) .nil)))))))
   ·refine a0c rfl (bf c8)<|a0i<|a3l<|a0h<|sr<|?_
    obtain ⟨r_11,er12,hf⟩:=ob hf
    obtain ⟨r_13,er14,hf⟩:=ob hf
    obtain ⟨r_15,er16,hf⟩:=ob hf
    refine o7 (.ptr 0 0 1) rfl trivial rfl<|o7 (.int .i64 a_1.N) rfl nle rfl<|a1r (a3j (v:=(.agg [(.int .i64 r_11.Kind),(.int .i64 r_11.N),(.str r_11.T),(.own 2 0 r_11.Keys.length),(.own 3 0 r_11.Items.length)])) (h':=[.row 1 (r_11.Keys.map AV.str),.row 5 (r_11.Items.map o5)]) (b6e _ _ er12) rfl (.refl _) (by simp only [a2b,a2c,List.length_map,y8,List.nil_append,List.append_nil,List.cons_append];rfl)) (.inr ⟨⟨nle,rfl⟩,⟨⟨trivial,rfl⟩,trivial⟩⟩) trivial<|a1r (a3j (v:=(.agg [(.int .i64 r_13.Kind),(.int .i64 r_13.N),(.str r_13.T),(.own 4 0 r_13.Keys.length),(.own 5 0 r_13.Items.length)])) (h':=[.row 1 (r_13.Keys.map AV.str),.row 5 (r_13.Items.map o5)]) (c2a _ _ er14) rfl (.refl _) (by simp only [a2b,a2c,List.length_map,y8,List.nil_append,List.append_nil,List.cons_append];rfl)) trivial trivial<|?_
    refine a1r (a1c (j:=6) (as':=[(o5 r_11),(o5 r_13)]) rfl (fun _ => by decide) ⟨rfl,⟨rfl,trivial⟩⟩ (.cons (leJ (x:=r_11) (.agg (.cons (.refl _) (.cons (.refl _) (.cons (.refl _) (.cons (.of_eq (congrArg (AV.lst _) (tk (enc:=AV.str) r_11.Keys))) (.cons (.of_eq (congrArg (AV.lst _) (tk (enc:=o5) r_11.Items))) .nil))))))) (.cons (leJ (x:=r_13) (.agg (.cons (.refl _) (.cons (.refl _) (.cons (.refl _) (.cons (.of_eq (congrArg (AV.lst _) (tk (enc:=AV.str) r_13.Keys))) (.cons (.of_eq (congrArg (AV.lst _) (tk (enc:=o5) r_13.Items))) .nil))))))) .nil)) rfl rfl rfl) trivial trivial ?_;refine a1r (a3e (v:=(.agg [(.int .i64 r_15.Kind),(.int .i64 r_15.N),(.str r_15.T),(.own 7 0 r_15.Keys.length),(.own 8 0 r_15.Items.length)])) (h2:=[.box 3 (.agg [(.int .i64 a_1.Kind),(.int .i64 a_1.N),(.str a_1.T)]),.box 5 (.agg [(.int .i64 0),(.int .i64 0),(.str []),.nil,.nil]),.dead,.dead,.dead,.dead,.dead,.row 1 (r_15.Keys.map AV.str),.row 5 (r_15.Items.map o5)]) [] [6] (fun _ => rfl) (b6f _ _ er16) rfl (.cons (.of_eq (congrArg (AV.own _ 0) (by simp))) .nil) (.refl _) rfl rfl) trivial trivial ?_
    refine a6g (x9 (v:=(.agg [(.int .i64 r_15.Kind),(.int .i64 r_15.N),(.str r_15.T),(.own 7 0 r_15.Keys.length),(.own 8 0 r_15.Items.length)])) (y':=(.agg [(.int .i64 r_15.Kind),(.int .i64 r_15.N),(.str r_15.T),(.own 7 0 r_15.Keys.length),(.own 8 0 r_15.Items.length)])) rfl rfl rfl trivial ⟨rfl,nle⟩ ⟨⟨rfl,trivial⟩,⟨⟨rfl,trivial⟩,⟨⟨rfl,trivial⟩,⟨⟨rfl,trivial⟩,⟨⟨rfl,trivial⟩,trivial⟩⟩⟩⟩⟩ rfl) trivial trivial<|dk<|a0d<|?_;obtain rfl:=os hf;exact a1j ⟨nle,trivial⟩ rfl (by decide) (leJ (x:=r_15) (.agg (.cons (.refl _) (.cons (.refl _) (.cons (.refl _) (.cons (.of_eq (congrArg (AV.lst _) (tk (enc:=AV.str) r_15.Keys))) (.cons (.of_eq (congrArg (AV.lst _) (tk (enc:=o5) r_15.Items))) .nil)))))))

/- spec.l13L -/
def d3w:a0p :=
 (.seq (.reg (tq 2 (.box 5 (.c (.agg [(.int .i64 0),(.int .i64 0),(.str []),.nil,.nil]))) .done))
 (.seq (.reg (tq 3 (.bslice 5 []) (tm 4 (.t 0) (tq 5 (.append 5 80 (.t 3) (.t 4)) (tq 6 (.build [(.int .i64 0),(.int .i64 0),(.str []),.nil,.nil] [(0,1,(.c (.int .i64 4))),(4,1,(.t 5))]) (.q ⟨none,none,.store 5 (.t 2) (.t 6)⟩
 .done))))))
 .ret))
theorem d7w:a1b Tryz.prog Tryz.f215 = some (d3w.erase,[.load 5 true (.t 2)],7):=by kernel_rfl
def b0m :Option y7 :=
    if ([]:List y7).length ≤ 2 ^ 30 then
    some (⟨4,0,[],[],([]:List y7)⟩:y7)
    else none
theorem c4n  (r:y7) (hf:b0m = some r):a0j Tryz.prog true 215 [.nil] [] (.agg [(.int .i64 r.Kind),(.int .i64 r.N),(.str r.T),(.own 0 0 r.Keys.length),(.own 1 0 r.Items.length)]) [.row 1 (r.Keys.map AV.str),.row 5 (r.Items.map o5)]:=by
 refine a0j.of_awp mixed Tryz.func215 d7w nle ?_;rw [a0f];unfold b0m at hf;unfold d3w;refine (show awp Tryz.prog true 0 _ (ofL [(0,.nil)]) [] _ from ?_);refine sr<|o8 (a1g (j:=0) (c:=(.agg [(.int .i64 0),(.int .i64 0),(.str []),.nil,.nil])) rfl trivial rfl rfl)<|dk<|sr<|?_
 obtain ⟨g1,hf⟩:=og hf
 refine o8 (a1c (j:=1) (as':=[]) rfl (fun _ => by decide) trivial (.refl _) rfl rfl rfl) ?_;refine l7 .nil rfl ?_
 refine o8 (a2a (j:=2) (L:=(([]:List y7).map o5)) (len:=([]:List y7).length) rfl false rfl rfl (fun _ => e1x) (fun _ _ h => (e6e (show AV.nil = AV.lst _ _ from h)).elim) (by decide) ((by simp)) (by simp <;> omega) g1 rfl rfl) ?_
 refine o7 (.agg [(.int .i64 4),(.int .i64 0),(.str []),.nil,(.own 2 0 (([]:List y7).length))]) rfl ⟨⟨rfl,nle,trivial⟩,⟨⟨rfl,nle,trivial⟩,trivial⟩⟩ rfl<|a1i (x9 (v:=(.agg [(.int .i64 4),(.int .i64 0),(.str []),.nil,(.own 2 0 (([]:List y7).length))])) (y':=(.agg [(.int .i64 4),(.int .i64 0),(.str []),.nil,(.own 2 0 (([]:List y7).length))])) rfl rfl rfl trivial ⟨rfl,nle⟩ ⟨⟨rfl,trivial⟩,⟨⟨rfl,trivial⟩,⟨⟨rfl,trivial⟩,⟨⟨rfl,trivial⟩,⟨⟨rfl,trivial⟩,trivial⟩⟩⟩⟩⟩ rfl)<|dk<|a0d<|?_;obtain rfl:=os hf;exact a3a [.nilC 0 3 1] [3,2] rfl ⟨nle,trivial⟩ rfl (.refl _) (.refl _)

/- spec.l13Datum -/
def e3r:a0p :=
 (.seq (.reg (tq 2 (.box 5 (.c (.agg [(.int .i64 0),(.int .i64 0),(.str []),.nil,.nil]))) .done))
 (.seq (.seq (.reg (tm 5 (.t 0) (tq 6 (.len (.t 5)) (tq 7 (.bin .eql (.t 6) (.c (.int .i64 1))) .done))))
 (.cond (.t 7) (.seq (.reg (tm 8 (.t 0) (tq 9 (.iaddr 3 (.t 8) (.c (.int .i64 0))) (tq 10 (.load 3 true (.t 9)) (tq 11 (.call 230 [(.t 10)]) (.q ⟨none,none,.store 5 (.t 2) (.t 11)⟩
 .done))))))
 .ret)
 .skip))
 (.seq (.reg (tq 12 (.call 215 [(.c .nil)]) (tq 3 (.box 5 (.c (.agg [(.int .i64 0),(.int .i64 0),(.str []),.nil,.nil]))) (.q ⟨none,none,.store 5 (.t 3) (.t 12)⟩
 .done))))
 (.seq (.seq (.reg (tm 4 (.c (.int .i64 0)) .done))
 (.block 0 (.loop (.seq (.seq (.reg (tm 13 (.t 4) (tm 14 (.t 0) (tq 15 (.len (.t 14)) (tq 16 (.bin .lss (.t 13) (.t 15)) .done)))))
 (.cond (.t 16) .skip
 (.exit 0)))
 (.seq (.block 1 (.reg (tq 19 (.faddr 4 (.t 3)) (tq 20 (.load 1 false (.t 19)) (tm 21 (.t 0) (tm 22 (.t 4) (tq 23 (.iaddr 3 (.t 21) (.t 22)) (tq 24 (.load 3 true (.t 23)) (.l ⟨(some 25),none,.call 230 [(.t 24)]⟩ [⟨(some 20),none,.load 1 false (.t 19)⟩,⟨(some 19),none,.faddr 4 (.t 3)⟩]
 (.l ⟨(some 26),none,.bslice 5 [(.t 25)]⟩ [⟨(some 20),none,.load 1 false (.t 19)⟩,⟨(some 19),none,.faddr 4 (.t 3)⟩]
 (.l ⟨(some 27),none,.append 5 80 (.t 20) (.t 26)⟩ []
 (tq 28 (.faddr 4 (.t 3)) (.l ⟨none,none,.store 1 (.t 28) (.t 27)⟩ []
 .done .non)) .non) .non) .non)))))))))
 (.reg (tm 17 (.t 4) (tq 18 (.bin .add (.t 17) (.c (.int .i64 1))) (tm 4 (.t 18) .done)))))))))
 (.cut (.seq (.reg (tq 30 (.load 5 true (.t 3)) (.l ⟨(some 29),none,.call 213 [(.c (.str [115,101,116]))]⟩ [⟨(some 30),none,.load 5 true (.t 3)⟩]
 (.l ⟨(some 31),none,.bslice 5 [(.t 29),(.t 30)]⟩ []
 (.l ⟨(some 32),none,.call 215 [(.t 31)]⟩ []
 (.l ⟨none,none,.store 5 (.t 2) (.t 32)⟩ []
 .done .non) .non) .non) .non)))
 .ret))))))
theorem e3s:a1b Tryz.prog Tryz.f132 = some (e3r.erase,[.load 5 true (.t 2)],33):=by kernel_rfl
def a4g :List x8 → (List y7) → Option (List y7)
  | [],x_27 =>
    some x_27
  | x_44 :: xs,x_27 =>
    (a8z x_44).bind fun r_47 =>
    if (x_27 ++ [r_47]).length ≤ 2 ^ 30 then
    a4g xs  (x_27 ++ [r_47])
    else none

def a6y (d_1:(List x8)):Option y7 :=
    if ((d_1.length:Int) == 1) then
    (idx d_1 0).bind fun x_4 =>
    (a8z x_4).bind fun r_6 =>
    some r_6
    else
    (b0m).bind fun r_8 =>
    (a4g d_1 r_8.Items).bind fun x_36 =>
    (b2p [115,101,116]).bind fun r_50 =>
    (a6u [r_50,(⟨r_8.Kind,r_8.N,r_8.T,r_8.Keys,x_36⟩:y7)]).bind fun r_52 =>
    some r_52
theorem c2j (d_1:(List x8)) (r:y7) (hf:a6y d_1 = some r):y9 Tryz.prog 132 .fresh [(.lst 3 (d_1.map l9))] (o5 r):=by
 refine y9.of_awp mixed Tryz.func132 e3s nle ?_;rw [a0f];unfold a6y at hf;unfold e3r;refine (show awp Tryz.prog true 0 _ (ofL [(0,(.lst 3 (d_1.map l9)))]) [] _ from ?_);refine sr<|o8 (a1g (j:=0) (c:=(.agg [(.int .i64 0),(.int .i64 0),(.str []),.nil,.nil])) rfl trivial rfl rfl)<|dk<|o6<|sr<|l7 (.lst 3 (d_1.map l9)) rfl<|a1n (a3d (enc:=l9) rfl) fun hl2 => o7 (.bool ((d_1.length:Int) == 1)) rfl rfl rfl<|dk<|?_
 rcases oi hf with ⟨c3,hf⟩ | ⟨c3,hf⟩
 ·refine a0b rfl c3<|sr<|?_
  obtain ⟨x_4,ex5,hf⟩:=ob hf
  obtain ⟨r_6,er7,hf⟩:=ob hf
  refine l7 (.lst 3 (d_1.map l9)) rfl<|o8 (a5l (enc:=l9) rfl rfl (b2x ex5) (b2y ex5))<|o7 (l9 x_4) rfl nle rfl<|o8 (a3j (v:=(.agg [(.int .i64 r_6.Kind),(.int .i64 r_6.N),(.str r_6.T),(.own 1 0 r_6.Keys.length),(.own 2 0 r_6.Items.length)])) (h':=[.row 1 (r_6.Keys.map AV.str),.row 5 (r_6.Items.map o5)]) (b6g _ _ er7) rfl (.refl _) (by simp only [a2b,a2c,List.length_map,y8,List.nil_append,List.append_nil,List.cons_append];rfl))<|a1i (x9 (v:=(.agg [(.int .i64 r_6.Kind),(.int .i64 r_6.N),(.str r_6.T),(.own 1 0 r_6.Keys.length),(.own 2 0 r_6.Items.length)])) (y':=(.agg [(.int .i64 r_6.Kind),(.int .i64 r_6.N),(.str r_6.T),(.own 1 0 r_6.Keys.length),(.own 2 0 r_6.Items.length)])) rfl rfl rfl trivial ⟨rfl,nle⟩ ⟨⟨rfl,trivial⟩,⟨⟨rfl,trivial⟩,⟨⟨rfl,trivial⟩,⟨⟨rfl,trivial⟩,⟨⟨rfl,trivial⟩,trivial⟩⟩⟩⟩⟩ rfl)<|?_
  refine dk<|a0d<|?_;obtain rfl:=os hf;exact a1j ⟨nle,trivial⟩ rfl (by decide) (leJ (x:=r_6) (.agg (.cons (.refl _) (.cons (.refl _) (.cons (.refl _) (.cons (.of_eq (congrArg (AV.lst _) (tk (enc:=AV.str) r_6.Keys))) (.cons (.of_eq (congrArg (AV.lst _) (tk (enc:=o5) r_6.Items))) .nil)))))))
 ·refine a0c rfl (bf c3)<|a0i<|a0h<|sr<|?_
  obtain ⟨r_8,er9,hf⟩:=ob hf
  refine o8 (a3e (v:=(.agg [(.int .i64 r_8.Kind),(.int .i64 r_8.N),(.str r_8.T),(.own 1 0 r_8.Keys.length),(.own 2 0 r_8.Items.length)])) (h2:=[.box 5 (.agg [(.int .i64 0),(.int .i64 0),(.str []),.nil,.nil]),.row 1 (r_8.Keys.map AV.str),.row 5 (r_8.Items.map o5)]) [] [] (fun _ => rfl) (c4n _ er9) rfl (.refl _) (.refl _) rfl rfl) ?_;refine o8 (a1g (j:=3) (c:=(.agg [(.int .i64 0),(.int .i64 0),(.str []),.nil,.nil])) rfl trivial rfl rfl)<|a1i (x9 (v:=(.agg [(.int .i64 r_8.Kind),(.int .i64 r_8.N),(.str r_8.T),(.own 1 0 r_8.Keys.length),(.own 2 0 r_8.Items.length)])) (y':=(.agg [(.int .i64 r_8.Kind),(.int .i64 r_8.N),(.str r_8.T),(.own 1 0 r_8.Keys.length),(.own 2 0 r_8.Items.length)])) rfl rfl rfl trivial ⟨rfl,nle⟩ ⟨⟨rfl,trivial⟩,⟨⟨rfl,trivial⟩,⟨⟨rfl,trivial⟩,⟨⟨rfl,trivial⟩,⟨⟨rfl,trivial⟩,trivial⟩⟩⟩⟩⟩ rfl)<|?_
  refine dk<|o6<|sr<|l7 (.int .i64 0) rfl<|dk<|?_
  obtain ⟨x_36,hb1,hf⟩:=ob hf
  refine a2v ([(2,(.ptr 0 0 0)),(3,(.ptr 1 0 0))],[.box 5 (.agg [(.int .i64 0),(.int .i64 0),(.str []),.nil,.nil]),.box 5 (.agg [(.int .i64 r_8.Kind),(.int .i64 r_8.N),(.str r_8.T),(.own 2 0 r_8.Keys.length),(.own 3 0 x_36.length)]),.row 1 (r_8.Keys.map AV.str),.row 5 (x_36.map o5)]) ?_ ?_
  ·refine a1v (X:={q:(Nat × (List y7)) // a4g (d_1.drop q.1) q.2 = some x_36}) (fun q => ([(0,(.lst 3 (d_1.map l9))),(2,(.ptr 0 0 0)),(3,(.ptr 1 0 0)),(4,(.int .i64 (q.1.1:Int)))],[.box 5 (.agg [(.int .i64 0),(.int .i64 0),(.str []),.nil,.nil]),.box 5 (.agg [(.int .i64 r_8.Kind),(.int .i64 r_8.N),(.str r_8.T),(.own 2 0 r_8.Keys.length),(.own 3 0 q.1.2.length)]),.row 1 (r_8.Keys.map AV.str),.row 5 (q.1.2.map o5)])) (fun q => d_1.length - q.1.1) ⟨(0,r_8.Items),hb1⟩ ⟨[],[0,3,1,2],_,_,rfl,rfl,⟨.refl _,⟨.refl _,⟨.refl _,⟨.refl _,trivial⟩⟩⟩⟩,(.refl _)⟩ ?_
   rintro ⟨⟨i_26,x_27⟩,hc1⟩
   have hc1:a4g (d_1.drop i_26) x_27 = some x_36:=hc1
   refine (show awp Tryz.prog true 0 _ (ofL [(0,(.lst 3 (d_1.map l9))),(2,(.ptr 0 0 0)),(3,(.ptr 1 0 0)),(4,(.int .i64 (i_26:Int)))]) [.box 5 (.agg [(.int .i64 0),(.int .i64 0),(.str []),.nil,.nil]),.box 5 (.agg [(.int .i64 r_8.Kind),(.int .i64 r_8.N),(.str r_8.T),(.own 2 0 r_8.Keys.length),(.own 3 0 x_27.length)]),.row 1 (r_8.Keys.map AV.str),.row 5 (x_27.map o5)] _ from ?_)
   rcases a7j d_1 i_26 with ⟨hie40,hd43⟩ | ⟨hlt38,x_44,hx39,hd43⟩
   ·rw [hd43,a4g.eq_1] at hc1
    have hq42:=dlf hie40
    refine o6<|sr<|l7 (.int .i64 (i_26:Int)) rfl<|l7 (.lst 3 (d_1.map l9)) rfl<|a1n (a3d (enc:=l9) rfl) fun hl45 => o7 (.bool (decide ((i_26:Int) < (d_1.length:Int)))) rfl rfl rfl<|dk<|a0c rfl hq42<|a4b<|a4a<|a2w<|a3z<|?_;obtain rfl:=os hc1;exact ⟨[],[0,1,2,3],_,_,rfl,rfl,⟨.refl _,⟨.refl _,trivial⟩⟩,(.refl _)⟩
   ·rw [hd43,a4g.eq_2] at hc1
    have hq42:=dlt hlt38
    refine o6<|sr<|l7 (.int .i64 (i_26:Int)) rfl<|l7 (.lst 3 (d_1.map l9)) rfl<|a1n (a3d (enc:=l9) rfl) fun hl46 => o7 (.bool (decide ((i_26:Int) < (d_1.length:Int)))) rfl rfl rfl<|dk<|a0b rfl hq42<|a0i<|a0h<|o6<|a3s<|a0z<|?_
    obtain ⟨r_47,er48,hc1⟩:=ob hc1
    obtain ⟨g49,hc1⟩:=og hc1
    refine o7 (.ptr 1 0 4) rfl trivial rfl<|o7 (.own 3 0 x_27.length) rfl nle rfl<|l7 (.lst 3 (d_1.map l9)) rfl<|l7 (.int .i64 (i_26:Int)) rfl<|o8 (a3o (enc:=l9) rfl rfl hx39)<|o7 (l9 x_44) rfl nle rfl<|a1r (a3j (v:=(.agg [(.int .i64 r_47.Kind),(.int .i64 r_47.N),(.str r_47.T),(.own 4 0 r_47.Keys.length),(.own 5 0 r_47.Items.length)])) (h':=[.row 1 (r_47.Keys.map AV.str),.row 5 (r_47.Items.map o5)]) (b6g _ _ er48) rfl (.refl _) (by simp only [a2b,a2c,List.length_map,y8,List.nil_append,List.append_nil,List.cons_append];rfl)) (.inr ⟨⟨nle,rfl⟩,⟨⟨trivial,rfl⟩,trivial⟩⟩) trivial<|?_;refine a1r (a1c (j:=6) (as':=[(o5 r_47)]) rfl (fun _ => by decide) ⟨rfl,trivial⟩ (.cons (leJ (x:=r_47) (.agg (.cons (.refl _) (.cons (.refl _) (.cons (.refl _) (.cons (.of_eq (congrArg (AV.lst _) (tk (enc:=AV.str) r_47.Keys))) (.cons (.of_eq (congrArg (AV.lst _) (tk (enc:=o5) r_47.Items))) .nil))))))) .nil) rfl rfl rfl) (.inr ⟨⟨nle,rfl⟩,⟨⟨trivial,rfl⟩,trivial⟩⟩) trivial ?_
    refine a1r (a2a (j:=7) (L:=((x_27 ++ [r_47]).map o5)) (len:=(x_27 ++ [r_47]).length) rfl true rfl rfl (fun h => Bool.noConfusion h) (fun _ _ h => (b7c (show AV.own _ _ _ = AV.lst _ _ from h)).elim) (by decide) (c5s (enc:=o5) x_27 [r_47] _ (by rfl)) (by simp <;> omega) g49 rfl rfl) trivial trivial ?_
    refine o7 (.ptr 1 0 4) rfl trivial rfl<|a6g (x9 (v:=(.own 7 0 ((x_27 ++ [r_47]).length))) (y':=(.agg [(.int .i64 r_8.Kind),(.int .i64 r_8.N),(.str r_8.T),(.own 2 0 r_8.Keys.length),(.own 7 0 ((x_27 ++ [r_47]).length))])) rfl rfl rfl trivial ⟨rfl,nle⟩ ⟨⟨rfl,trivial⟩,trivial⟩ rfl) trivial trivial<|a0e<|a3l<|a0h<|a0z<|l7 (.int .i64 (i_26:Int)) rfl<|o7 (.int .i64 (w64 ((i_26:Int) + 1))) rfl rfl rfl<|l7 (.int .i64 (w64 ((i_26:Int) + 1))) rfl<|a0e<|?_;exact a2p ⟨((i_26 + 1),x_27 ++ [r_47]),hc1⟩ (mul hlt38) ⟨[],[0,1,2,7],_,_,rfl,rfl,⟨.refl _,⟨.refl _,⟨.refl _,⟨.of_eq (congrArg (AV.int _) (a3h hlt38 hl46)),trivial⟩⟩⟩⟩,(.refl _)⟩
  ·refine sr<|?_
   obtain ⟨r_50,er51,hf⟩:=ob hf
   obtain ⟨r_52,er53,hf⟩:=ob hf
   refine o7 (.agg [(.int .i64 r_8.Kind),(.int .i64 r_8.N),(.str r_8.T),(.own 2 0 r_8.Keys.length),(.own 3 0 x_36.length)]) rfl nle rfl<|a1r (a3j (v:=(.agg [(.int .i64 r_50.Kind),(.int .i64 r_50.N),(.str r_50.T),(.own 4 0 r_50.Keys.length),(.own 5 0 r_50.Items.length)])) (h':=[.row 1 (r_50.Keys.map AV.str),.row 5 (r_50.Items.map o5)]) (b6e _ _ er51) rfl (.refl _) (by simp only [a2b,a2c,List.length_map,y8,List.nil_append,List.append_nil,List.cons_append];rfl)) (.inr ⟨⟨nle,rfl⟩,trivial⟩) trivial<|?_;refine a1r (a1c (j:=6) (as':=[(o5 r_50),(o5 (⟨r_8.Kind,r_8.N,r_8.T,r_8.Keys,x_36⟩:y7))]) rfl (fun _ => by decide) ⟨rfl,⟨rfl,trivial⟩⟩ (.cons (leJ (x:=r_50) (.agg (.cons (.refl _) (.cons (.refl _) (.cons (.refl _) (.cons (.of_eq (congrArg (AV.lst _) (tk (enc:=AV.str) r_50.Keys))) (.cons (.of_eq (congrArg (AV.lst _) (tk (enc:=o5) r_50.Items))) .nil))))))) (.cons (leJ (x:=(⟨r_8.Kind,r_8.N,r_8.T,r_8.Keys,x_36⟩:y7)) (.agg (.cons (.refl _) (.cons (.refl _) (.cons (.refl _) (.cons (.of_eq (congrArg (AV.lst _) (tk (enc:=AV.str) r_8.Keys))) (.cons (.of_eq (congrArg (AV.lst _) (tk (enc:=o5) x_36))) .nil))))))) .nil)) rfl rfl rfl) trivial trivial ?_
   refine a1r (a3e (v:=(.agg [(.int .i64 r_52.Kind),(.int .i64 r_52.N),(.str r_52.T),(.own 7 0 r_52.Keys.length),(.own 8 0 r_52.Items.length)])) (h2:=[.box 5 (.agg [(.int .i64 0),(.int .i64 0),(.str []),.nil,.nil]),.box 5 (.agg [(.int .i64 r_8.Kind),(.int .i64 r_8.N),(.str r_8.T),(.own 2 0 r_8.Keys.length),(.own 3 0 x_36.length)]),.dead,.dead,.dead,.dead,.dead,.row 1 (r_52.Keys.map AV.str),.row 5 (r_52.Items.map o5)]) [] [6] (fun _ => rfl) (b6f _ _ er53) rfl (.cons (.of_eq (congrArg (AV.own _ 0) (by simp))) .nil) (.refl _) rfl rfl) trivial trivial ?_;refine a6g (x9 (v:=(.agg [(.int .i64 r_52.Kind),(.int .i64 r_52.N),(.str r_52.T),(.own 7 0 r_52.Keys.length),(.own 8 0 r_52.Items.length)])) (y':=(.agg [(.int .i64 r_52.Kind),(.int .i64 r_52.N),(.str r_52.T),(.own 7 0 r_52.Keys.length),(.own 8 0 r_52.Items.length)])) rfl rfl rfl trivial ⟨rfl,nle⟩ ⟨⟨rfl,trivial⟩,⟨⟨rfl,trivial⟩,⟨⟨rfl,trivial⟩,⟨⟨rfl,trivial⟩,⟨⟨rfl,trivial⟩,trivial⟩⟩⟩⟩⟩ rfl) trivial trivial ?_
   refine dk<|a0d<|?_;obtain rfl:=os hf;exact a1j ⟨nle,trivial⟩ rfl (by decide) (leJ (x:=r_52) (.agg (.cons (.refl _) (.cons (.refl _) (.cons (.refl _) (.cons (.of_eq (congrArg (AV.lst _) (tk (enc:=AV.str) r_52.Keys))) (.cons (.of_eq (congrArg (AV.lst _) (tk (enc:=o5) r_52.Items))) .nil)))))))

/- spec.l01Own -/
def c93:a0p :=
 (.seq (.reg (tq 1 (.box 5 (.t 0)) (tq 2 (.box 5 (.c (.agg [(.int .i64 0),(.int .i64 0),(.str []),.nil,.nil]))) .done)))
 (.seq (.reg (tq 5 (.faddr 0 (.t 1)) (tq 6 (.load 1 false (.t 5)) (tq 7 (.faddr 1 (.t 1)) (tq 8 (.load 1 false (.t 7)) (tq 9 (.faddr 2 (.t 1)) (tq 10 (.load 1 false (.t 9)) (tq 12 (.faddr 3 (.t 1)) (tq 13 (.load 1 false (.t 12)) (.l ⟨(some 11),none,.bslice 1 []⟩ [⟨(some 13),none,.load 1 false (.t 12)⟩,⟨(some 12),none,.faddr 3 (.t 1)⟩,⟨(some 10),none,.load 1 false (.t 9)⟩,⟨(some 9),none,.faddr 2 (.t 1)⟩,⟨(some 8),none,.load 1 false (.t 7)⟩,⟨(some 7),none,.faddr 1 (.t 1)⟩,⟨(some 6),none,.load 1 false (.t 5)⟩,⟨(some 5),none,.faddr 0 (.t 1)⟩]
 (.l ⟨(some 14),none,.append 1 16 (.t 11) (.t 13)⟩ [⟨(some 10),none,.load 1 false (.t 9)⟩,⟨(some 9),none,.faddr 2 (.t 1)⟩,⟨(some 8),none,.load 1 false (.t 7)⟩,⟨(some 7),none,.faddr 1 (.t 1)⟩,⟨(some 6),none,.load 1 false (.t 5)⟩,⟨(some 5),none,.faddr 0 (.t 1)⟩]
 (.l ⟨(some 15),none,.bslice 5 []⟩ [⟨(some 13),none,.load 1 false (.t 12)⟩,⟨(some 12),none,.faddr 3 (.t 1)⟩,⟨(some 10),none,.load 1 false (.t 9)⟩,⟨(some 9),none,.faddr 2 (.t 1)⟩,⟨(some 8),none,.load 1 false (.t 7)⟩,⟨(some 7),none,.faddr 1 (.t 1)⟩,⟨(some 6),none,.load 1 false (.t 5)⟩,⟨(some 5),none,.faddr 0 (.t 1)⟩]
 (tq 16 (.build [(.int .i64 0),(.int .i64 0),(.str []),.nil,.nil] [(0,1,(.t 6)),(1,1,(.t 8)),(2,1,(.t 10)),(3,1,(.t 14)),(4,1,(.t 15))]) (.l ⟨(some 3),none,.box 5 (.c (.agg [(.int .i64 0),(.int .i64 0),(.str []),.nil,.nil]))⟩ [⟨(some 16),none,.build [(.int .i64 0),(.int .i64 0),(.str []),.nil,.nil] [(0,1,(.t 6)),(1,1,(.t 8)),(2,1,(.t 10)),(3,1,(.t 14)),(4,1,(.t 15))]⟩,⟨(some 13),none,.load 1 false (.t 12)⟩,⟨(some 12),none,.faddr 3 (.t 1)⟩,⟨(some 10),none,.load 1 false (.t 9)⟩,⟨(some 9),none,.faddr 2 (.t 1)⟩,⟨(some 8),none,.load 1 false (.t 7)⟩,⟨(some 7),none,.faddr 1 (.t 1)⟩,⟨(some 6),none,.load 1 false (.t 5)⟩,⟨(some 5),none,.faddr 0 (.t 1)⟩]
 (.l ⟨none,none,.store 5 (.t 3) (.t 16)⟩ []
 .done .non) .non)) (.l ⟨(some 3),none,.box 5 (.c (.agg [(.int .i64 0),(.int .i64 0),(.str []),.nil,.nil]))⟩ [⟨(some 13),none,.load 1 false (.t 12)⟩,⟨(some 12),none,.faddr 3 (.t 1)⟩,⟨(some 10),none,.load 1 false (.t 9)⟩,⟨(some 9),none,.faddr 2 (.t 1)⟩,⟨(some 8),none,.load 1 false (.t 7)⟩,⟨(some 7),none,.faddr 1 (.t 1)⟩,⟨(some 6),none,.load 1 false (.t 5)⟩,⟨(some 5),none,.faddr 0 (.t 1)⟩]
 (.l ⟨(some 15),none,.bslice 5 []⟩ [⟨(some 13),none,.load 1 false (.t 12)⟩,⟨(some 12),none,.faddr 3 (.t 1)⟩,⟨(some 10),none,.load 1 false (.t 9)⟩,⟨(some 9),none,.faddr 2 (.t 1)⟩,⟨(some 8),none,.load 1 false (.t 7)⟩,⟨(some 7),none,.faddr 1 (.t 1)⟩,⟨(some 6),none,.load 1 false (.t 5)⟩,⟨(some 5),none,.faddr 0 (.t 1)⟩]
 (tq 16 (.build [(.int .i64 0),(.int .i64 0),(.str []),.nil,.nil] [(0,1,(.t 6)),(1,1,(.t 8)),(2,1,(.t 10)),(3,1,(.t 14)),(4,1,(.t 15))]) (.l ⟨none,none,.store 5 (.t 3) (.t 16)⟩ []
 .done .non)) .non) .non)) (.l ⟨(some 15),none,.bslice 5 []⟩ [⟨(some 13),none,.load 1 false (.t 12)⟩,⟨(some 12),none,.faddr 3 (.t 1)⟩,⟨(some 10),none,.load 1 false (.t 9)⟩,⟨(some 9),none,.faddr 2 (.t 1)⟩,⟨(some 8),none,.load 1 false (.t 7)⟩,⟨(some 7),none,.faddr 1 (.t 1)⟩,⟨(some 6),none,.load 1 false (.t 5)⟩,⟨(some 5),none,.faddr 0 (.t 1)⟩]
 (.l ⟨(some 14),none,.append 1 16 (.t 11) (.t 13)⟩ [⟨(some 10),none,.load 1 false (.t 9)⟩,⟨(some 9),none,.faddr 2 (.t 1)⟩,⟨(some 8),none,.load 1 false (.t 7)⟩,⟨(some 7),none,.faddr 1 (.t 1)⟩,⟨(some 6),none,.load 1 false (.t 5)⟩,⟨(some 5),none,.faddr 0 (.t 1)⟩]
 (tq 16 (.build [(.int .i64 0),(.int .i64 0),(.str []),.nil,.nil] [(0,1,(.t 6)),(1,1,(.t 8)),(2,1,(.t 10)),(3,1,(.t 14)),(4,1,(.t 15))]) (.l ⟨(some 3),none,.box 5 (.c (.agg [(.int .i64 0),(.int .i64 0),(.str []),.nil,.nil]))⟩ [⟨(some 16),none,.build [(.int .i64 0),(.int .i64 0),(.str []),.nil,.nil] [(0,1,(.t 6)),(1,1,(.t 8)),(2,1,(.t 10)),(3,1,(.t 14)),(4,1,(.t 15))]⟩,⟨(some 13),none,.load 1 false (.t 12)⟩,⟨(some 12),none,.faddr 3 (.t 1)⟩,⟨(some 10),none,.load 1 false (.t 9)⟩,⟨(some 9),none,.faddr 2 (.t 1)⟩,⟨(some 8),none,.load 1 false (.t 7)⟩,⟨(some 7),none,.faddr 1 (.t 1)⟩,⟨(some 6),none,.load 1 false (.t 5)⟩,⟨(some 5),none,.faddr 0 (.t 1)⟩]
 (.l ⟨none,none,.store 5 (.t 3) (.t 16)⟩ []
 .done .non) .non)) (.l ⟨(some 3),none,.box 5 (.c (.agg [(.int .i64 0),(.int .i64 0),(.str []),.nil,.nil]))⟩ [⟨(some 13),none,.load 1 false (.t 12)⟩,⟨(some 12),none,.faddr 3 (.t 1)⟩,⟨(some 10),none,.load 1 false (.t 9)⟩,⟨(some 9),none,.faddr 2 (.t 1)⟩,⟨(some 8),none,.load 1 false (.t 7)⟩,⟨(some 7),none,.faddr 1 (.t 1)⟩,⟨(some 6),none,.load 1 false (.t 5)⟩,⟨(some 5),none,.faddr 0 (.t 1)⟩]
 (.l ⟨(some 14),none,.append 1 16 (.t 11) (.t 13)⟩ [⟨(some 10),none,.load 1 false (.t 9)⟩,⟨(some 9),none,.faddr 2 (.t 1)⟩,⟨(some 8),none,.load 1 false (.t 7)⟩,⟨(some 7),none,.faddr 1 (.t 1)⟩,⟨(some 6),none,.load 1 false (.t 5)⟩,⟨(some 5),none,.faddr 0 (.t 1)⟩]
 (tq 16 (.build [(.int .i64 0),(.int .i64 0),(.str []),.nil,.nil] [(0,1,(.t 6)),(1,1,(.t 8)),(2,1,(.t 10)),(3,1,(.t 14)),(4,1,(.t 15))]) (.l ⟨none,none,.store 5 (.t 3) (.t 16)⟩ []
 .done .non)) .non) .non)) (.l ⟨(some 3),none,.box 5 (.c (.agg [(.int .i64 0),(.int .i64 0),(.str []),.nil,.nil]))⟩ [⟨(some 13),none,.load 1 false (.t 12)⟩,⟨(some 12),none,.faddr 3 (.t 1)⟩,⟨(some 10),none,.load 1 false (.t 9)⟩,⟨(some 9),none,.faddr 2 (.t 1)⟩,⟨(some 8),none,.load 1 false (.t 7)⟩,⟨(some 7),none,.faddr 1 (.t 1)⟩,⟨(some 6),none,.load 1 false (.t 5)⟩,⟨(some 5),none,.faddr 0 (.t 1)⟩]
 (.l ⟨(some 14),none,.append 1 16 (.t 11) (.t 13)⟩ [⟨(some 10),none,.load 1 false (.t 9)⟩,⟨(some 9),none,.faddr 2 (.t 1)⟩,⟨(some 8),none,.load 1 false (.t 7)⟩,⟨(some 7),none,.faddr 1 (.t 1)⟩,⟨(some 6),none,.load 1 false (.t 5)⟩,⟨(some 5),none,.faddr 0 (.t 1)⟩]
 (.l ⟨(some 15),none,.bslice 5 []⟩ [⟨(some 13),none,.load 1 false (.t 12)⟩,⟨(some 12),none,.faddr 3 (.t 1)⟩,⟨(some 10),none,.load 1 false (.t 9)⟩,⟨(some 9),none,.faddr 2 (.t 1)⟩,⟨(some 8),none,.load 1 false (.t 7)⟩,⟨(some 7),none,.faddr 1 (.t 1)⟩,⟨(some 6),none,.load 1 false (.t 5)⟩,⟨(some 5),none,.faddr 0 (.t 1)⟩]
 (tq 16 (.build [(.int .i64 0),(.int .i64 0),(.str []),.nil,.nil] [(0,1,(.t 6)),(1,1,(.t 8)),(2,1,(.t 10)),(3,1,(.t 14)),(4,1,(.t 15))]) (.l ⟨none,none,.store 5 (.t 3) (.t 16)⟩ []
 .done .non)) .non) (.l ⟨(some 15),none,.bslice 5 []⟩ [⟨(some 13),none,.load 1 false (.t 12)⟩,⟨(some 12),none,.faddr 3 (.t 1)⟩,⟨(some 10),none,.load 1 false (.t 9)⟩,⟨(some 9),none,.faddr 2 (.t 1)⟩,⟨(some 8),none,.load 1 false (.t 7)⟩,⟨(some 7),none,.faddr 1 (.t 1)⟩,⟨(some 6),none,.load 1 false (.t 5)⟩,⟨(some 5),none,.faddr 0 (.t 1)⟩]
 (.l ⟨(some 14),none,.append 1 16 (.t 11) (.t 13)⟩ [⟨(some 10),none,.load 1 false (.t 9)⟩,⟨(some 9),none,.faddr 2 (.t 1)⟩,⟨(some 8),none,.load 1 false (.t 7)⟩,⟨(some 7),none,.faddr 1 (.t 1)⟩,⟨(some 6),none,.load 1 false (.t 5)⟩,⟨(some 5),none,.faddr 0 (.t 1)⟩]
 (tq 16 (.build [(.int .i64 0),(.int .i64 0),(.str []),.nil,.nil] [(0,1,(.t 6)),(1,1,(.t 8)),(2,1,(.t 10)),(3,1,(.t 14)),(4,1,(.t 15))]) (.l ⟨none,none,.store 5 (.t 3) (.t 16)⟩ []
 .done .non)) .non) .non)) .non))) (.l ⟨(some 15),none,.bslice 5 []⟩ [⟨(some 13),none,.load 1 false (.t 12)⟩,⟨(some 12),none,.faddr 3 (.t 1)⟩,⟨(some 10),none,.load 1 false (.t 9)⟩,⟨(some 9),none,.faddr 2 (.t 1)⟩,⟨(some 8),none,.load 1 false (.t 7)⟩,⟨(some 7),none,.faddr 1 (.t 1)⟩,⟨(some 6),none,.load 1 false (.t 5)⟩,⟨(some 5),none,.faddr 0 (.t 1)⟩]
 (.l ⟨(some 11),none,.bslice 1 []⟩ [⟨(some 13),none,.load 1 false (.t 12)⟩,⟨(some 12),none,.faddr 3 (.t 1)⟩,⟨(some 10),none,.load 1 false (.t 9)⟩,⟨(some 9),none,.faddr 2 (.t 1)⟩,⟨(some 8),none,.load 1 false (.t 7)⟩,⟨(some 7),none,.faddr 1 (.t 1)⟩,⟨(some 6),none,.load 1 false (.t 5)⟩,⟨(some 5),none,.faddr 0 (.t 1)⟩]
 (.l ⟨(some 14),none,.append 1 16 (.t 11) (.t 13)⟩ [⟨(some 10),none,.load 1 false (.t 9)⟩,⟨(some 9),none,.faddr 2 (.t 1)⟩,⟨(some 8),none,.load 1 false (.t 7)⟩,⟨(some 7),none,.faddr 1 (.t 1)⟩,⟨(some 6),none,.load 1 false (.t 5)⟩,⟨(some 5),none,.faddr 0 (.t 1)⟩]
 (tq 16 (.build [(.int .i64 0),(.int .i64 0),(.str []),.nil,.nil] [(0,1,(.t 6)),(1,1,(.t 8)),(2,1,(.t 10)),(3,1,(.t 14)),(4,1,(.t 15))]) (.l ⟨(some 3),none,.box 5 (.c (.agg [(.int .i64 0),(.int .i64 0),(.str []),.nil,.nil]))⟩ [⟨(some 16),none,.build [(.int .i64 0),(.int .i64 0),(.str []),.nil,.nil] [(0,1,(.t 6)),(1,1,(.t 8)),(2,1,(.t 10)),(3,1,(.t 14)),(4,1,(.t 15))]⟩,⟨(some 13),none,.load 1 false (.t 12)⟩,⟨(some 12),none,.faddr 3 (.t 1)⟩,⟨(some 10),none,.load 1 false (.t 9)⟩,⟨(some 9),none,.faddr 2 (.t 1)⟩,⟨(some 8),none,.load 1 false (.t 7)⟩,⟨(some 7),none,.faddr 1 (.t 1)⟩,⟨(some 6),none,.load 1 false (.t 5)⟩,⟨(some 5),none,.faddr 0 (.t 1)⟩]
 (.l ⟨none,none,.store 5 (.t 3) (.t 16)⟩ []
 .done .non) .non)) (.l ⟨(some 3),none,.box 5 (.c (.agg [(.int .i64 0),(.int .i64 0),(.str []),.nil,.nil]))⟩ [⟨(some 13),none,.load 1 false (.t 12)⟩,⟨(some 12),none,.faddr 3 (.t 1)⟩,⟨(some 10),none,.load 1 false (.t 9)⟩,⟨(some 9),none,.faddr 2 (.t 1)⟩,⟨(some 8),none,.load 1 false (.t 7)⟩,⟨(some 7),none,.faddr 1 (.t 1)⟩,⟨(some 6),none,.load 1 false (.t 5)⟩,⟨(some 5),none,.faddr 0 (.t 1)⟩]
 (.l ⟨(some 14),none,.append 1 16 (.t 11) (.t 13)⟩ [⟨(some 10),none,.load 1 false (.t 9)⟩,⟨(some 9),none,.faddr 2 (.t 1)⟩,⟨(some 8),none,.load 1 false (.t 7)⟩,⟨(some 7),none,.faddr 1 (.t 1)⟩,⟨(some 6),none,.load 1 false (.t 5)⟩,⟨(some 5),none,.faddr 0 (.t 1)⟩]
 (tq 16 (.build [(.int .i64 0),(.int .i64 0),(.str []),.nil,.nil] [(0,1,(.t 6)),(1,1,(.t 8)),(2,1,(.t 10)),(3,1,(.t 14)),(4,1,(.t 15))]) (.l ⟨none,none,.store 5 (.t 3) (.t 16)⟩ []
 .done .non)) .non) .non)) (.l ⟨(some 3),none,.box 5 (.c (.agg [(.int .i64 0),(.int .i64 0),(.str []),.nil,.nil]))⟩ [⟨(some 13),none,.load 1 false (.t 12)⟩,⟨(some 12),none,.faddr 3 (.t 1)⟩,⟨(some 10),none,.load 1 false (.t 9)⟩,⟨(some 9),none,.faddr 2 (.t 1)⟩,⟨(some 8),none,.load 1 false (.t 7)⟩,⟨(some 7),none,.faddr 1 (.t 1)⟩,⟨(some 6),none,.load 1 false (.t 5)⟩,⟨(some 5),none,.faddr 0 (.t 1)⟩]
 (.l ⟨(some 11),none,.bslice 1 []⟩ [⟨(some 13),none,.load 1 false (.t 12)⟩,⟨(some 12),none,.faddr 3 (.t 1)⟩,⟨(some 10),none,.load 1 false (.t 9)⟩,⟨(some 9),none,.faddr 2 (.t 1)⟩,⟨(some 8),none,.load 1 false (.t 7)⟩,⟨(some 7),none,.faddr 1 (.t 1)⟩,⟨(some 6),none,.load 1 false (.t 5)⟩,⟨(some 5),none,.faddr 0 (.t 1)⟩]
 (.l ⟨(some 14),none,.append 1 16 (.t 11) (.t 13)⟩ [⟨(some 10),none,.load 1 false (.t 9)⟩,⟨(some 9),none,.faddr 2 (.t 1)⟩,⟨(some 8),none,.load 1 false (.t 7)⟩,⟨(some 7),none,.faddr 1 (.t 1)⟩,⟨(some 6),none,.load 1 false (.t 5)⟩,⟨(some 5),none,.faddr 0 (.t 1)⟩]
 (tq 16 (.build [(.int .i64 0),(.int .i64 0),(.str []),.nil,.nil] [(0,1,(.t 6)),(1,1,(.t 8)),(2,1,(.t 10)),(3,1,(.t 14)),(4,1,(.t 15))]) (.l ⟨none,none,.store 5 (.t 3) (.t 16)⟩ []
 .done .non)) .non) .non) .non)) (.l ⟨(some 3),none,.box 5 (.c (.agg [(.int .i64 0),(.int .i64 0),(.str []),.nil,.nil]))⟩ [⟨(some 13),none,.load 1 false (.t 12)⟩,⟨(some 12),none,.faddr 3 (.t 1)⟩,⟨(some 10),none,.load 1 false (.t 9)⟩,⟨(some 9),none,.faddr 2 (.t 1)⟩,⟨(some 8),none,.load 1 false (.t 7)⟩,⟨(some 7),none,.faddr 1 (.t 1)⟩,⟨(some 6),none,.load 1 false (.t 5)⟩,⟨(some 5),none,.faddr 0 (.t 1)⟩]
 (.l ⟨(some 11),none,.bslice 1 []⟩ [⟨(some 13),none,.load 1 false (.t 12)⟩,⟨(some 12),none,.faddr 3 (.t 1)⟩,⟨(some 10),none,.load 1 false (.t 9)⟩,⟨(some 9),none,.faddr 2 (.t 1)⟩,⟨(some 8),none,.load 1 false (.t 7)⟩,⟨(some 7),none,.faddr 1 (.t 1)⟩,⟨(some 6),none,.load 1 false (.t 5)⟩,⟨(some 5),none,.faddr 0 (.t 1)⟩]
 (.l ⟨(some 14),none,.append 1 16 (.t 11) (.t 13)⟩ [⟨(some 10),none,.load 1 false (.t 9)⟩,⟨(some 9),none,.faddr 2 (.t 1)⟩,⟨(some 8),none,.load 1 false (.t 7)⟩,⟨(some 7),none,.faddr 1 (.t 1)⟩,⟨(some 6),none,.load 1 false (.t 5)⟩,⟨(some 5),none,.faddr 0 (.t 1)⟩]
 (.l ⟨(some 15),none,.bslice 5 []⟩ [⟨(some 13),none,.load 1 false (.t 12)⟩,⟨(some 12),none,.faddr 3 (.t 1)⟩,⟨(some 10),none,.load 1 false (.t 9)⟩,⟨(some 9),none,.faddr 2 (.t 1)⟩,⟨(some 8),none,.load 1 false (.t 7)⟩,⟨(some 7),none,.faddr 1 (.t 1)⟩,⟨(some 6),none,.load 1 false (.t 5)⟩,⟨(some 5),none,.faddr 0 (.t 1)⟩]
 (tq 16 (.build [(.int .i64 0),(.int .i64 0),(.str []),.nil,.nil] [(0,1,(.t 6)),(1,1,(.t 8)),(2,1,(.t 10)),(3,1,(.t 14)),(4,1,(.t 15))]) (.l ⟨none,none,.store 5 (.t 3) (.t 16)⟩ []
 .done .non)) .non) (.l ⟨(some 15),none,.bslice 5 []⟩ [⟨(some 13),none,.load 1 false (.t 12)⟩,⟨(some 12),none,.faddr 3 (.t 1)⟩,⟨(some 10),none,.load 1 false (.t 9)⟩,⟨(some 9),none,.faddr 2 (.t 1)⟩,⟨(some 8),none,.load 1 false (.t 7)⟩,⟨(some 7),none,.faddr 1 (.t 1)⟩,⟨(some 6),none,.load 1 false (.t 5)⟩,⟨(some 5),none,.faddr 0 (.t 1)⟩]
 (.l ⟨(some 14),none,.append 1 16 (.t 11) (.t 13)⟩ [⟨(some 10),none,.load 1 false (.t 9)⟩,⟨(some 9),none,.faddr 2 (.t 1)⟩,⟨(some 8),none,.load 1 false (.t 7)⟩,⟨(some 7),none,.faddr 1 (.t 1)⟩,⟨(some 6),none,.load 1 false (.t 5)⟩,⟨(some 5),none,.faddr 0 (.t 1)⟩]
 (tq 16 (.build [(.int .i64 0),(.int .i64 0),(.str []),.nil,.nil] [(0,1,(.t 6)),(1,1,(.t 8)),(2,1,(.t 10)),(3,1,(.t 14)),(4,1,(.t 15))]) (.l ⟨none,none,.store 5 (.t 3) (.t 16)⟩ []
 .done .non)) .non) .non)) (.l ⟨(some 15),none,.bslice 5 []⟩ [⟨(some 13),none,.load 1 false (.t 12)⟩,⟨(some 12),none,.faddr 3 (.t 1)⟩,⟨(some 10),none,.load 1 false (.t 9)⟩,⟨(some 9),none,.faddr 2 (.t 1)⟩,⟨(some 8),none,.load 1 false (.t 7)⟩,⟨(some 7),none,.faddr 1 (.t 1)⟩,⟨(some 6),none,.load 1 false (.t 5)⟩,⟨(some 5),none,.faddr 0 (.t 1)⟩]
 (.l ⟨(some 11),none,.bslice 1 []⟩ [⟨(some 13),none,.load 1 false (.t 12)⟩,⟨(some 12),none,.faddr 3 (.t 1)⟩,⟨(some 10),none,.load 1 false (.t 9)⟩,⟨(some 9),none,.faddr 2 (.t 1)⟩,⟨(some 8),none,.load 1 false (.t 7)⟩,⟨(some 7),none,.faddr 1 (.t 1)⟩,⟨(some 6),none,.load 1 false (.t 5)⟩,⟨(some 5),none,.faddr 0 (.t 1)⟩]
 (.l ⟨(some 14),none,.append 1 16 (.t 11) (.t 13)⟩ [⟨(some 10),none,.load 1 false (.t 9)⟩,⟨(some 9),none,.faddr 2 (.t 1)⟩,⟨(some 8),none,.load 1 false (.t 7)⟩,⟨(some 7),none,.faddr 1 (.t 1)⟩,⟨(some 6),none,.load 1 false (.t 5)⟩,⟨(some 5),none,.faddr 0 (.t 1)⟩]
 (tq 16 (.build [(.int .i64 0),(.int .i64 0),(.str []),.nil,.nil] [(0,1,(.t 6)),(1,1,(.t 8)),(2,1,(.t 10)),(3,1,(.t 14)),(4,1,(.t 15))]) (.l ⟨none,none,.store 5 (.t 3) (.t 16)⟩ []
 .done .non)) .non) .non) .non)) .non))))))))))))
 (.cut (.seq (.seq (.reg (tm 4 (.c (.int .i64 0)) .done))
 (.block 0 (.loop (.seq (.seq (.reg (tm 17 (.t 4) (tq 18 (.faddr 4 (.t 1)) (tq 19 (.load 1 false (.t 18)) (tq 20 (.len (.t 19)) (tq 21 (.bin .lss (.t 17) (.t 20)) .done))))))
 (.cond (.t 21) .skip
 (.exit 0)))
 (.seq (.block 1 (.reg (tq 24 (.faddr 4 (.t 3)) (tq 25 (.load 1 false (.t 24)) (tq 26 (.faddr 4 (.t 1)) (tq 27 (.load 1 false (.t 26)) (tm 28 (.t 4) (tq 29 (.iaddr 5 (.t 27) (.t 28)) (tq 30 (.load 5 true (.t 29)) (.l ⟨(some 31),none,.call 93 [(.t 30)]⟩ [⟨(some 25),none,.load 1 false (.t 24)⟩,⟨(some 24),none,.faddr 4 (.t 3)⟩]
 (.l ⟨(some 32),none,.bslice 5 [(.t 31)]⟩ [⟨(some 25),none,.load 1 false (.t 24)⟩,⟨(some 24),none,.faddr 4 (.t 3)⟩]
 (.l ⟨(some 33),none,.append 5 80 (.t 25) (.t 32)⟩ []
 (tq 34 (.faddr 4 (.t 3)) (.l ⟨none,none,.store 1 (.t 34) (.t 33)⟩ []
 .done .non)) .non) .non) .non))))))))))
 (.reg (tm 22 (.t 4) (tq 23 (.bin .add (.t 22) (.c (.int .i64 1))) (tm 4 (.t 23) .done)))))))))
 (.cut (.seq (.reg (tq 35 (.load 5 true (.t 3)) (.q ⟨none,none,.store 5 (.t 2) (.t 35)⟩
 .done)))
 .ret))))))
theorem e6p:a1b Tryz.prog Tryz.f93 = some (c93.erase,[.load 5 true (.t 2)],36):=by kernel_rfl
def a4h (rec:(y7 → Option y7)):List y7 → (List y7) → Option (List y7)
  | [],x_22 =>
    some x_22
  | x_39 :: xs,x_22 =>
    (rec x_39).bind fun r_42 =>
    if (x_22 ++ [r_42]).length ≤ 2 ^ 30 then
    a4h rec xs  (x_22 ++ [r_42])
    else none

def b1m (rec:(y7 → Option y7)) (j_1:y7):Option y7 :=
    ((if ([] ++ j_1.Keys).length ≤ 2 ^ 30 then
    some ()
    else none:Option Unit)).bind fun _ =>
    (a4h rec j_1.Items []).bind fun x_31 =>
    some (⟨j_1.Kind,j_1.N,j_1.T,[] ++ j_1.Keys,x_31⟩:y7)
theorem c2k (rec:(y7 → Option y7)) (hrec:∀ a0 r,rec a0 = some r → y9 Tryz.prog 93 .fresh [(o5 a0)] (o5 r)) (j_1:y7) (r:y7) (hf:b1m rec j_1 = some r):y9 Tryz.prog 93 .fresh [(o5 j_1)] (o5 r):=by
 refine y9.of_awp mixed Tryz.func93 e6p nle ?_;rw [a0f];rw [y8 j_1];unfold b1m at hf;unfold c93;refine (show awp Tryz.prog true 0 _ (ofL [(0,(.agg [(.int .i64 j_1.Kind),(.int .i64 j_1.N),(.str j_1.T),(.lst 1 (j_1.Keys.map AV.str)),(.lst 5 (j_1.Items.map o5))]))]) [] _ from ?_);refine sr<|o8 (a1g (j:=0) (c:=(.agg [(.int .i64 j_1.Kind),(.int .i64 j_1.N),(.str j_1.T),(.lst 1 (j_1.Keys.map AV.str)),(.lst 5 (j_1.Items.map o5))])) rfl trivial rfl rfl)<|o8 (a1g (j:=1) (c:=(.agg [(.int .i64 0),(.int .i64 0),(.str []),.nil,.nil])) rfl trivial rfl rfl)<|dk<|o6<|?_
 obtain ⟨p3,hb1,hf⟩:=ob hf
 refine a2v ([(1,(.ptr 0 0 0)),(2,(.ptr 1 0 0)),(3,(.ptr 2 0 0))],[.box 5 (.agg [(.int .i64 j_1.Kind),(.int .i64 j_1.N),(.str j_1.T),(.lst 1 (j_1.Keys.map AV.str)),(.lst 5 (j_1.Items.map o5))]),.box 5 (.agg [(.int .i64 0),(.int .i64 0),(.str []),.nil,.nil]),.box 5 (.agg [(.int .i64 j_1.Kind),(.int .i64 j_1.N),(.str j_1.T),(.own 3 0 (([] ++ j_1.Keys).length)),(.own 4 0 0)]),.row 1 (([] ++ j_1.Keys).map AV.str),.row 5 ([].map o5)]) ?_ ?_
 ·refine a0z ?_
  obtain ⟨g4,hb1⟩:=og hb1
  refine o7 (.ptr 0 0 0) rfl trivial rfl<|o7 (.int .i64 j_1.Kind) rfl nle rfl<|o7 (.ptr 0 0 1) rfl trivial rfl<|o7 (.int .i64 j_1.N) rfl nle rfl<|o7 (.ptr 0 0 2) rfl trivial rfl<|o7 (.str j_1.T) rfl nle rfl<|o7 (.ptr 0 0 3) rfl trivial rfl<|o7 (.lst 1 (j_1.Keys.map AV.str)) rfl nle rfl<|?_;refine a1r (a1c (j:=2) (as':=[]) rfl (fun _ => by decide) trivial (.refl _) rfl rfl rfl) (.inr ⟨⟨nle,rfl⟩,⟨⟨trivial,rfl⟩,⟨⟨nle,rfl⟩,⟨⟨trivial,rfl⟩,⟨⟨nle,rfl⟩,⟨⟨trivial,rfl⟩,⟨⟨nle,rfl⟩,⟨⟨trivial,rfl⟩,trivial⟩⟩⟩⟩⟩⟩⟩⟩) ?_ ?_
  ·refine a1r (a1c (j:=2) (as':=[]) rfl (fun _ => by decide) trivial (.refl _) rfl rfl rfl) (.inr ⟨⟨nle,rfl⟩,⟨⟨trivial,rfl⟩,⟨⟨nle,rfl⟩,⟨⟨trivial,rfl⟩,⟨⟨nle,rfl⟩,⟨⟨trivial,rfl⟩,⟨⟨nle,rfl⟩,⟨⟨trivial,rfl⟩,trivial⟩⟩⟩⟩⟩⟩⟩⟩) ?_ ?_
   ·refine a1r (a1g (j:=2) (c:=(.agg [(.int .i64 0),(.int .i64 0),(.str []),.nil,.nil])) rfl trivial rfl rfl) (.inr ⟨⟨nle,rfl⟩,⟨⟨trivial,rfl⟩,⟨⟨nle,rfl⟩,⟨⟨trivial,rfl⟩,⟨⟨nle,rfl⟩,⟨⟨trivial,rfl⟩,⟨⟨nle,rfl⟩,⟨⟨trivial,rfl⟩,trivial⟩⟩⟩⟩⟩⟩⟩⟩) trivial ?_;refine a1r (a1c (j:=3) (as':=[]) rfl (fun _ => by decide) trivial (.refl _) rfl rfl rfl) (.inr ⟨⟨nle,rfl⟩,⟨⟨trivial,rfl⟩,⟨⟨nle,rfl⟩,⟨⟨trivial,rfl⟩,⟨⟨nle,rfl⟩,⟨⟨trivial,rfl⟩,⟨⟨nle,rfl⟩,⟨⟨trivial,rfl⟩,trivial⟩⟩⟩⟩⟩⟩⟩⟩) ?_ ?_
    ·refine a1r (a1c (j:=3) (as':=[]) rfl (fun _ => by decide) trivial (.refl _) rfl rfl rfl) (.inr ⟨⟨nle,rfl⟩,⟨⟨trivial,rfl⟩,⟨⟨nle,rfl⟩,⟨⟨trivial,rfl⟩,⟨⟨nle,rfl⟩,⟨⟨trivial,rfl⟩,⟨⟨nle,rfl⟩,⟨⟨trivial,rfl⟩,trivial⟩⟩⟩⟩⟩⟩⟩⟩) trivial ?_;refine a1r (a1c (j:=4) (as':=[]) rfl (fun _ => by decide) trivial (.refl _) rfl rfl rfl) (.inr ⟨⟨nle,rfl⟩,⟨⟨trivial,rfl⟩,⟨⟨nle,rfl⟩,⟨⟨trivial,rfl⟩,⟨⟨nle,rfl⟩,⟨⟨trivial,rfl⟩,⟨⟨nle,rfl⟩,⟨⟨trivial,rfl⟩,trivial⟩⟩⟩⟩⟩⟩⟩⟩) trivial ?_
     refine a1r (a2a (j:=5) (L:=(([] ++ j_1.Keys).map AV.str)) (len:=([] ++ j_1.Keys).length) rfl false rfl rfl (fun _ => flm (fun _ => rfl) _) (fun _ _ _ => flm (fun _ => rfl) _) (by decide) ((by simp)) (by simp <;> omega) g4 rfl rfl) (.inr ⟨⟨nle,rfl⟩,⟨⟨trivial,rfl⟩,⟨⟨nle,rfl⟩,⟨⟨trivial,rfl⟩,⟨⟨nle,rfl⟩,⟨⟨trivial,rfl⟩,trivial⟩⟩⟩⟩⟩⟩) trivial ?_
     refine o7 (.agg [(.int .i64 j_1.Kind),(.int .i64 j_1.N),(.str j_1.T),(.own 5 0 (([] ++ j_1.Keys).length)),(.own 3 0 0)]) rfl ⟨⟨rfl,nle,trivial⟩,⟨⟨rfl,nle,trivial⟩,⟨⟨rfl,nle,trivial⟩,⟨⟨rfl,nle,trivial⟩,⟨⟨rfl,nle,trivial⟩,trivial⟩⟩⟩⟩⟩ rfl<|a6g (x9 (v:=(.agg [(.int .i64 j_1.Kind),(.int .i64 j_1.N),(.str j_1.T),(.own 5 0 (([] ++ j_1.Keys).length)),(.own 3 0 0)])) (y':=(.agg [(.int .i64 j_1.Kind),(.int .i64 j_1.N),(.str j_1.T),(.own 5 0 (([] ++ j_1.Keys).length)),(.own 3 0 0)])) rfl rfl rfl trivial ⟨rfl,nle⟩ ⟨⟨rfl,trivial⟩,⟨⟨rfl,trivial⟩,⟨⟨rfl,trivial⟩,⟨⟨rfl,trivial⟩,⟨⟨rfl,trivial⟩,trivial⟩⟩⟩⟩⟩ rfl) trivial trivial<|a0e<|?_;obtain rfl:=os hb1;exact ⟨[],[0,1,2,5,3],_,_,rfl,rfl,⟨.refl _,⟨.refl _,⟨.refl _,trivial⟩⟩⟩,(.cons (.refl _) (.cons (.refl _) (.cons (.box (.agg (.cons (.refl _) (.cons (.refl _) (.cons (.refl _) (.cons (.refl _) (.cons (.of_eq (congrArg (AV.own _ 0) (by simp))) .nil))))))) (.cons (.refl _) (.cons (.refl _) .nil)))))⟩
    ·refine a1r (a2a (j:=4) (L:=(([] ++ j_1.Keys).map AV.str)) (len:=([] ++ j_1.Keys).length) rfl false rfl rfl (fun _ => flm (fun _ => rfl) _) (fun _ _ _ => flm (fun _ => rfl) _) (by decide) ((by simp)) (by simp <;> omega) g4 rfl rfl) (.inr ⟨⟨nle,rfl⟩,⟨⟨trivial,rfl⟩,⟨⟨nle,rfl⟩,⟨⟨trivial,rfl⟩,⟨⟨nle,rfl⟩,⟨⟨trivial,rfl⟩,trivial⟩⟩⟩⟩⟩⟩) ?_ ?_
     ·refine a1r (a1c (j:=4) (as':=[]) rfl (fun _ => by decide) trivial (.refl _) rfl rfl rfl) (.inr ⟨⟨nle,rfl⟩,⟨⟨trivial,rfl⟩,⟨⟨nle,rfl⟩,⟨⟨trivial,rfl⟩,⟨⟨nle,rfl⟩,⟨⟨trivial,rfl⟩,⟨⟨nle,rfl⟩,⟨⟨trivial,rfl⟩,trivial⟩⟩⟩⟩⟩⟩⟩⟩) trivial ?_
      refine a1r (a2a (j:=5) (L:=(([] ++ j_1.Keys).map AV.str)) (len:=([] ++ j_1.Keys).length) rfl false rfl rfl (fun _ => flm (fun _ => rfl) _) (fun _ _ _ => flm (fun _ => rfl) _) (by decide) ((by simp)) (by simp <;> omega) g4 rfl rfl) (.inr ⟨⟨nle,rfl⟩,⟨⟨trivial,rfl⟩,⟨⟨nle,rfl⟩,⟨⟨trivial,rfl⟩,⟨⟨nle,rfl⟩,⟨⟨trivial,rfl⟩,trivial⟩⟩⟩⟩⟩⟩) trivial ?_
      refine o7 (.agg [(.int .i64 j_1.Kind),(.int .i64 j_1.N),(.str j_1.T),(.own 5 0 (([] ++ j_1.Keys).length)),(.own 4 0 0)]) rfl ⟨⟨rfl,nle,trivial⟩,⟨⟨rfl,nle,trivial⟩,⟨⟨rfl,nle,trivial⟩,⟨⟨rfl,nle,trivial⟩,⟨⟨rfl,nle,trivial⟩,trivial⟩⟩⟩⟩⟩ rfl<|a6g (x9 (v:=(.agg [(.int .i64 j_1.Kind),(.int .i64 j_1.N),(.str j_1.T),(.own 5 0 (([] ++ j_1.Keys).length)),(.own 4 0 0)])) (y':=(.agg [(.int .i64 j_1.Kind),(.int .i64 j_1.N),(.str j_1.T),(.own 5 0 (([] ++ j_1.Keys).length)),(.own 4 0 0)])) rfl rfl rfl trivial ⟨rfl,nle⟩ ⟨⟨rfl,trivial⟩,⟨⟨rfl,trivial⟩,⟨⟨rfl,trivial⟩,⟨⟨rfl,trivial⟩,⟨⟨rfl,trivial⟩,trivial⟩⟩⟩⟩⟩ rfl) trivial trivial<|a0e<|?_;obtain rfl:=os hb1;exact ⟨[],[0,1,2,5,4],_,_,rfl,rfl,⟨.refl _,⟨.refl _,⟨.refl _,trivial⟩⟩⟩,(.cons (.refl _) (.cons (.refl _) (.cons (.box (.agg (.cons (.refl _) (.cons (.refl _) (.cons (.refl _) (.cons (.refl _) (.cons (.of_eq (congrArg (AV.own _ 0) (by simp))) .nil))))))) (.cons (.refl _) (.cons (.refl _) .nil)))))⟩
     ·refine a1r (a1c (j:=5) (as':=[]) rfl (fun _ => by decide) trivial (.refl _) rfl rfl rfl) (.inr ⟨⟨nle,rfl⟩,⟨⟨trivial,rfl⟩,⟨⟨nle,rfl⟩,⟨⟨trivial,rfl⟩,⟨⟨nle,rfl⟩,⟨⟨trivial,rfl⟩,⟨⟨nle,rfl⟩,⟨⟨trivial,rfl⟩,trivial⟩⟩⟩⟩⟩⟩⟩⟩) trivial ?_;refine o7 (.agg [(.int .i64 j_1.Kind),(.int .i64 j_1.N),(.str j_1.T),(.own 4 0 (([] ++ j_1.Keys).length)),(.own 5 0 0)]) rfl ⟨⟨rfl,nle,trivial⟩,⟨⟨rfl,nle,trivial⟩,⟨⟨rfl,nle,trivial⟩,⟨⟨rfl,nle,trivial⟩,⟨⟨rfl,nle,trivial⟩,trivial⟩⟩⟩⟩⟩ rfl<|a6g (x9 (v:=(.agg [(.int .i64 j_1.Kind),(.int .i64 j_1.N),(.str j_1.T),(.own 4 0 (([] ++ j_1.Keys).length)),(.own 5 0 0)])) (y':=(.agg [(.int .i64 j_1.Kind),(.int .i64 j_1.N),(.str j_1.T),(.own 4 0 (([] ++ j_1.Keys).length)),(.own 5 0 0)])) rfl rfl rfl trivial ⟨rfl,nle⟩ ⟨⟨rfl,trivial⟩,⟨⟨rfl,trivial⟩,⟨⟨rfl,trivial⟩,⟨⟨rfl,trivial⟩,⟨⟨rfl,trivial⟩,trivial⟩⟩⟩⟩⟩ rfl) trivial trivial<|?_
      refine a0e ?_;obtain rfl:=os hb1;exact ⟨[],[0,1,2,4,5],_,_,rfl,rfl,⟨.refl _,⟨.refl _,⟨.refl _,trivial⟩⟩⟩,(.cons (.refl _) (.cons (.refl _) (.cons (.box (.agg (.cons (.refl _) (.cons (.refl _) (.cons (.refl _) (.cons (.refl _) (.cons (.of_eq (congrArg (AV.own _ 0) (by simp))) .nil))))))) (.cons (.refl _) (.cons (.refl _) .nil)))))⟩
   ·refine a1r (a1c (j:=3) (as':=[]) rfl (fun _ => by decide) trivial (.refl _) rfl rfl rfl) (.inr ⟨⟨nle,rfl⟩,⟨⟨trivial,rfl⟩,⟨⟨nle,rfl⟩,⟨⟨trivial,rfl⟩,⟨⟨nle,rfl⟩,⟨⟨trivial,rfl⟩,⟨⟨nle,rfl⟩,⟨⟨trivial,rfl⟩,trivial⟩⟩⟩⟩⟩⟩⟩⟩) ?_ ?_
    ·refine a1r (a1g (j:=3) (c:=(.agg [(.int .i64 0),(.int .i64 0),(.str []),.nil,.nil])) rfl trivial rfl rfl) (.inr ⟨⟨nle,rfl⟩,⟨⟨trivial,rfl⟩,⟨⟨nle,rfl⟩,⟨⟨trivial,rfl⟩,⟨⟨nle,rfl⟩,⟨⟨trivial,rfl⟩,⟨⟨nle,rfl⟩,⟨⟨trivial,rfl⟩,trivial⟩⟩⟩⟩⟩⟩⟩⟩) trivial ?_;refine a1r (a1c (j:=4) (as':=[]) rfl (fun _ => by decide) trivial (.refl _) rfl rfl rfl) (.inr ⟨⟨nle,rfl⟩,⟨⟨trivial,rfl⟩,⟨⟨nle,rfl⟩,⟨⟨trivial,rfl⟩,⟨⟨nle,rfl⟩,⟨⟨trivial,rfl⟩,⟨⟨nle,rfl⟩,⟨⟨trivial,rfl⟩,trivial⟩⟩⟩⟩⟩⟩⟩⟩) trivial ?_
     refine a1r (a2a (j:=5) (L:=(([] ++ j_1.Keys).map AV.str)) (len:=([] ++ j_1.Keys).length) rfl false rfl rfl (fun _ => flm (fun _ => rfl) _) (fun _ _ _ => flm (fun _ => rfl) _) (by decide) ((by simp)) (by simp <;> omega) g4 rfl rfl) (.inr ⟨⟨nle,rfl⟩,⟨⟨trivial,rfl⟩,⟨⟨nle,rfl⟩,⟨⟨trivial,rfl⟩,⟨⟨nle,rfl⟩,⟨⟨trivial,rfl⟩,trivial⟩⟩⟩⟩⟩⟩) trivial ?_
     refine o7 (.agg [(.int .i64 j_1.Kind),(.int .i64 j_1.N),(.str j_1.T),(.own 5 0 (([] ++ j_1.Keys).length)),(.own 2 0 0)]) rfl ⟨⟨rfl,nle,trivial⟩,⟨⟨rfl,nle,trivial⟩,⟨⟨rfl,nle,trivial⟩,⟨⟨rfl,nle,trivial⟩,⟨⟨rfl,nle,trivial⟩,trivial⟩⟩⟩⟩⟩ rfl<|a6g (x9 (v:=(.agg [(.int .i64 j_1.Kind),(.int .i64 j_1.N),(.str j_1.T),(.own 5 0 (([] ++ j_1.Keys).length)),(.own 2 0 0)])) (y':=(.agg [(.int .i64 j_1.Kind),(.int .i64 j_1.N),(.str j_1.T),(.own 5 0 (([] ++ j_1.Keys).length)),(.own 2 0 0)])) rfl rfl rfl trivial ⟨rfl,nle⟩ ⟨⟨rfl,trivial⟩,⟨⟨rfl,trivial⟩,⟨⟨rfl,trivial⟩,⟨⟨rfl,trivial⟩,⟨⟨rfl,trivial⟩,trivial⟩⟩⟩⟩⟩ rfl) trivial trivial<|a0e<|?_;obtain rfl:=os hb1;exact ⟨[],[0,1,3,5,2],_,_,rfl,rfl,⟨.refl _,⟨.refl _,⟨.refl _,trivial⟩⟩⟩,(.cons (.refl _) (.cons (.refl _) (.cons (.box (.agg (.cons (.refl _) (.cons (.refl _) (.cons (.refl _) (.cons (.refl _) (.cons (.of_eq (congrArg (AV.own _ 0) (by simp))) .nil))))))) (.cons (.refl _) (.cons (.refl _) .nil)))))⟩
    ·refine a1r (a2a (j:=4) (L:=(([] ++ j_1.Keys).map AV.str)) (len:=([] ++ j_1.Keys).length) rfl false rfl rfl (fun _ => flm (fun _ => rfl) _) (fun _ _ _ => flm (fun _ => rfl) _) (by decide) ((by simp)) (by simp <;> omega) g4 rfl rfl) (.inr ⟨⟨nle,rfl⟩,⟨⟨trivial,rfl⟩,⟨⟨nle,rfl⟩,⟨⟨trivial,rfl⟩,⟨⟨nle,rfl⟩,⟨⟨trivial,rfl⟩,trivial⟩⟩⟩⟩⟩⟩) ?_ ?_
     ·refine a1r (a1g (j:=4) (c:=(.agg [(.int .i64 0),(.int .i64 0),(.str []),.nil,.nil])) rfl trivial rfl rfl) (.inr ⟨⟨nle,rfl⟩,⟨⟨trivial,rfl⟩,⟨⟨nle,rfl⟩,⟨⟨trivial,rfl⟩,⟨⟨nle,rfl⟩,⟨⟨trivial,rfl⟩,⟨⟨nle,rfl⟩,⟨⟨trivial,rfl⟩,trivial⟩⟩⟩⟩⟩⟩⟩⟩) trivial ?_
      refine a1r (a2a (j:=5) (L:=(([] ++ j_1.Keys).map AV.str)) (len:=([] ++ j_1.Keys).length) rfl false rfl rfl (fun _ => flm (fun _ => rfl) _) (fun _ _ _ => flm (fun _ => rfl) _) (by decide) ((by simp)) (by simp <;> omega) g4 rfl rfl) (.inr ⟨⟨nle,rfl⟩,⟨⟨trivial,rfl⟩,⟨⟨nle,rfl⟩,⟨⟨trivial,rfl⟩,⟨⟨nle,rfl⟩,⟨⟨trivial,rfl⟩,trivial⟩⟩⟩⟩⟩⟩) trivial ?_
      refine o7 (.agg [(.int .i64 j_1.Kind),(.int .i64 j_1.N),(.str j_1.T),(.own 5 0 (([] ++ j_1.Keys).length)),(.own 2 0 0)]) rfl ⟨⟨rfl,nle,trivial⟩,⟨⟨rfl,nle,trivial⟩,⟨⟨rfl,nle,trivial⟩,⟨⟨rfl,nle,trivial⟩,⟨⟨rfl,nle,trivial⟩,trivial⟩⟩⟩⟩⟩ rfl<|a6g (x9 (v:=(.agg [(.int .i64 j_1.Kind),(.int .i64 j_1.N),(.str j_1.T),(.own 5 0 (([] ++ j_1.Keys).length)),(.own 2 0 0)])) (y':=(.agg [(.int .i64 j_1.Kind),(.int .i64 j_1.N),(.str j_1.T),(.own 5 0 (([] ++ j_1.Keys).length)),(.own 2 0 0)])) rfl rfl rfl trivial ⟨rfl,nle⟩ ⟨⟨rfl,trivial⟩,⟨⟨rfl,trivial⟩,⟨⟨rfl,trivial⟩,⟨⟨rfl,trivial⟩,⟨⟨rfl,trivial⟩,trivial⟩⟩⟩⟩⟩ rfl) trivial trivial<|a0e<|?_;obtain rfl:=os hb1;exact ⟨[],[0,1,4,5,2],_,_,rfl,rfl,⟨.refl _,⟨.refl _,⟨.refl _,trivial⟩⟩⟩,(.cons (.refl _) (.cons (.refl _) (.cons (.box (.agg (.cons (.refl _) (.cons (.refl _) (.cons (.refl _) (.cons (.refl _) (.cons (.of_eq (congrArg (AV.own _ 0) (by simp))) .nil))))))) (.cons (.refl _) (.cons (.refl _) .nil)))))⟩
     ·refine o7 (.agg [(.int .i64 j_1.Kind),(.int .i64 j_1.N),(.str j_1.T),(.own 4 0 (([] ++ j_1.Keys).length)),(.own 2 0 0)]) rfl ⟨⟨rfl,nle,trivial⟩,⟨⟨rfl,nle,trivial⟩,⟨⟨rfl,nle,trivial⟩,⟨⟨rfl,nle,trivial⟩,⟨⟨rfl,nle,trivial⟩,trivial⟩⟩⟩⟩⟩ rfl<|a1r (a1g (j:=5) (c:=(.agg [(.int .i64 0),(.int .i64 0),(.str []),.nil,.nil])) rfl trivial rfl rfl) (.inr ⟨⟨⟨⟨rfl,nle,trivial⟩,⟨⟨rfl,nle,trivial⟩,⟨⟨rfl,nle,trivial⟩,⟨⟨rfl,nle,trivial⟩,⟨⟨rfl,nle,trivial⟩,trivial⟩⟩⟩⟩⟩,rfl⟩,⟨⟨nle,rfl⟩,⟨⟨trivial,rfl⟩,⟨⟨nle,rfl⟩,⟨⟨trivial,rfl⟩,⟨⟨nle,rfl⟩,⟨⟨trivial,rfl⟩,⟨⟨nle,rfl⟩,⟨⟨trivial,rfl⟩,trivial⟩⟩⟩⟩⟩⟩⟩⟩⟩) trivial<|a6g (x9 (v:=(.agg [(.int .i64 j_1.Kind),(.int .i64 j_1.N),(.str j_1.T),(.own 4 0 (([] ++ j_1.Keys).length)),(.own 2 0 0)])) (y':=(.agg [(.int .i64 j_1.Kind),(.int .i64 j_1.N),(.str j_1.T),(.own 4 0 (([] ++ j_1.Keys).length)),(.own 2 0 0)])) rfl rfl rfl trivial ⟨rfl,nle⟩ ⟨⟨rfl,trivial⟩,⟨⟨rfl,trivial⟩,⟨⟨rfl,trivial⟩,⟨⟨rfl,trivial⟩,⟨⟨rfl,trivial⟩,trivial⟩⟩⟩⟩⟩ rfl) trivial trivial<|?_
      refine a0e ?_;obtain rfl:=os hb1;exact ⟨[],[0,1,5,4,2],_,_,rfl,rfl,⟨.refl _,⟨.refl _,⟨.refl _,trivial⟩⟩⟩,(.cons (.refl _) (.cons (.refl _) (.cons (.box (.agg (.cons (.refl _) (.cons (.refl _) (.cons (.refl _) (.cons (.refl _) (.cons (.of_eq (congrArg (AV.own _ 0) (by simp))) .nil))))))) (.cons (.refl _) (.cons (.refl _) .nil)))))⟩
  ·refine a1r (a2a (j:=3) (L:=(([] ++ j_1.Keys).map AV.str)) (len:=([] ++ j_1.Keys).length) rfl false rfl rfl (fun _ => flm (fun _ => rfl) _) (fun _ _ _ => flm (fun _ => rfl) _) (by decide) ((by simp)) (by simp <;> omega) g4 rfl rfl) (.inr ⟨⟨nle,rfl⟩,⟨⟨trivial,rfl⟩,⟨⟨nle,rfl⟩,⟨⟨trivial,rfl⟩,⟨⟨nle,rfl⟩,⟨⟨trivial,rfl⟩,trivial⟩⟩⟩⟩⟩⟩) ?_ ?_
   ·refine a1r (a1c (j:=3) (as':=[]) rfl (fun _ => by decide) trivial (.refl _) rfl rfl rfl) (.inr ⟨⟨nle,rfl⟩,⟨⟨trivial,rfl⟩,⟨⟨nle,rfl⟩,⟨⟨trivial,rfl⟩,⟨⟨nle,rfl⟩,⟨⟨trivial,rfl⟩,⟨⟨nle,rfl⟩,⟨⟨trivial,rfl⟩,trivial⟩⟩⟩⟩⟩⟩⟩⟩) ?_ ?_
    ·refine a1r (a1g (j:=3) (c:=(.agg [(.int .i64 0),(.int .i64 0),(.str []),.nil,.nil])) rfl trivial rfl rfl) (.inr ⟨⟨nle,rfl⟩,⟨⟨trivial,rfl⟩,⟨⟨nle,rfl⟩,⟨⟨trivial,rfl⟩,⟨⟨nle,rfl⟩,⟨⟨trivial,rfl⟩,⟨⟨nle,rfl⟩,⟨⟨trivial,rfl⟩,trivial⟩⟩⟩⟩⟩⟩⟩⟩) trivial ?_
     refine a1r (a2a (j:=4) (L:=(([] ++ j_1.Keys).map AV.str)) (len:=([] ++ j_1.Keys).length) rfl false rfl rfl (fun _ => flm (fun _ => rfl) _) (fun _ _ _ => flm (fun _ => rfl) _) (by decide) ((by simp)) (by simp <;> omega) g4 rfl rfl) (.inr ⟨⟨nle,rfl⟩,⟨⟨trivial,rfl⟩,⟨⟨nle,rfl⟩,⟨⟨trivial,rfl⟩,⟨⟨nle,rfl⟩,⟨⟨trivial,rfl⟩,trivial⟩⟩⟩⟩⟩⟩) ?_ ?_
     ·refine a1r (a1c (j:=4) (as':=[]) rfl (fun _ => by decide) trivial (.refl _) rfl rfl rfl) (.inr ⟨⟨nle,rfl⟩,⟨⟨trivial,rfl⟩,⟨⟨nle,rfl⟩,⟨⟨trivial,rfl⟩,⟨⟨nle,rfl⟩,⟨⟨trivial,rfl⟩,⟨⟨nle,rfl⟩,⟨⟨trivial,rfl⟩,trivial⟩⟩⟩⟩⟩⟩⟩⟩) trivial ?_
      refine a1r (a2a (j:=5) (L:=(([] ++ j_1.Keys).map AV.str)) (len:=([] ++ j_1.Keys).length) rfl false rfl rfl (fun _ => flm (fun _ => rfl) _) (fun _ _ _ => flm (fun _ => rfl) _) (by decide) ((by simp)) (by simp <;> omega) g4 rfl rfl) (.inr ⟨⟨nle,rfl⟩,⟨⟨trivial,rfl⟩,⟨⟨nle,rfl⟩,⟨⟨trivial,rfl⟩,⟨⟨nle,rfl⟩,⟨⟨trivial,rfl⟩,trivial⟩⟩⟩⟩⟩⟩) trivial ?_
      refine o7 (.agg [(.int .i64 j_1.Kind),(.int .i64 j_1.N),(.str j_1.T),(.own 5 0 (([] ++ j_1.Keys).length)),(.own 4 0 0)]) rfl ⟨⟨rfl,nle,trivial⟩,⟨⟨rfl,nle,trivial⟩,⟨⟨rfl,nle,trivial⟩,⟨⟨rfl,nle,trivial⟩,⟨⟨rfl,nle,trivial⟩,trivial⟩⟩⟩⟩⟩ rfl<|a6g (x9 (v:=(.agg [(.int .i64 j_1.Kind),(.int .i64 j_1.N),(.str j_1.T),(.own 5 0 (([] ++ j_1.Keys).length)),(.own 4 0 0)])) (y':=(.agg [(.int .i64 j_1.Kind),(.int .i64 j_1.N),(.str j_1.T),(.own 5 0 (([] ++ j_1.Keys).length)),(.own 4 0 0)])) rfl rfl rfl trivial ⟨rfl,nle⟩ ⟨⟨rfl,trivial⟩,⟨⟨rfl,trivial⟩,⟨⟨rfl,trivial⟩,⟨⟨rfl,trivial⟩,⟨⟨rfl,trivial⟩,trivial⟩⟩⟩⟩⟩ rfl) trivial trivial<|a0e<|?_;obtain rfl:=os hb1;exact ⟨[],[0,1,3,5,4],_,_,rfl,rfl,⟨.refl _,⟨.refl _,⟨.refl _,trivial⟩⟩⟩,(.cons (.refl _) (.cons (.refl _) (.cons (.box (.agg (.cons (.refl _) (.cons (.refl _) (.cons (.refl _) (.cons (.refl _) (.cons (.of_eq (congrArg (AV.own _ 0) (by simp))) .nil))))))) (.cons (.refl _) (.cons (.refl _) .nil)))))⟩
     ·refine a1r (a1c (j:=5) (as':=[]) rfl (fun _ => by decide) trivial (.refl _) rfl rfl rfl) (.inr ⟨⟨nle,rfl⟩,⟨⟨trivial,rfl⟩,⟨⟨nle,rfl⟩,⟨⟨trivial,rfl⟩,⟨⟨nle,rfl⟩,⟨⟨trivial,rfl⟩,⟨⟨nle,rfl⟩,⟨⟨trivial,rfl⟩,trivial⟩⟩⟩⟩⟩⟩⟩⟩) trivial ?_;refine o7 (.agg [(.int .i64 j_1.Kind),(.int .i64 j_1.N),(.str j_1.T),(.own 4 0 (([] ++ j_1.Keys).length)),(.own 5 0 0)]) rfl ⟨⟨rfl,nle,trivial⟩,⟨⟨rfl,nle,trivial⟩,⟨⟨rfl,nle,trivial⟩,⟨⟨rfl,nle,trivial⟩,⟨⟨rfl,nle,trivial⟩,trivial⟩⟩⟩⟩⟩ rfl<|a6g (x9 (v:=(.agg [(.int .i64 j_1.Kind),(.int .i64 j_1.N),(.str j_1.T),(.own 4 0 (([] ++ j_1.Keys).length)),(.own 5 0 0)])) (y':=(.agg [(.int .i64 j_1.Kind),(.int .i64 j_1.N),(.str j_1.T),(.own 4 0 (([] ++ j_1.Keys).length)),(.own 5 0 0)])) rfl rfl rfl trivial ⟨rfl,nle⟩ ⟨⟨rfl,trivial⟩,⟨⟨rfl,trivial⟩,⟨⟨rfl,trivial⟩,⟨⟨rfl,trivial⟩,⟨⟨rfl,trivial⟩,trivial⟩⟩⟩⟩⟩ rfl) trivial trivial<|?_
      refine a0e ?_;obtain rfl:=os hb1;exact ⟨[],[0,1,3,4,5],_,_,rfl,rfl,⟨.refl _,⟨.refl _,⟨.refl _,trivial⟩⟩⟩,(.cons (.refl _) (.cons (.refl _) (.cons (.box (.agg (.cons (.refl _) (.cons (.refl _) (.cons (.refl _) (.cons (.refl _) (.cons (.of_eq (congrArg (AV.own _ 0) (by simp))) .nil))))))) (.cons (.refl _) (.cons (.refl _) .nil)))))⟩
    ·refine a1r (a2a (j:=4) (L:=(([] ++ j_1.Keys).map AV.str)) (len:=([] ++ j_1.Keys).length) rfl false rfl rfl (fun _ => flm (fun _ => rfl) _) (fun _ _ _ => flm (fun _ => rfl) _) (by decide) ((by simp)) (by simp <;> omega) g4 rfl rfl) (.inr ⟨⟨nle,rfl⟩,⟨⟨trivial,rfl⟩,⟨⟨nle,rfl⟩,⟨⟨trivial,rfl⟩,⟨⟨nle,rfl⟩,⟨⟨trivial,rfl⟩,trivial⟩⟩⟩⟩⟩⟩) ?_ ?_
     ·refine a1r (a1g (j:=4) (c:=(.agg [(.int .i64 0),(.int .i64 0),(.str []),.nil,.nil])) rfl trivial rfl rfl) (.inr ⟨⟨nle,rfl⟩,⟨⟨trivial,rfl⟩,⟨⟨nle,rfl⟩,⟨⟨trivial,rfl⟩,⟨⟨nle,rfl⟩,⟨⟨trivial,rfl⟩,⟨⟨nle,rfl⟩,⟨⟨trivial,rfl⟩,trivial⟩⟩⟩⟩⟩⟩⟩⟩) trivial ?_
      refine a1r (a2a (j:=5) (L:=(([] ++ j_1.Keys).map AV.str)) (len:=([] ++ j_1.Keys).length) rfl false rfl rfl (fun _ => flm (fun _ => rfl) _) (fun _ _ _ => flm (fun _ => rfl) _) (by decide) ((by simp)) (by simp <;> omega) g4 rfl rfl) (.inr ⟨⟨nle,rfl⟩,⟨⟨trivial,rfl⟩,⟨⟨nle,rfl⟩,⟨⟨trivial,rfl⟩,⟨⟨nle,rfl⟩,⟨⟨trivial,rfl⟩,trivial⟩⟩⟩⟩⟩⟩) trivial ?_
      refine o7 (.agg [(.int .i64 j_1.Kind),(.int .i64 j_1.N),(.str j_1.T),(.own 5 0 (([] ++ j_1.Keys).length)),(.own 3 0 0)]) rfl ⟨⟨rfl,nle,trivial⟩,⟨⟨rfl,nle,trivial⟩,⟨⟨rfl,nle,trivial⟩,⟨⟨rfl,nle,trivial⟩,⟨⟨rfl,nle,trivial⟩,trivial⟩⟩⟩⟩⟩ rfl<|a6g (x9 (v:=(.agg [(.int .i64 j_1.Kind),(.int .i64 j_1.N),(.str j_1.T),(.own 5 0 (([] ++ j_1.Keys).length)),(.own 3 0 0)])) (y':=(.agg [(.int .i64 j_1.Kind),(.int .i64 j_1.N),(.str j_1.T),(.own 5 0 (([] ++ j_1.Keys).length)),(.own 3 0 0)])) rfl rfl rfl trivial ⟨rfl,nle⟩ ⟨⟨rfl,trivial⟩,⟨⟨rfl,trivial⟩,⟨⟨rfl,trivial⟩,⟨⟨rfl,trivial⟩,⟨⟨rfl,trivial⟩,trivial⟩⟩⟩⟩⟩ rfl) trivial trivial<|a0e<|?_;obtain rfl:=os hb1;exact ⟨[],[0,1,4,5,3],_,_,rfl,rfl,⟨.refl _,⟨.refl _,⟨.refl _,trivial⟩⟩⟩,(.cons (.refl _) (.cons (.refl _) (.cons (.box (.agg (.cons (.refl _) (.cons (.refl _) (.cons (.refl _) (.cons (.refl _) (.cons (.of_eq (congrArg (AV.own _ 0) (by simp))) .nil))))))) (.cons (.refl _) (.cons (.refl _) .nil)))))⟩
     ·refine o7 (.agg [(.int .i64 j_1.Kind),(.int .i64 j_1.N),(.str j_1.T),(.own 4 0 (([] ++ j_1.Keys).length)),(.own 3 0 0)]) rfl ⟨⟨rfl,nle,trivial⟩,⟨⟨rfl,nle,trivial⟩,⟨⟨rfl,nle,trivial⟩,⟨⟨rfl,nle,trivial⟩,⟨⟨rfl,nle,trivial⟩,trivial⟩⟩⟩⟩⟩ rfl<|a1r (a1g (j:=5) (c:=(.agg [(.int .i64 0),(.int .i64 0),(.str []),.nil,.nil])) rfl trivial rfl rfl) (.inr ⟨⟨⟨⟨rfl,nle,trivial⟩,⟨⟨rfl,nle,trivial⟩,⟨⟨rfl,nle,trivial⟩,⟨⟨rfl,nle,trivial⟩,⟨⟨rfl,nle,trivial⟩,trivial⟩⟩⟩⟩⟩,rfl⟩,⟨⟨nle,rfl⟩,⟨⟨trivial,rfl⟩,⟨⟨nle,rfl⟩,⟨⟨trivial,rfl⟩,⟨⟨nle,rfl⟩,⟨⟨trivial,rfl⟩,⟨⟨nle,rfl⟩,⟨⟨trivial,rfl⟩,trivial⟩⟩⟩⟩⟩⟩⟩⟩⟩) trivial<|a6g (x9 (v:=(.agg [(.int .i64 j_1.Kind),(.int .i64 j_1.N),(.str j_1.T),(.own 4 0 (([] ++ j_1.Keys).length)),(.own 3 0 0)])) (y':=(.agg [(.int .i64 j_1.Kind),(.int .i64 j_1.N),(.str j_1.T),(.own 4 0 (([] ++ j_1.Keys).length)),(.own 3 0 0)])) rfl rfl rfl trivial ⟨rfl,nle⟩ ⟨⟨rfl,trivial⟩,⟨⟨rfl,trivial⟩,⟨⟨rfl,trivial⟩,⟨⟨rfl,trivial⟩,⟨⟨rfl,trivial⟩,trivial⟩⟩⟩⟩⟩ rfl) trivial trivial<|?_
      refine a0e ?_;obtain rfl:=os hb1;exact ⟨[],[0,1,5,4,3],_,_,rfl,rfl,⟨.refl _,⟨.refl _,⟨.refl _,trivial⟩⟩⟩,(.cons (.refl _) (.cons (.refl _) (.cons (.box (.agg (.cons (.refl _) (.cons (.refl _) (.cons (.refl _) (.cons (.refl _) (.cons (.of_eq (congrArg (AV.own _ 0) (by simp))) .nil))))))) (.cons (.refl _) (.cons (.refl _) .nil)))))⟩
   ·refine a1r (a1c (j:=4) (as':=[]) rfl (fun _ => by decide) trivial (.refl _) rfl rfl rfl) (.inr ⟨⟨nle,rfl⟩,⟨⟨trivial,rfl⟩,⟨⟨nle,rfl⟩,⟨⟨trivial,rfl⟩,⟨⟨nle,rfl⟩,⟨⟨trivial,rfl⟩,⟨⟨nle,rfl⟩,⟨⟨trivial,rfl⟩,trivial⟩⟩⟩⟩⟩⟩⟩⟩) ?_ ?_
    ·refine a1r (a1g (j:=4) (c:=(.agg [(.int .i64 0),(.int .i64 0),(.str []),.nil,.nil])) rfl trivial rfl rfl) (.inr ⟨⟨nle,rfl⟩,⟨⟨trivial,rfl⟩,⟨⟨nle,rfl⟩,⟨⟨trivial,rfl⟩,⟨⟨nle,rfl⟩,⟨⟨trivial,rfl⟩,⟨⟨nle,rfl⟩,⟨⟨trivial,rfl⟩,trivial⟩⟩⟩⟩⟩⟩⟩⟩) trivial ?_;refine a1r (a1c (j:=5) (as':=[]) rfl (fun _ => by decide) trivial (.refl _) rfl rfl rfl) (.inr ⟨⟨nle,rfl⟩,⟨⟨trivial,rfl⟩,⟨⟨nle,rfl⟩,⟨⟨trivial,rfl⟩,⟨⟨nle,rfl⟩,⟨⟨trivial,rfl⟩,⟨⟨nle,rfl⟩,⟨⟨trivial,rfl⟩,trivial⟩⟩⟩⟩⟩⟩⟩⟩) trivial ?_;refine o7 (.agg [(.int .i64 j_1.Kind),(.int .i64 j_1.N),(.str j_1.T),(.own 3 0 (([] ++ j_1.Keys).length)),(.own 5 0 0)]) rfl ⟨⟨rfl,nle,trivial⟩,⟨⟨rfl,nle,trivial⟩,⟨⟨rfl,nle,trivial⟩,⟨⟨rfl,nle,trivial⟩,⟨⟨rfl,nle,trivial⟩,trivial⟩⟩⟩⟩⟩ rfl ?_
     refine a6g (x9 (v:=(.agg [(.int .i64 j_1.Kind),(.int .i64 j_1.N),(.str j_1.T),(.own 3 0 (([] ++ j_1.Keys).length)),(.own 5 0 0)])) (y':=(.agg [(.int .i64 j_1.Kind),(.int .i64 j_1.N),(.str j_1.T),(.own 3 0 (([] ++ j_1.Keys).length)),(.own 5 0 0)])) rfl rfl rfl trivial ⟨rfl,nle⟩ ⟨⟨rfl,trivial⟩,⟨⟨rfl,trivial⟩,⟨⟨rfl,trivial⟩,⟨⟨rfl,trivial⟩,⟨⟨rfl,trivial⟩,trivial⟩⟩⟩⟩⟩ rfl) trivial trivial<|a0e<|?_;obtain rfl:=os hb1;exact ⟨[],[0,1,4,3,5],_,_,rfl,rfl,⟨.refl _,⟨.refl _,⟨.refl _,trivial⟩⟩⟩,(.cons (.refl _) (.cons (.refl _) (.cons (.box (.agg (.cons (.refl _) (.cons (.refl _) (.cons (.refl _) (.cons (.refl _) (.cons (.of_eq (congrArg (AV.own _ 0) (by simp))) .nil))))))) (.cons (.refl _) (.cons (.refl _) .nil)))))⟩
    ·refine o7 (.agg [(.int .i64 j_1.Kind),(.int .i64 j_1.N),(.str j_1.T),(.own 3 0 (([] ++ j_1.Keys).length)),(.own 4 0 0)]) rfl ⟨⟨rfl,nle,trivial⟩,⟨⟨rfl,nle,trivial⟩,⟨⟨rfl,nle,trivial⟩,⟨⟨rfl,nle,trivial⟩,⟨⟨rfl,nle,trivial⟩,trivial⟩⟩⟩⟩⟩ rfl<|a1r (a1g (j:=5) (c:=(.agg [(.int .i64 0),(.int .i64 0),(.str []),.nil,.nil])) rfl trivial rfl rfl) (.inr ⟨⟨⟨⟨rfl,nle,trivial⟩,⟨⟨rfl,nle,trivial⟩,⟨⟨rfl,nle,trivial⟩,⟨⟨rfl,nle,trivial⟩,⟨⟨rfl,nle,trivial⟩,trivial⟩⟩⟩⟩⟩,rfl⟩,⟨⟨nle,rfl⟩,⟨⟨trivial,rfl⟩,⟨⟨nle,rfl⟩,⟨⟨trivial,rfl⟩,⟨⟨nle,rfl⟩,⟨⟨trivial,rfl⟩,⟨⟨nle,rfl⟩,⟨⟨trivial,rfl⟩,trivial⟩⟩⟩⟩⟩⟩⟩⟩⟩) trivial<|a6g (x9 (v:=(.agg [(.int .i64 j_1.Kind),(.int .i64 j_1.N),(.str j_1.T),(.own 3 0 (([] ++ j_1.Keys).length)),(.own 4 0 0)])) (y':=(.agg [(.int .i64 j_1.Kind),(.int .i64 j_1.N),(.str j_1.T),(.own 3 0 (([] ++ j_1.Keys).length)),(.own 4 0 0)])) rfl rfl rfl trivial ⟨rfl,nle⟩ ⟨⟨rfl,trivial⟩,⟨⟨rfl,trivial⟩,⟨⟨rfl,trivial⟩,⟨⟨rfl,trivial⟩,⟨⟨rfl,trivial⟩,trivial⟩⟩⟩⟩⟩ rfl) trivial trivial<|?_
     refine a0e ?_;obtain rfl:=os hb1;exact ⟨[],[0,1,5,3,4],_,_,rfl,rfl,⟨.refl _,⟨.refl _,⟨.refl _,trivial⟩⟩⟩,(.cons (.refl _) (.cons (.refl _) (.cons (.box (.agg (.cons (.refl _) (.cons (.refl _) (.cons (.refl _) (.cons (.refl _) (.cons (.of_eq (congrArg (AV.own _ 0) (by simp))) .nil))))))) (.cons (.refl _) (.cons (.refl _) .nil)))))⟩
 ·refine o6<|sr<|l7 (.int .i64 0) rfl<|dk<|?_
  obtain ⟨x_31,hb1,hf⟩:=ob hf
  refine a2v ([(2,(.ptr 0 0 0)),(3,(.ptr 1 0 0))],[.box 5 (.agg [(.int .i64 0),(.int .i64 0),(.str []),.nil,.nil]),.box 5 (.agg [(.int .i64 j_1.Kind),(.int .i64 j_1.N),(.str j_1.T),(.own 2 0 (([] ++ j_1.Keys).length)),(.own 3 0 x_31.length)]),.row 1 (([] ++ j_1.Keys).map AV.str),.row 5 (x_31.map o5)]) ?_ ?_
  ·refine a1v (X:={q:(Nat × (List y7)) // a4h rec (j_1.Items.drop q.1) q.2 = some x_31}) (fun q => ([(1,(.ptr 0 0 0)),(2,(.ptr 1 0 0)),(3,(.ptr 2 0 0)),(4,(.int .i64 (q.1.1:Int)))],[.box 5 (.agg [(.int .i64 j_1.Kind),(.int .i64 j_1.N),(.str j_1.T),(.lst 1 (j_1.Keys.map AV.str)),(.lst 5 (j_1.Items.map o5))]),.box 5 (.agg [(.int .i64 0),(.int .i64 0),(.str []),.nil,.nil]),.box 5 (.agg [(.int .i64 j_1.Kind),(.int .i64 j_1.N),(.str j_1.T),(.own 3 0 (([] ++ j_1.Keys).length)),(.own 4 0 q.1.2.length)]),.row 1 (([] ++ j_1.Keys).map AV.str),.row 5 (q.1.2.map o5)])) (fun q => j_1.Items.length - q.1.1) ⟨(0,[]),hb1⟩ ⟨[],[0,1,2,3,4],_,_,rfl,rfl,⟨.refl _,⟨.refl _,⟨.refl _,⟨.refl _,trivial⟩⟩⟩⟩,(.refl _)⟩ ?_
   rintro ⟨⟨i_21,x_22⟩,hc1⟩
   have hc1:a4h rec (j_1.Items.drop i_21) x_22 = some x_31:=hc1
   refine (show awp Tryz.prog true 0 _ (ofL [(1,(.ptr 0 0 0)),(2,(.ptr 1 0 0)),(3,(.ptr 2 0 0)),(4,(.int .i64 (i_21:Int)))]) [.box 5 (.agg [(.int .i64 j_1.Kind),(.int .i64 j_1.N),(.str j_1.T),(.lst 1 (j_1.Keys.map AV.str)),(.lst 5 (j_1.Items.map o5))]),.box 5 (.agg [(.int .i64 0),(.int .i64 0),(.str []),.nil,.nil]),.box 5 (.agg [(.int .i64 j_1.Kind),(.int .i64 j_1.N),(.str j_1.T),(.own 3 0 (([] ++ j_1.Keys).length)),(.own 4 0 x_22.length)]),.row 1 (([] ++ j_1.Keys).map AV.str),.row 5 (x_22.map o5)] _ from ?_)
   rcases a7j j_1.Items i_21 with ⟨hie35,hd38⟩ | ⟨hlt33,x_39,hx34,hd38⟩
   ·rw [hd38,a4h.eq_1] at hc1
    have hq37:=dlf hie35
    refine o6<|sr<|l7 (.int .i64 (i_21:Int)) rfl<|o7 (.ptr 0 0 4) rfl trivial rfl<|o7 (.lst 5 (j_1.Items.map o5)) rfl nle rfl<|a1n (a3d (enc:=o5) rfl) fun hl40 => o7 (.bool (decide ((i_21:Int) < (j_1.Items.length:Int)))) rfl rfl rfl<|dk<|a0c rfl hq37<|a4b<|a4a<|a2w<|a3z<|?_;obtain rfl:=os hc1;exact ⟨[],[1,2,3,4],_,_,rfl,rfl,⟨.refl _,⟨.refl _,trivial⟩⟩,(.refl _)⟩
   ·rw [hd38,a4h.eq_2] at hc1
    have hq37:=dlt hlt33
    refine o6<|sr<|l7 (.int .i64 (i_21:Int)) rfl<|o7 (.ptr 0 0 4) rfl trivial rfl<|o7 (.lst 5 (j_1.Items.map o5)) rfl nle rfl<|a1n (a3d (enc:=o5) rfl) fun hl41 => o7 (.bool (decide ((i_21:Int) < (j_1.Items.length:Int)))) rfl rfl rfl<|dk<|a0b rfl hq37<|a0i<|a0h<|o6<|a3s<|a0z<|?_
    obtain ⟨r_42,er43,hc1⟩:=ob hc1
    obtain ⟨g44,hc1⟩:=og hc1
    refine o7 (.ptr 2 0 4) rfl trivial rfl<|o7 (.own 4 0 x_22.length) rfl nle rfl<|o7 (.ptr 0 0 4) rfl trivial rfl<|o7 (.lst 5 (j_1.Items.map o5)) rfl nle rfl<|l7 (.int .i64 (i_21:Int)) rfl<|o8 (a3o (enc:=o5) rfl rfl hx34)<|o8 (a9d (v:=(.agg [(.int .i64 x_39.Kind),(.int .i64 x_39.N),(.str x_39.T),(.lst 1 (x_39.Keys.map AV.str)),(.lst 5 (x_39.Items.map o5))])) rfl (y8 _) nle rfl)<|a1r (a3j (v:=(.agg [(.int .i64 r_42.Kind),(.int .i64 r_42.N),(.str r_42.T),(.own 5 0 r_42.Keys.length),(.own 6 0 r_42.Items.length)])) (h':=[.row 1 (r_42.Keys.map AV.str),.row 5 (r_42.Items.map o5)]) (hrec _ _ er43) rfl (.cons (.of_eq (y8 x_39).symm) .nil) (by simp only [a2b,a2c,List.length_map,y8,List.nil_append,List.append_nil,List.cons_append];rfl)) (.inr ⟨⟨nle,rfl⟩,⟨⟨trivial,rfl⟩,trivial⟩⟩) trivial<|?_
    refine a1r (a1c (j:=7) (as':=[(o5 r_42)]) rfl (fun _ => by decide) ⟨rfl,trivial⟩ (.cons (leJ (x:=r_42) (.agg (.cons (.refl _) (.cons (.refl _) (.cons (.refl _) (.cons (.of_eq (congrArg (AV.lst _) (tk (enc:=AV.str) r_42.Keys))) (.cons (.of_eq (congrArg (AV.lst _) (tk (enc:=o5) r_42.Items))) .nil))))))) .nil) rfl rfl rfl) (.inr ⟨⟨nle,rfl⟩,⟨⟨trivial,rfl⟩,trivial⟩⟩) trivial ?_
    refine a1r (a2a (j:=8) (L:=((x_22 ++ [r_42]).map o5)) (len:=(x_22 ++ [r_42]).length) rfl true rfl rfl (fun h => Bool.noConfusion h) (fun _ _ h => (b7c (show AV.own _ _ _ = AV.lst _ _ from h)).elim) (by decide) (c5s (enc:=o5) x_22 [r_42] _ (by rfl)) (by simp <;> omega) g44 rfl rfl) trivial trivial ?_
    refine o7 (.ptr 2 0 4) rfl trivial rfl<|a6g (x9 (v:=(.own 8 0 ((x_22 ++ [r_42]).length))) (y':=(.agg [(.int .i64 j_1.Kind),(.int .i64 j_1.N),(.str j_1.T),(.own 3 0 (([] ++ j_1.Keys).length)),(.own 8 0 ((x_22 ++ [r_42]).length))])) rfl rfl rfl trivial ⟨rfl,nle⟩ ⟨⟨rfl,trivial⟩,trivial⟩ rfl) trivial trivial<|a0e<|a3l<|a0h<|a0z<|l7 (.int .i64 (i_21:Int)) rfl<|o7 (.int .i64 (w64 ((i_21:Int) + 1))) rfl rfl rfl<|l7 (.int .i64 (w64 ((i_21:Int) + 1))) rfl<|a0e<|?_;exact a2p ⟨((i_21 + 1),x_22 ++ [r_42]),hc1⟩ (mul hlt33) ⟨[],[0,1,2,3,8],_,_,rfl,rfl,⟨.refl _,⟨.refl _,⟨.refl _,⟨.of_eq (congrArg (AV.int _) (a3h hlt33 hl41)),trivial⟩⟩⟩⟩,(.refl _)⟩
  ·refine sr<|o7 (.agg [(.int .i64 j_1.Kind),(.int .i64 j_1.N),(.str j_1.T),(.own 2 0 (([] ++ j_1.Keys).length)),(.own 3 0 x_31.length)]) rfl nle rfl<|a1i (x9 (v:=(.agg [(.int .i64 j_1.Kind),(.int .i64 j_1.N),(.str j_1.T),(.own 2 0 (([] ++ j_1.Keys).length)),(.own 3 0 x_31.length)])) (y':=(.agg [(.int .i64 j_1.Kind),(.int .i64 j_1.N),(.str j_1.T),(.own 2 0 (([] ++ j_1.Keys).length)),(.own 3 0 x_31.length)])) rfl rfl rfl trivial ⟨rfl,nle⟩ ⟨⟨rfl,trivial⟩,⟨⟨rfl,trivial⟩,⟨⟨rfl,trivial⟩,⟨⟨rfl,trivial⟩,⟨⟨rfl,trivial⟩,trivial⟩⟩⟩⟩⟩ rfl)<|dk<|a0d<|?_;obtain rfl:=os hf;exact a1j ⟨nle,trivial⟩ rfl (by decide) (leJ (x:=(⟨j_1.Kind,j_1.N,j_1.T,[] ++ j_1.Keys,x_31⟩:y7)) (.agg (.cons (.refl _) (.cons (.refl _) (.cons (.refl _) (.cons (.of_eq (congrArg (AV.lst _) (tk (enc:=AV.str) ([] ++ j_1.Keys)))) (.cons (.of_eq (congrArg (AV.lst _) (tk (enc:=o5) x_31))) .nil)))))))
def a6v:Nat → y7 → Option y7
 | 0,_ => none
 | k + 1,j_1 => b1m (a6v k) j_1
theorem b7i:∀ (k:Nat) (j_1:y7) (r:y7),a6v k j_1 = some r → y9 Tryz.prog 93 .fresh [(o5 j_1)] (o5 r)
 | 0,j_1,r,h => by rw [a6v.eq_1] at h;cases h
 | k + 1,j_1,r,h => by
  rw [a6v.eq_2] at h;exact c2k _ (b7i k) j_1 r h

/- spec.DatumJson -/
def c50:a0p :=
 (.seq (.reg (tq 2 (.box 5 (.c (.agg [(.int .i64 0),(.int .i64 0),(.str []),.nil,.nil]))) (tm 3 (.c (.int .i64 0)) .done)))
 (.seq (.seq (.reg (tm 4 (.t 0) (tq 5 (.len (.t 4)) (tq 6 (.bin .gtr (.t 5) (.c (.int .i64 4096))) .done))))
 (.cond (.t 6) (.seq (.reg (tq 7 (.build [(.int .i64 0),(.int .i64 0),(.str []),.nil,.nil] []) (.q ⟨none,none,.store 5 (.t 2) (.t 7)⟩
 (tm 3 (.c (.int .i64 2)) .done))))
 .ret)
 .skip))
 (.seq (.seq (.reg (tm 8 (.t 0) (tq 9 (.call 131 [(.t 8)]) (tq 10 (.not (.t 9)) .done))))
 (.cond (.t 10) (.seq (.reg (tq 11 (.build [(.int .i64 0),(.int .i64 0),(.str []),.nil,.nil] []) (.q ⟨none,none,.store 5 (.t 2) (.t 11)⟩
 (tm 3 (.c (.int .i64 1)) .done))))
 .ret)
 .skip))
 (.seq (.reg (tm 12 (.t 0) (tq 13 (.call 132 [(.t 12)]) (tq 14 (.call 93 [(.t 13)]) (.q ⟨none,none,.store 5 (.t 2) (.t 14)⟩
 (tm 3 (.c (.int .i64 0)) .done))))))
 .ret))))
theorem e6q:a1b Tryz.prog Tryz.f50 = some (c50.erase,[.load 5 true (.t 2),.mov (.t 3)],15):=by kernel_rfl
def a8r (d_1:(List x8)):Option (y7 × Int) :=
    if (decide ((d_1.length:Int) > 4096)) then
    some ((⟨0,0,[],[],[]⟩:y7),2)
    else
    (b0l d_1).bind fun r_4 =>
    if (!r_4) then
    some ((⟨0,0,[],[],[]⟩:y7),1)
    else
    (a6y d_1).bind fun r_7 =>
    (a6v FUEL r_7).bind fun r_9 =>
    some (r_9,0)
theorem c1b (d_1:(List x8)) (r:(y7 × Int)) (hf:a8r d_1 = some r):y9 Tryz.prog 50 .fresh [(.lst 3 (d_1.map l9))] (.tup [(o5 r.1),(.int .i64 r.2)]):=by
 refine y9.of_awp mixed Tryz.func50 e6q nle ?_;rw [a0f];unfold a8r at hf;unfold c50;refine (show awp Tryz.prog true 0 _ (ofL [(0,(.lst 3 (d_1.map l9)))]) [] _ from ?_);refine sr<|o8 (a1g (j:=0) (c:=(.agg [(.int .i64 0),(.int .i64 0),(.str []),.nil,.nil])) rfl trivial rfl rfl)<|l7 (.int .i64 0) rfl<|dk<|o6<|sr<|l7 (.lst 3 (d_1.map l9)) rfl<|a1n (a3d (enc:=l9) rfl) fun hl2 => o7 (.bool (decide ((d_1.length:Int) > 4096))) rfl rfl rfl<|dk<|?_
 rcases oi hf with ⟨c3,hf⟩ | ⟨c3,hf⟩
 ·refine a0b rfl c3<|sr<|o7 (.agg [(.int .i64 0),(.int .i64 0),(.str []),.nil,.nil]) rfl trivial rfl<|a1i (x9 (v:=(.agg [(.int .i64 0),(.int .i64 0),(.str []),.nil,.nil])) (y':=(.agg [(.int .i64 0),(.int .i64 0),(.str []),.nil,.nil])) rfl rfl rfl trivial ⟨rfl,nle⟩ ⟨⟨rfl,trivial⟩,⟨⟨rfl,trivial⟩,⟨⟨rfl,trivial⟩,⟨⟨rfl,trivial⟩,⟨⟨rfl,trivial⟩,trivial⟩⟩⟩⟩⟩ rfl)<|l7 (.int .i64 2) rfl<|dk<|a0d<|?_;obtain rfl:=os hf;exact a1j ⟨nle,⟨trivial,trivial⟩⟩ rfl (by decide) (.tup (.cons (leJ (x:=(⟨0,0,[],[],[]⟩:y7)) (.agg (.cons (.refl _) (.cons (.refl _) (.cons (.refl _) (.cons (.nil _) (.cons (.nil _) .nil))))))) (.cons (.refl _) .nil)))
 ·refine a0c rfl (bf c3)<|a0i<|a0h<|o6<|sr<|?_
  obtain ⟨r_4,er5,hf⟩:=ob hf
  refine l7 (.lst 3 (d_1.map l9)) rfl<|o8 (a1f (c4m _ _ er5) rfl (.refl _) rfl)<|o7 (.bool (!r_4)) rfl trivial rfl<|dk<|?_
  rcases oi hf with ⟨c6,hf⟩ | ⟨c6,hf⟩
  ·refine a0b rfl c6<|sr<|o7 (.agg [(.int .i64 0),(.int .i64 0),(.str []),.nil,.nil]) rfl trivial rfl<|a1i (x9 (v:=(.agg [(.int .i64 0),(.int .i64 0),(.str []),.nil,.nil])) (y':=(.agg [(.int .i64 0),(.int .i64 0),(.str []),.nil,.nil])) rfl rfl rfl trivial ⟨rfl,nle⟩ ⟨⟨rfl,trivial⟩,⟨⟨rfl,trivial⟩,⟨⟨rfl,trivial⟩,⟨⟨rfl,trivial⟩,⟨⟨rfl,trivial⟩,trivial⟩⟩⟩⟩⟩ rfl)<|l7 (.int .i64 1) rfl<|dk<|a0d<|?_;obtain rfl:=os hf;exact a1j ⟨nle,⟨trivial,trivial⟩⟩ rfl (by decide) (.tup (.cons (leJ (x:=(⟨0,0,[],[],[]⟩:y7)) (.agg (.cons (.refl _) (.cons (.refl _) (.cons (.refl _) (.cons (.nil _) (.cons (.nil _) .nil))))))) (.cons (.refl _) .nil)))
  ·refine a0c rfl (bf c6)<|a0i<|a0h<|sr<|?_
   obtain ⟨r_7,er8,hf⟩:=ob hf
   obtain ⟨r_9,er10,hf⟩:=ob hf
   refine l7 (.lst 3 (d_1.map l9)) rfl<|o8 (a3j (v:=(.agg [(.int .i64 r_7.Kind),(.int .i64 r_7.N),(.str r_7.T),(.own 1 0 r_7.Keys.length),(.own 2 0 r_7.Items.length)])) (h':=[.row 1 (r_7.Keys.map AV.str),.row 5 (r_7.Items.map o5)]) (c2j _ _ er8) rfl (.refl _) (by simp only [a2b,a2c,List.length_map,y8,List.nil_append,List.append_nil,List.cons_append];rfl))<|o8 (a3j (v:=(.agg [(.int .i64 r_9.Kind),(.int .i64 r_9.N),(.str r_9.T),(.own 3 0 r_9.Keys.length),(.own 4 0 r_9.Items.length)])) (h':=[.row 1 (r_9.Keys.map AV.str),.row 5 (r_9.Items.map o5)]) (b7i FUEL _ _ er10) rfl (.cons (leJ (x:=r_7) (.agg (.cons (.refl _) (.cons (.refl _) (.cons (.refl _) (.cons (.of_eq (congrArg (AV.lst _) (tko (enc:=AV.str) r_7.Keys))) (.cons (.of_eq (congrArg (AV.lst _) (tko (enc:=o5) r_7.Items))) .nil))))))) .nil) (by simp only [a2b,a2c,List.length_map,y8,List.nil_append,List.append_nil,List.cons_append];rfl))<|?_
   refine a1i (x9 (v:=(.agg [(.int .i64 r_9.Kind),(.int .i64 r_9.N),(.str r_9.T),(.own 3 0 r_9.Keys.length),(.own 4 0 r_9.Items.length)])) (y':=(.agg [(.int .i64 r_9.Kind),(.int .i64 r_9.N),(.str r_9.T),(.own 3 0 r_9.Keys.length),(.own 4 0 r_9.Items.length)])) rfl rfl rfl trivial ⟨rfl,nle⟩ ⟨⟨rfl,trivial⟩,⟨⟨rfl,trivial⟩,⟨⟨rfl,trivial⟩,⟨⟨rfl,trivial⟩,⟨⟨rfl,trivial⟩,trivial⟩⟩⟩⟩⟩ rfl)<|l7 (.int .i64 0) rfl<|dk<|a0d<|?_;obtain rfl:=os hf;exact a1j ⟨nle,⟨trivial,trivial⟩⟩ rfl (by decide) (.tup (.cons (leJ (x:=r_9) (.agg (.cons (.refl _) (.cons (.refl _) (.cons (.refl _) (.cons (.of_eq (congrArg (AV.lst _) (tk (enc:=AV.str) r_9.Keys))) (.cons (.of_eq (congrArg (AV.lst _) (tk (enc:=o5) r_9.Items))) .nil))))))) (.cons (.refl _) .nil)))

/- impl.areKeys -/
def e3t:a0p :=
 (.seq (.reg (tm 2 (.c (.bool false)) .done))
 (.seq (.seq (.reg (tm 5 (.t 0) (tq 6 (.len (.t 5)) (tm 7 (.c (.int .i64 0)) .done))))
 (.block 0 (.loop (.seq (.reg (tq 8 (.bin .lss (.t 7) (.t 6)) .done))
 (.seq (.cond (.t 8) .skip
 (.exit 0))
 (.seq (.block 1 (.seq (.reg (tm 9 (.t 7) (tq 10 (.iaddr 1 (.t 5) (.t 7)) (tq 11 (.load 1 false (.t 10)) (tm 3 (.t 9) (tm 4 (.t 11) .done))))))
 (.seq (.reg (tm 12 (.t 4) (tq 13 (.call 234 [(.t 12)]) (tq 14 (.not (.t 13)) (tm 15 (.t 14) (tg 16 15 false (.mov (.t 3)) (tg 17 15 false (.bin .gtr (.t 16) (.c (.int .i64 0))) (tg 18 15 false (.mov (.t 17)) (tg 19 18 true (.mov (.t 0)) (tg 20 18 true (.mov (.t 3)) (tg 21 18 true (.bin .sub (.t 20) (.c (.int .i64 1))) (tg 22 18 true (.iaddr 1 (.t 19) (.t 21)) (tg 23 18 true (.load 1 false (.t 22)) (tg 24 18 true (.mov (.t 4)) (tg 25 18 true (.bin .geq (.t 23) (.t 24)) (tg 26 15 false (.pick (.t 18) (.t 25) (.c (.bool false))) (tq 27 (.pick (.t 15) (.c (.bool true)) (.t 26)) .done)))))))))))))))))
 (.cut (.cond (.t 27) (.seq (.reg (tm 2 (.c (.bool false)) .done))
 .ret)
 .skip)))))
 (.reg (tq 28 (.bin .add (.t 7) (.c (.int .i64 1))) (tm 7 (.t 28) .done)))))))))
 (.cut (.seq (.reg (tm 2 (.c (.bool true)) .done))
 .ret))))
theorem e3u:a1b Tryz.prog Tryz.f349 = some (e3t.erase,[.mov (.t 2)],29):=by kernel_rfl
def a4c (keys_1:(List Str)):List Str → Nat → Option (Fl Bool Unit)
  | [],s7_34 =>
    some (.go ())
  | x_60 :: xs,s7_34 =>
    (((a7s x_60).bind fun r_69 =>
    if (!r_69) then
    some true
    else
    if (decide ((s7_34:Int) > 0)) then
    (idx keys_1 (w64 ((s7_34:Int) - 1))).bind fun x_73 =>
    some (!Op.bytesLess x_73 x_60)
    else
    some false:Option Bool)).bind fun s27_67 =>
    if s27_67 then
    some (.ret false)
    else
    a4c keys_1 xs (s7_34 + 1)

def b0n (keys_1:(List Str)):Option Bool :=
    (a4c keys_1 keys_1 0).bind fun q => (match q with
    | .ret r => some r
    | .go _ =>
    some true)
theorem c4o (keys_1:(List Str)) (r:Bool) (hf:b0n keys_1 = some r):y9 Tryz.prog 349 .flat [(.lst 1 (keys_1.map AV.str))] (.bool r):=by
 refine y9.of_awp mixed Tryz.func349 e3u nle ?_;rw [a0f];unfold b0n at hf;unfold e3t;refine (show awp Tryz.prog false 0 _ (ofL [(0,(.lst 1 (keys_1.map AV.str)))]) [] _ from ?_);refine sr<|l7 (.bool false) rfl<|dk<|o6<|sr<|l7 (.lst 1 (keys_1.map AV.str)) rfl<|a1n (a3d (enc:=AV.str) rfl) fun hl2 => l7 (.int .i64 0) rfl<|dk<|?_
 obtain ⟨p53,hb1,hf⟩:=ob hf
 refine a4k (X:={q:Unit // p53 = .go q}) (fun q => ([],[])) ?_ ?_
 ·refine a1v (X:={q:Nat // a4c keys_1 (keys_1.drop q) q = some p53}) (fun q => ([(0,(.lst 1 (keys_1.map AV.str))),(5,(.lst 1 (keys_1.map AV.str))),(6,(.int .i64 (keys_1.length:Int))),(7,(.int .i64 (q.1:Int)))],[])) (fun q => keys_1.length - q.1) ⟨0,hb1⟩ ⟨[],[],_,_,rfl,rfl,⟨.refl _,⟨.refl _,⟨.refl _,⟨.refl _,trivial⟩⟩⟩⟩,(.refl _)⟩ ?_
  rintro ⟨s7_34,hc1⟩
  have hc1:a4c keys_1 (keys_1.drop s7_34) s7_34 = some p53:=hc1
  refine (show awp Tryz.prog false 0 _ (ofL [(0,(.lst 1 (keys_1.map AV.str))),(5,(.lst 1 (keys_1.map AV.str))),(6,(.int .i64 (keys_1.length:Int))),(7,(.int .i64 (s7_34:Int)))]) [] _ from ?_)
  rcases a7j keys_1 s7_34 with ⟨hie56,hd59⟩ | ⟨hlt54,x_60,hx55,hd59⟩
  ·rw [hd59,a4c.eq_1] at hc1
   have hq58:=dlf hie56
   refine sr<|o7 (.bool (decide ((s7_34:Int) < (keys_1.length:Int)))) rfl rfl rfl<|dk<|o6<|a0c rfl hq58<|a4b<|a4a<|a2w<|a3z<|?_;obtain rfl:=os hc1;exact a5z ⟨_,rfl⟩ ⟨[],[],_,_,rfl,rfl,trivial,(.refl _)⟩
  ·rw [hd59,a4c.eq_2] at hc1
   have hq58:=dlt hlt54
   refine sr<|o7 (.bool (decide ((s7_34:Int) < (keys_1.length:Int)))) rfl rfl rfl<|dk<|o6<|a0b rfl hq58<|a0i<|a0h<|o6<|a3s<|sr<|l7 (.int .i64 (s7_34:Int)) rfl<|o8 (a3o (enc:=AV.str) rfl rfl hx55)<|o7 (.str x_60) rfl ⟨rfl,rfl⟩ rfl<|l7 (.int .i64 (s7_34:Int)) rfl<|l7 (.str x_60) rfl<|dk<|o6<|?_
   obtain ⟨s27_67,hb2,hc1⟩:=ob hc1
   refine a2v ([(0,(.lst 1 (keys_1.map AV.str))),(5,(.lst 1 (keys_1.map AV.str))),(6,(.int .i64 (keys_1.length:Int))),(7,(.int .i64 (s7_34:Int))),(27,(.bool s27_67))],[]) ?_ ?_
   ·refine a0z<|l7 (.str x_60) rfl<|?_
    obtain ⟨r_69,er70,hb2⟩:=ob hb2
    refine o8 (a1f (b3a _ _ er70) rfl (.refl _) rfl)<|o7 (.bool (!r_69)) rfl trivial rfl<|l7 (.bool (!r_69)) rfl<|?_
    rcases oi hb2 with ⟨c71,hb2⟩ | ⟨c71,hb2⟩
    ·refine a1k (s:=15) (b:=true) rfl c71<|a0a rfl rfl<|a0a rfl rfl<|a0a rfl rfl<|a2s rfl<|a2s rfl<|a2s rfl<|a2s rfl<|a2s rfl<|a2s rfl<|a2s rfl<|a0a rfl rfl<|o7 (.bool true) rfl trivial rfl<|a0e<|?_;obtain rfl:=os hb2;exact ⟨[],[],_,_,rfl,rfl,⟨.refl _,⟨.refl _,⟨.refl _,⟨.refl _,⟨.refl _,trivial⟩⟩⟩⟩⟩,(.refl _)⟩
    ·refine a1k (s:=15) (b:=false) rfl (bf c71)<|s_on rfl<|l7 (.int .i64 (s7_34:Int)) rfl<|s_on rfl<|o7 (.bool (decide ((s7_34:Int) > 0))) rfl rfl rfl<|s_on rfl<|l7 (.bool (decide ((s7_34:Int) > 0))) rfl<|?_
     rcases oi hb2 with ⟨c72,hb2⟩ | ⟨c72,hb2⟩
     ·refine a1k (s:=18) (b:=true) rfl c72<|s_on rfl<|l7 (.lst 1 (keys_1.map AV.str)) rfl<|s_on rfl<|l7 (.int .i64 (s7_34:Int)) rfl<|s_on rfl<|o7 (.int .i64 (w64 ((s7_34:Int) - 1))) rfl rfl rfl<|s_on rfl<|?_
      obtain ⟨x_73,ex74,hb2⟩:=ob hb2
      refine o8 (a5l (enc:=AV.str) rfl rfl (b2x ex74) (b2y ex74))<|s_on rfl<|o7 (.str x_73) rfl ⟨rfl,rfl⟩ rfl<|s_on rfl<|l7 (.str x_60) rfl<|s_on rfl<|o7 (.bool (!Op.bytesLess x_73 x_60)) rfl trivial rfl<|s_on rfl<|o7 (.bool (!Op.bytesLess x_73 x_60)) rfl trivial rfl<|o7 (.bool (!Op.bytesLess x_73 x_60)) rfl trivial rfl<|a0e<|?_;obtain rfl:=os hb2;exact ⟨[],[],_,_,rfl,rfl,⟨.refl _,⟨.refl _,⟨.refl _,⟨.refl _,⟨.refl _,trivial⟩⟩⟩⟩⟩,(.refl _)⟩
     ·refine a1k (s:=18) (b:=false) rfl (bf c72)<|a0a rfl rfl<|a0a rfl rfl<|a0a rfl rfl<|a0a rfl rfl<|a0a rfl rfl<|a0a rfl rfl<|a0a rfl rfl<|s_on rfl<|o7 (.bool false) rfl trivial rfl<|o7 (.bool false) rfl trivial rfl<|a0e<|?_;obtain rfl:=os hb2;exact ⟨[],[],_,_,rfl,rfl,⟨.refl _,⟨.refl _,⟨.refl _,⟨.refl _,⟨.refl _,trivial⟩⟩⟩⟩⟩,(.refl _)⟩
   ·rcases oi hc1 with ⟨c75,hc1⟩ | ⟨c75,hc1⟩
    ·refine a0b rfl c75<|sr<|l7 (.bool false) rfl<|dk<|a0d<|?_;obtain rfl:=os hc1;obtain rfl:=os hf;exact a0m ⟨trivial,trivial⟩ rfl (.refl _)
    ·refine a0c rfl (bf c75)<|a0i<|a3l<|a0h<|a0z<|o7 (.int .i64 (w64 ((s7_34:Int) + 1))) rfl rfl rfl<|l7 (.int .i64 (w64 ((s7_34:Int) + 1))) rfl<|a0e<|?_;exact a2p ⟨(s7_34 + 1),hc1⟩ (mul hlt54) ⟨[],[],_,_,rfl,rfl,⟨.refl _,⟨.refl _,⟨.refl _,⟨.of_eq (congrArg (AV.int _) (a3h hlt54 hl2)),trivial⟩⟩⟩⟩,(.refl _)⟩
 ·rintro ⟨_,rfl⟩
  refine sr<|l7 (.bool true) rfl<|dk<|a0d<|?_;obtain rfl:=os hf;exact a0m ⟨trivial,trivial⟩ rfl (.refl _)

/- (impl.Json).partOK -/
def e3v:a0p :=
 (.seq (.reg (tq 1 (.box 5 (.t 0)) (tm 2 (.c (.bool false)) .done)))
 (.seq (.seq (.reg (tq 3 (.faddr 0 (.t 1)) (tq 4 (.load 1 false (.t 3)) .done)))
 (.block 0 (.seq (.reg (tq 6 (.bin .eql (.t 4) (.c (.int .i64 0))) (tm 5 (.t 6) .done)))
 (.cond (.t 5) (.seq (.reg (tq 7 (.faddr 1 (.t 1)) (tq 8 (.load 1 false (.t 7)) (tq 9 (.bin .eql (.t 8) (.c (.int .i64 0))) (tm 10 (.t 9) (tg 11 10 true (.faddr 2 (.t 1)) (tg 12 10 true (.load 1 false (.t 11)) (tg 13 10 true (.bin .eql (.t 12) (.c (.str []))) (tq 14 (.pick (.t 10) (.t 13) (.c (.bool false))) (tm 15 (.t 14) (tg 16 15 true (.faddr 3 (.t 1)) (tg 17 15 true (.load 1 false (.t 16)) (tg 18 15 true (.len (.t 17)) (tg 19 15 true (.bin .eql (.t 18) (.c (.int .i64 0))) (tq 20 (.pick (.t 15) (.t 19) (.c (.bool false))) (tm 21 (.t 20) (tg 22 21 true (.faddr 4 (.t 1)) (tg 23 21 true (.load 1 false (.t 22)) (tg 24 21 true (.len (.t 23)) (tg 25 21 true (.bin .eql (.t 24) (.c (.int .i64 0))) (tq 26 (.pick (.t 21) (.t 25) (.c (.bool false))) (tm 2 (.t 26) .done))))))))))))))))))))))
 .ret)
 (.seq (.reg (tq 28 (.bin .eql (.t 4) (.c (.int .i64 1))) (tm 27 (.t 28) .done)))
 (.cond (.t 27) (.seq (.reg (tq 29 (.faddr 1 (.t 1)) (tq 30 (.load 1 false (.t 29)) (tq 31 (.call 81 [(.t 30),(.c (.int .i64 0)),(.c (.int .i64 1))]) (tm 32 (.t 31) (tg 33 32 true (.faddr 2 (.t 1)) (tg 34 32 true (.load 1 false (.t 33)) (tg 35 32 true (.bin .eql (.t 34) (.c (.str []))) (tq 36 (.pick (.t 32) (.t 35) (.c (.bool false))) (tm 37 (.t 36) (tg 38 37 true (.faddr 3 (.t 1)) (tg 39 37 true (.load 1 false (.t 38)) (tg 40 37 true (.len (.t 39)) (tg 41 37 true (.bin .eql (.t 40) (.c (.int .i64 0))) (tq 42 (.pick (.t 37) (.t 41) (.c (.bool false))) (tm 43 (.t 42) (tg 44 43 true (.faddr 4 (.t 1)) (tg 45 43 true (.load 1 false (.t 44)) (tg 46 43 true (.len (.t 45)) (tg 47 43 true (.bin .eql (.t 46) (.c (.int .i64 0))) (tq 48 (.pick (.t 43) (.t 47) (.c (.bool false))) (tm 2 (.t 48) .done))))))))))))))))))))))
 .ret)
 (.seq (.reg (tq 50 (.bin .eql (.t 4) (.c (.int .i64 2))) (tm 49 (.t 50) .done)))
 (.cond (.t 49) (.seq (.reg (tq 51 (.faddr 1 (.t 1)) (tq 52 (.load 1 false (.t 51)) (tq 53 (.call 233 [(.t 52)]) (tm 54 (.t 53) (tg 55 54 true (.faddr 2 (.t 1)) (tg 56 54 true (.load 1 false (.t 55)) (tg 57 54 true (.bin .eql (.t 56) (.c (.str []))) (tq 58 (.pick (.t 54) (.t 57) (.c (.bool false))) (tm 59 (.t 58) (tg 60 59 true (.faddr 3 (.t 1)) (tg 61 59 true (.load 1 false (.t 60)) (tg 62 59 true (.len (.t 61)) (tg 63 59 true (.bin .eql (.t 62) (.c (.int .i64 0))) (tq 64 (.pick (.t 59) (.t 63) (.c (.bool false))) (tm 65 (.t 64) (tg 66 65 true (.faddr 4 (.t 1)) (tg 67 65 true (.load 1 false (.t 66)) (tg 68 65 true (.len (.t 67)) (tg 69 65 true (.bin .eql (.t 68) (.c (.int .i64 0))) (tq 70 (.pick (.t 65) (.t 69) (.c (.bool false))) (tm 2 (.t 70) .done))))))))))))))))))))))
 .ret)
 (.seq (.reg (tq 72 (.bin .eql (.t 4) (.c (.int .i64 3))) (tm 71 (.t 72) .done)))
 (.cond (.t 71) (.seq (.reg (tq 73 (.faddr 1 (.t 1)) (tq 74 (.load 1 false (.t 73)) (tq 75 (.bin .eql (.t 74) (.c (.int .i64 0))) (tm 76 (.t 75) (tg 77 76 true (.faddr 2 (.t 1)) (tg 78 76 true (.load 1 false (.t 77)) (tg 79 76 true (.call 234 [(.t 78)]) (tq 80 (.pick (.t 76) (.t 79) (.c (.bool false))) (tm 81 (.t 80) (tg 82 81 true (.faddr 3 (.t 1)) (tg 83 81 true (.load 1 false (.t 82)) (tg 84 81 true (.len (.t 83)) (tg 85 81 true (.bin .eql (.t 84) (.c (.int .i64 0))) (tq 86 (.pick (.t 81) (.t 85) (.c (.bool false))) (tm 87 (.t 86) (tg 88 87 true (.faddr 4 (.t 1)) (tg 89 87 true (.load 1 false (.t 88)) (tg 90 87 true (.len (.t 89)) (tg 91 87 true (.bin .eql (.t 90) (.c (.int .i64 0))) (tq 92 (.pick (.t 87) (.t 91) (.c (.bool false))) (tm 2 (.t 92) .done))))))))))))))))))))))
 .ret)
 (.seq (.reg (tq 94 (.bin .eql (.t 4) (.c (.int .i64 4))) (tm 93 (.t 94) .done)))
 (.cond (.t 93) (.seq (.reg (tq 95 (.faddr 1 (.t 1)) (tq 96 (.load 1 false (.t 95)) (tq 97 (.bin .eql (.t 96) (.c (.int .i64 0))) (tm 98 (.t 97) (tg 99 98 true (.faddr 2 (.t 1)) (tg 100 98 true (.load 1 false (.t 99)) (tg 101 98 true (.bin .eql (.t 100) (.c (.str []))) (tq 102 (.pick (.t 98) (.t 101) (.c (.bool false))) (tm 103 (.t 102) (tg 104 103 true (.faddr 3 (.t 1)) (tg 105 103 true (.load 1 false (.t 104)) (tg 106 103 true (.len (.t 105)) (tg 107 103 true (.bin .eql (.t 106) (.c (.int .i64 0))) (tq 108 (.pick (.t 103) (.t 107) (.c (.bool false))) (tm 2 (.t 108) .done))))))))))))))))
 .ret)
 (.seq (.reg (tq 110 (.bin .eql (.t 4) (.c (.int .i64 5))) (tm 109 (.t 110) .done)))
 (.cond (.t 109) (.seq (.reg (tq 111 (.faddr 1 (.t 1)) (tq 112 (.load 1 false (.t 111)) (tq 113 (.bin .eql (.t 112) (.c (.int .i64 0))) (tm 114 (.t 113) (tg 115 114 true (.faddr 2 (.t 1)) (tg 116 114 true (.load 1 false (.t 115)) (tg 117 114 true (.bin .eql (.t 116) (.c (.str []))) (tq 118 (.pick (.t 114) (.t 117) (.c (.bool false))) (tm 119 (.t 118) (tg 120 119 true (.faddr 3 (.t 1)) (tg 121 119 true (.load 1 false (.t 120)) (tg 122 119 true (.len (.t 121)) (tg 123 119 true (.faddr 4 (.t 1)) (tg 124 119 true (.load 1 false (.t 123)) (tg 125 119 true (.len (.t 124)) (tg 126 119 true (.bin .eql (.t 122) (.t 125)) (tq 127 (.pick (.t 119) (.t 126) (.c (.bool false))) (tm 128 (.t 127) (tg 129 128 true (.faddr 3 (.t 1)) (tg 130 128 true (.load 1 false (.t 129)) (tg 131 128 true (.call 349 [(.t 130)]) (tq 132 (.pick (.t 128) (.t 131) (.c (.bool false))) (tm 2 (.t 132) .done))))))))))))))))))))))))
 .ret)
 .skip))))))))))))))
 (.seq (.reg (tm 2 (.c (.bool false)) .done))
 .ret)))
theorem e3w:a1b Tryz.prog Tryz.f300 = some (e3v.erase,[.mov (.t 2)],133):=by kernel_rfl
def a7k (j_1:y7):Option Bool :=
    if (j_1.Kind == 0) then
    some (bif (bif (bif (j_1.N == 0) then (j_1.T == []) else false) then ((j_1.Keys.length:Int) == 0) else false) then ((j_1.Items.length:Int) == 0) else false)
    else
    if (j_1.Kind == 1) then
    (a6s j_1.N 0 1).bind fun r_6 =>
    some (bif (bif (bif r_6 then (j_1.T == []) else false) then ((j_1.Keys.length:Int) == 0) else false) then ((j_1.Items.length:Int) == 0) else false)
    else
    if (j_1.Kind == 2) then
    (a8d j_1.N).bind fun r_11 =>
    some (bif (bif (bif r_11 then (j_1.T == []) else false) then ((j_1.Keys.length:Int) == 0) else false) then ((j_1.Items.length:Int) == 0) else false)
    else
    if (j_1.Kind == 3) then
    if (j_1.N == 0) then
    (a7s j_1.T).bind fun r_17 =>
    some (bif (bif r_17 then ((j_1.Keys.length:Int) == 0) else false) then ((j_1.Items.length:Int) == 0) else false)
    else
    some false
    else
    if (j_1.Kind == 4) then
    some (bif (bif (j_1.N == 0) then (j_1.T == []) else false) then ((j_1.Keys.length:Int) == 0) else false)
    else
    if (j_1.Kind == 5) then
    if (bif (bif (j_1.N == 0) then (j_1.T == []) else false) then ((j_1.Keys.length:Int) == (j_1.Items.length:Int)) else false) then
    (b0n j_1.Keys).bind fun r_27 =>
    some r_27
    else
    some false
    else
    some false
theorem b8a (j_1:y7) (r:Bool) (hf:a7k j_1 = some r):y9 Tryz.prog 300 .flat [(o5 j_1)] (.bool r):=by
 refine y9.of_awp mixed Tryz.func300 e3w nle ?_;rw [a0f];rw [y8 j_1];unfold a7k at hf;unfold e3v;refine (show awp Tryz.prog false 0 _ (ofL [(0,(.agg [(.int .i64 j_1.Kind),(.int .i64 j_1.N),(.str j_1.T),(.lst 1 (j_1.Keys.map AV.str)),(.lst 5 (j_1.Items.map o5))]))]) [] _ from ?_);refine sr<|o8 (a1g (j:=0) (c:=(.agg [(.int .i64 j_1.Kind),(.int .i64 j_1.N),(.str j_1.T),(.lst 1 (j_1.Keys.map AV.str)),(.lst 5 (j_1.Items.map o5))])) rfl trivial rfl rfl)<|l7 (.bool false) rfl<|dk<|o6<|sr<|o7 (.ptr 0 0 0) rfl trivial rfl<|o7 (.int .i64 j_1.Kind) rfl nle rfl<|dk<|a3s<|sr<|?_
 refine o7 (.bool (j_1.Kind == 0)) rfl rfl rfl<|l7 (.bool (j_1.Kind == 0)) rfl<|dk<|?_
 rcases oi hf with ⟨c2,hf⟩ | ⟨c2,hf⟩
 ·refine a0b rfl c2<|sr<|o7 (.ptr 0 0 1) rfl trivial rfl<|o7 (.int .i64 j_1.N) rfl nle rfl<|o7 (.bool (j_1.N == 0)) rfl rfl rfl<|l7 (.bool (j_1.N == 0)) rfl<|?_;refine s_g (v:=(j_1.N == 0)) (.ptr 0 0 2) rfl (fun hv => by (try simp only [a0g hv]);exact ⟨rfl,trivial,rfl⟩) ?_;refine s_g (v:=(j_1.N == 0)) (.str j_1.T) rfl (fun hv => by (try simp only [a0g hv]);exact ⟨rfl,nle,rfl⟩) ?_;refine s_g (v:=(j_1.N == 0)) (.bool (j_1.T == [])) rfl (fun hv => by (try simp only [a0g hv]);exact ⟨rfl,trivial,rfl⟩) ?_;refine a5a (x:=(j_1.T == [])) (y:=false) rfl (fun hv => by (try simp only [a0g hv]);rfl) (fun hv => by (try simp only [a0g hv]);rfl) ?_;refine l7 (.bool (bif (j_1.N == 0) then (j_1.T == []) else false)) rfl ?_
  refine s_g (v:=(bif (j_1.N == 0) then (j_1.T == []) else false)) (.ptr 0 0 3) rfl (fun hv => by (try simp only [a0g hv]);exact ⟨rfl,trivial,rfl⟩) ?_;refine s_g (v:=(bif (j_1.N == 0) then (j_1.T == []) else false)) (.lst 1 (j_1.Keys.map AV.str)) rfl (fun hv => by (try simp only [a0g hv]);exact ⟨rfl,nle,rfl⟩) ?_;refine s_g (v:=(bif (j_1.N == 0) then (j_1.T == []) else false)) (.int .i64 (j_1.Keys.length:Int)) rfl (fun hv => by (try simp only [a0g hv]);exact ⟨rfl,trivial,lenV _ _⟩) ?_;refine s_g (v:=(bif (j_1.N == 0) then (j_1.T == []) else false)) (.bool ((j_1.Keys.length:Int) == 0)) rfl (fun hv => by (try simp only [a0g hv]);exact ⟨rfl,rfl,rfl⟩) ?_;refine a5a (x:=((j_1.Keys.length:Int) == 0)) (y:=false) rfl (fun hv => by (try simp only [a0g hv]);rfl) (fun hv => by (try simp only [a0g hv]);rfl) ?_
  refine l7 (.bool (bif (bif (j_1.N == 0) then (j_1.T == []) else false) then ((j_1.Keys.length:Int) == 0) else false)) rfl ?_;refine s_g (v:=(bif (bif (j_1.N == 0) then (j_1.T == []) else false) then ((j_1.Keys.length:Int) == 0) else false)) (.ptr 0 0 4) rfl (fun hv => by (try simp only [a0g hv]);exact ⟨rfl,trivial,rfl⟩) ?_;refine s_g (v:=(bif (bif (j_1.N == 0) then (j_1.T == []) else false) then ((j_1.Keys.length:Int) == 0) else false)) (.lst 5 (j_1.Items.map o5)) rfl (fun hv => by (try simp only [a0g hv]);exact ⟨rfl,nle,rfl⟩) ?_;refine s_g (v:=(bif (bif (j_1.N == 0) then (j_1.T == []) else false) then ((j_1.Keys.length:Int) == 0) else false)) (.int .i64 (j_1.Items.length:Int)) rfl (fun hv => by (try simp only [a0g hv]);exact ⟨rfl,trivial,lenV _ _⟩) ?_
  refine s_g (v:=(bif (bif (j_1.N == 0) then (j_1.T == []) else false) then ((j_1.Keys.length:Int) == 0) else false)) (.bool ((j_1.Items.length:Int) == 0)) rfl (fun hv => by (try simp only [a0g hv]);exact ⟨rfl,rfl,rfl⟩) ?_;refine a5a (x:=((j_1.Items.length:Int) == 0)) (y:=false) rfl (fun hv => by (try simp only [a0g hv]);rfl) (fun hv => by (try simp only [a0g hv]);rfl) ?_;refine l7 (.bool (bif (bif (bif (j_1.N == 0) then (j_1.T == []) else false) then ((j_1.Keys.length:Int) == 0) else false) then ((j_1.Items.length:Int) == 0) else false)) rfl<|dk<|a0d<|?_;obtain rfl:=os hf;exact a0m ⟨trivial,trivial⟩ rfl (.refl _)
 ·refine a0c rfl (bf c2)<|sr<|o7 (.bool (j_1.Kind == 1)) rfl rfl rfl<|l7 (.bool (j_1.Kind == 1)) rfl<|dk<|?_
  rcases oi hf with ⟨c5,hf⟩ | ⟨c5,hf⟩
  ·refine a0b rfl c5<|sr<|o7 (.ptr 0 0 1) rfl trivial rfl<|o7 (.int .i64 j_1.N) rfl nle rfl<|?_
   obtain ⟨r_6,er7,hf⟩:=ob hf
   refine o8 (a1f (a8c _ _ _ _ er7) rfl (.refl _) rfl)<|l7 (.bool r_6) rfl<|?_;refine s_g (v:=r_6) (.ptr 0 0 2) rfl (fun hv => by (try simp only [a0g hv]);exact ⟨rfl,trivial,rfl⟩) ?_;refine s_g (v:=r_6) (.str j_1.T) rfl (fun hv => by (try simp only [a0g hv]);exact ⟨rfl,nle,rfl⟩) ?_;refine s_g (v:=r_6) (.bool (j_1.T == [])) rfl (fun hv => by (try simp only [a0g hv]);exact ⟨rfl,trivial,rfl⟩) ?_;refine a5a (x:=(j_1.T == [])) (y:=false) rfl (fun hv => by (try simp only [a0g hv]);rfl) (fun hv => by (try simp only [a0g hv]);rfl) ?_;refine l7 (.bool (bif r_6 then (j_1.T == []) else false)) rfl ?_;refine s_g (v:=(bif r_6 then (j_1.T == []) else false)) (.ptr 0 0 3) rfl (fun hv => by (try simp only [a0g hv]);exact ⟨rfl,trivial,rfl⟩) ?_
   refine s_g (v:=(bif r_6 then (j_1.T == []) else false)) (.lst 1 (j_1.Keys.map AV.str)) rfl (fun hv => by (try simp only [a0g hv]);exact ⟨rfl,nle,rfl⟩) ?_;refine s_g (v:=(bif r_6 then (j_1.T == []) else false)) (.int .i64 (j_1.Keys.length:Int)) rfl (fun hv => by (try simp only [a0g hv]);exact ⟨rfl,trivial,lenV _ _⟩) ?_;refine s_g (v:=(bif r_6 then (j_1.T == []) else false)) (.bool ((j_1.Keys.length:Int) == 0)) rfl (fun hv => by (try simp only [a0g hv]);exact ⟨rfl,rfl,rfl⟩) ?_;refine a5a (x:=((j_1.Keys.length:Int) == 0)) (y:=false) rfl (fun hv => by (try simp only [a0g hv]);rfl) (fun hv => by (try simp only [a0g hv]);rfl) ?_;refine l7 (.bool (bif (bif r_6 then (j_1.T == []) else false) then ((j_1.Keys.length:Int) == 0) else false)) rfl ?_
   refine s_g (v:=(bif (bif r_6 then (j_1.T == []) else false) then ((j_1.Keys.length:Int) == 0) else false)) (.ptr 0 0 4) rfl (fun hv => by (try simp only [a0g hv]);exact ⟨rfl,trivial,rfl⟩) ?_;refine s_g (v:=(bif (bif r_6 then (j_1.T == []) else false) then ((j_1.Keys.length:Int) == 0) else false)) (.lst 5 (j_1.Items.map o5)) rfl (fun hv => by (try simp only [a0g hv]);exact ⟨rfl,nle,rfl⟩) ?_;refine s_g (v:=(bif (bif r_6 then (j_1.T == []) else false) then ((j_1.Keys.length:Int) == 0) else false)) (.int .i64 (j_1.Items.length:Int)) rfl (fun hv => by (try simp only [a0g hv]);exact ⟨rfl,trivial,lenV _ _⟩) ?_;refine s_g (v:=(bif (bif r_6 then (j_1.T == []) else false) then ((j_1.Keys.length:Int) == 0) else false)) (.bool ((j_1.Items.length:Int) == 0)) rfl (fun hv => by (try simp only [a0g hv]);exact ⟨rfl,rfl,rfl⟩) ?_
   refine a5a (x:=((j_1.Items.length:Int) == 0)) (y:=false) rfl (fun hv => by (try simp only [a0g hv]);rfl) (fun hv => by (try simp only [a0g hv]);rfl) ?_;refine l7 (.bool (bif (bif (bif r_6 then (j_1.T == []) else false) then ((j_1.Keys.length:Int) == 0) else false) then ((j_1.Items.length:Int) == 0) else false)) rfl<|dk<|a0d<|?_;obtain rfl:=os hf;exact a0m ⟨trivial,trivial⟩ rfl (.refl _)
  ·refine a0c rfl (bf c5)<|sr<|o7 (.bool (j_1.Kind == 2)) rfl rfl rfl<|l7 (.bool (j_1.Kind == 2)) rfl<|dk<|?_
   rcases oi hf with ⟨c10,hf⟩ | ⟨c10,hf⟩
   ·refine a0b rfl c10<|sr<|o7 (.ptr 0 0 1) rfl trivial rfl<|o7 (.int .i64 j_1.N) rfl nle rfl<|?_
    obtain ⟨r_11,er12,hf⟩:=ob hf
    refine o8 (a1f (b2b _ _ er12) rfl (.refl _) rfl)<|l7 (.bool r_11) rfl<|?_;refine s_g (v:=r_11) (.ptr 0 0 2) rfl (fun hv => by (try simp only [a0g hv]);exact ⟨rfl,trivial,rfl⟩) ?_;refine s_g (v:=r_11) (.str j_1.T) rfl (fun hv => by (try simp only [a0g hv]);exact ⟨rfl,nle,rfl⟩) ?_;refine s_g (v:=r_11) (.bool (j_1.T == [])) rfl (fun hv => by (try simp only [a0g hv]);exact ⟨rfl,trivial,rfl⟩) ?_;refine a5a (x:=(j_1.T == [])) (y:=false) rfl (fun hv => by (try simp only [a0g hv]);rfl) (fun hv => by (try simp only [a0g hv]);rfl) ?_;refine l7 (.bool (bif r_11 then (j_1.T == []) else false)) rfl ?_;refine s_g (v:=(bif r_11 then (j_1.T == []) else false)) (.ptr 0 0 3) rfl (fun hv => by (try simp only [a0g hv]);exact ⟨rfl,trivial,rfl⟩) ?_
    refine s_g (v:=(bif r_11 then (j_1.T == []) else false)) (.lst 1 (j_1.Keys.map AV.str)) rfl (fun hv => by (try simp only [a0g hv]);exact ⟨rfl,nle,rfl⟩) ?_;refine s_g (v:=(bif r_11 then (j_1.T == []) else false)) (.int .i64 (j_1.Keys.length:Int)) rfl (fun hv => by (try simp only [a0g hv]);exact ⟨rfl,trivial,lenV _ _⟩) ?_;refine s_g (v:=(bif r_11 then (j_1.T == []) else false)) (.bool ((j_1.Keys.length:Int) == 0)) rfl (fun hv => by (try simp only [a0g hv]);exact ⟨rfl,rfl,rfl⟩) ?_;refine a5a (x:=((j_1.Keys.length:Int) == 0)) (y:=false) rfl (fun hv => by (try simp only [a0g hv]);rfl) (fun hv => by (try simp only [a0g hv]);rfl) ?_;refine l7 (.bool (bif (bif r_11 then (j_1.T == []) else false) then ((j_1.Keys.length:Int) == 0) else false)) rfl ?_
    refine s_g (v:=(bif (bif r_11 then (j_1.T == []) else false) then ((j_1.Keys.length:Int) == 0) else false)) (.ptr 0 0 4) rfl (fun hv => by (try simp only [a0g hv]);exact ⟨rfl,trivial,rfl⟩) ?_;refine s_g (v:=(bif (bif r_11 then (j_1.T == []) else false) then ((j_1.Keys.length:Int) == 0) else false)) (.lst 5 (j_1.Items.map o5)) rfl (fun hv => by (try simp only [a0g hv]);exact ⟨rfl,nle,rfl⟩) ?_;refine s_g (v:=(bif (bif r_11 then (j_1.T == []) else false) then ((j_1.Keys.length:Int) == 0) else false)) (.int .i64 (j_1.Items.length:Int)) rfl (fun hv => by (try simp only [a0g hv]);exact ⟨rfl,trivial,lenV _ _⟩) ?_;refine s_g (v:=(bif (bif r_11 then (j_1.T == []) else false) then ((j_1.Keys.length:Int) == 0) else false)) (.bool ((j_1.Items.length:Int) == 0)) rfl (fun hv => by (try simp only [a0g hv]);exact ⟨rfl,rfl,rfl⟩) ?_
    refine a5a (x:=((j_1.Items.length:Int) == 0)) (y:=false) rfl (fun hv => by (try simp only [a0g hv]);rfl) (fun hv => by (try simp only [a0g hv]);rfl) ?_;refine l7 (.bool (bif (bif (bif r_11 then (j_1.T == []) else false) then ((j_1.Keys.length:Int) == 0) else false) then ((j_1.Items.length:Int) == 0) else false)) rfl<|dk<|a0d<|?_;obtain rfl:=os hf;exact a0m ⟨trivial,trivial⟩ rfl (.refl _)
   ·refine a0c rfl (bf c10)<|sr<|o7 (.bool (j_1.Kind == 3)) rfl rfl rfl<|l7 (.bool (j_1.Kind == 3)) rfl<|dk<|?_
    rcases oi hf with ⟨c15,hf⟩ | ⟨c15,hf⟩
    ·refine a0b rfl c15<|sr<|o7 (.ptr 0 0 1) rfl trivial rfl<|o7 (.int .i64 j_1.N) rfl nle rfl<|o7 (.bool (j_1.N == 0)) rfl rfl rfl<|l7 (.bool (j_1.N == 0)) rfl<|?_
     rcases oi hf with ⟨c16,hf⟩ | ⟨c16,hf⟩
     ·refine a1k (s:=76) (b:=true) rfl c16<|s_on rfl<|o7 (.ptr 0 0 2) rfl trivial rfl<|s_on rfl<|o7 (.str j_1.T) rfl nle rfl<|s_on rfl<|?_
      obtain ⟨r_17,er18,hf⟩:=ob hf
      refine o8 (a1f (b3a _ _ er18) rfl (.refl _) rfl)<|o7 (.bool r_17) rfl trivial rfl<|l7 (.bool r_17) rfl<|?_;refine s_g (v:=r_17) (.ptr 0 0 3) rfl (fun hv => by (try simp only [a0g hv]);exact ⟨rfl,trivial,rfl⟩) ?_;refine s_g (v:=r_17) (.lst 1 (j_1.Keys.map AV.str)) rfl (fun hv => by (try simp only [a0g hv]);exact ⟨rfl,nle,rfl⟩) ?_;refine s_g (v:=r_17) (.int .i64 (j_1.Keys.length:Int)) rfl (fun hv => by (try simp only [a0g hv]);exact ⟨rfl,trivial,lenV _ _⟩) ?_;refine s_g (v:=r_17) (.bool ((j_1.Keys.length:Int) == 0)) rfl (fun hv => by (try simp only [a0g hv]);exact ⟨rfl,rfl,rfl⟩) ?_;refine a5a (x:=((j_1.Keys.length:Int) == 0)) (y:=false) rfl (fun hv => by (try simp only [a0g hv]);rfl) (fun hv => by (try simp only [a0g hv]);rfl) ?_
      refine l7 (.bool (bif r_17 then ((j_1.Keys.length:Int) == 0) else false)) rfl ?_;refine s_g (v:=(bif r_17 then ((j_1.Keys.length:Int) == 0) else false)) (.ptr 0 0 4) rfl (fun hv => by (try simp only [a0g hv]);exact ⟨rfl,trivial,rfl⟩) ?_;refine s_g (v:=(bif r_17 then ((j_1.Keys.length:Int) == 0) else false)) (.lst 5 (j_1.Items.map o5)) rfl (fun hv => by (try simp only [a0g hv]);exact ⟨rfl,nle,rfl⟩) ?_;refine s_g (v:=(bif r_17 then ((j_1.Keys.length:Int) == 0) else false)) (.int .i64 (j_1.Items.length:Int)) rfl (fun hv => by (try simp only [a0g hv]);exact ⟨rfl,trivial,lenV _ _⟩) ?_;refine s_g (v:=(bif r_17 then ((j_1.Keys.length:Int) == 0) else false)) (.bool ((j_1.Items.length:Int) == 0)) rfl (fun hv => by (try simp only [a0g hv]);exact ⟨rfl,rfl,rfl⟩) ?_
      refine a5a (x:=((j_1.Items.length:Int) == 0)) (y:=false) rfl (fun hv => by (try simp only [a0g hv]);rfl) (fun hv => by (try simp only [a0g hv]);rfl) ?_;refine l7 (.bool (bif (bif r_17 then ((j_1.Keys.length:Int) == 0) else false) then ((j_1.Items.length:Int) == 0) else false)) rfl<|dk<|a0d<|?_;obtain rfl:=os hf;exact a0m ⟨trivial,trivial⟩ rfl (.refl _)
     ·refine a1k (s:=76) (b:=false) rfl (bf c16)<|a0a rfl rfl<|a0a rfl rfl<|a0a rfl rfl<|o7 (.bool false) rfl trivial rfl<|l7 (.bool false) rfl<|a0a rfl rfl<|a0a rfl rfl<|a0a rfl rfl<|a0a rfl rfl<|o7 (.bool false) rfl trivial rfl<|l7 (.bool false) rfl<|a0a rfl rfl<|a0a rfl rfl<|a0a rfl rfl<|a0a rfl rfl<|o7 (.bool false) rfl trivial rfl<|l7 (.bool false) rfl<|dk<|a0d<|?_;obtain rfl:=os hf;exact a0m ⟨trivial,trivial⟩ rfl (.refl _)
    ·refine a0c rfl (bf c15)<|sr<|o7 (.bool (j_1.Kind == 4)) rfl rfl rfl<|l7 (.bool (j_1.Kind == 4)) rfl<|dk<|?_
     rcases oi hf with ⟨c21,hf⟩ | ⟨c21,hf⟩
     ·refine a0b rfl c21<|sr<|o7 (.ptr 0 0 1) rfl trivial rfl<|o7 (.int .i64 j_1.N) rfl nle rfl<|o7 (.bool (j_1.N == 0)) rfl rfl rfl<|l7 (.bool (j_1.N == 0)) rfl<|?_;refine s_g (v:=(j_1.N == 0)) (.ptr 0 0 2) rfl (fun hv => by (try simp only [a0g hv]);exact ⟨rfl,trivial,rfl⟩) ?_;refine s_g (v:=(j_1.N == 0)) (.str j_1.T) rfl (fun hv => by (try simp only [a0g hv]);exact ⟨rfl,nle,rfl⟩) ?_;refine s_g (v:=(j_1.N == 0)) (.bool (j_1.T == [])) rfl (fun hv => by (try simp only [a0g hv]);exact ⟨rfl,trivial,rfl⟩) ?_;refine a5a (x:=(j_1.T == [])) (y:=false) rfl (fun hv => by (try simp only [a0g hv]);rfl) (fun hv => by (try simp only [a0g hv]);rfl) ?_;refine l7 (.bool (bif (j_1.N == 0) then (j_1.T == []) else false)) rfl ?_
      refine s_g (v:=(bif (j_1.N == 0) then (j_1.T == []) else false)) (.ptr 0 0 3) rfl (fun hv => by (try simp only [a0g hv]);exact ⟨rfl,trivial,rfl⟩) ?_;refine s_g (v:=(bif (j_1.N == 0) then (j_1.T == []) else false)) (.lst 1 (j_1.Keys.map AV.str)) rfl (fun hv => by (try simp only [a0g hv]);exact ⟨rfl,nle,rfl⟩) ?_;refine s_g (v:=(bif (j_1.N == 0) then (j_1.T == []) else false)) (.int .i64 (j_1.Keys.length:Int)) rfl (fun hv => by (try simp only [a0g hv]);exact ⟨rfl,trivial,lenV _ _⟩) ?_;refine s_g (v:=(bif (j_1.N == 0) then (j_1.T == []) else false)) (.bool ((j_1.Keys.length:Int) == 0)) rfl (fun hv => by (try simp only [a0g hv]);exact ⟨rfl,rfl,rfl⟩) ?_;refine a5a (x:=((j_1.Keys.length:Int) == 0)) (y:=false) rfl (fun hv => by (try simp only [a0g hv]);rfl) (fun hv => by (try simp only [a0g hv]);rfl) ?_
      refine l7 (.bool (bif (bif (j_1.N == 0) then (j_1.T == []) else false) then ((j_1.Keys.length:Int) == 0) else false)) rfl<|dk<|a0d<|?_;obtain rfl:=os hf;exact a0m ⟨trivial,trivial⟩ rfl (.refl _)
     ·refine a0c rfl (bf c21)<|sr<|o7 (.bool (j_1.Kind == 5)) rfl rfl rfl<|l7 (.bool (j_1.Kind == 5)) rfl<|dk<|?_
      rcases oi hf with ⟨c23,hf⟩ | ⟨c23,hf⟩
      ·refine a0b rfl c23<|sr<|o7 (.ptr 0 0 1) rfl trivial rfl<|o7 (.int .i64 j_1.N) rfl nle rfl<|o7 (.bool (j_1.N == 0)) rfl rfl rfl<|l7 (.bool (j_1.N == 0)) rfl<|?_;refine s_g (v:=(j_1.N == 0)) (.ptr 0 0 2) rfl (fun hv => by (try simp only [a0g hv]);exact ⟨rfl,trivial,rfl⟩) ?_;refine s_g (v:=(j_1.N == 0)) (.str j_1.T) rfl (fun hv => by (try simp only [a0g hv]);exact ⟨rfl,nle,rfl⟩) ?_;refine s_g (v:=(j_1.N == 0)) (.bool (j_1.T == [])) rfl (fun hv => by (try simp only [a0g hv]);exact ⟨rfl,trivial,rfl⟩) ?_;refine a5a (x:=(j_1.T == [])) (y:=false) rfl (fun hv => by (try simp only [a0g hv]);rfl) (fun hv => by (try simp only [a0g hv]);rfl) ?_;refine l7 (.bool (bif (j_1.N == 0) then (j_1.T == []) else false)) rfl ?_
       refine s_g (v:=(bif (j_1.N == 0) then (j_1.T == []) else false)) (.ptr 0 0 3) rfl (fun hv => by (try simp only [a0g hv]);exact ⟨rfl,trivial,rfl⟩) ?_;refine s_g (v:=(bif (j_1.N == 0) then (j_1.T == []) else false)) (.lst 1 (j_1.Keys.map AV.str)) rfl (fun hv => by (try simp only [a0g hv]);exact ⟨rfl,nle,rfl⟩) ?_;refine s_g (v:=(bif (j_1.N == 0) then (j_1.T == []) else false)) (.int .i64 (j_1.Keys.length:Int)) rfl (fun hv => by (try simp only [a0g hv]);exact ⟨rfl,trivial,lenV _ _⟩) ?_;refine s_g (v:=(bif (j_1.N == 0) then (j_1.T == []) else false)) (.ptr 0 0 4) rfl (fun hv => by (try simp only [a0g hv]);exact ⟨rfl,trivial,rfl⟩) ?_;refine s_g (v:=(bif (j_1.N == 0) then (j_1.T == []) else false)) (.lst 5 (j_1.Items.map o5)) rfl (fun hv => by (try simp only [a0g hv]);exact ⟨rfl,nle,rfl⟩) ?_
       refine s_g (v:=(bif (j_1.N == 0) then (j_1.T == []) else false)) (.int .i64 (j_1.Items.length:Int)) rfl (fun hv => by (try simp only [a0g hv]);exact ⟨rfl,trivial,lenV _ _⟩) ?_;refine s_g (v:=(bif (j_1.N == 0) then (j_1.T == []) else false)) (.bool ((j_1.Keys.length:Int) == (j_1.Items.length:Int))) rfl (fun hv => by (try simp only [a0g hv]);exact ⟨rfl,rfl,rfl⟩) ?_;refine a5a (x:=((j_1.Keys.length:Int) == (j_1.Items.length:Int))) (y:=false) rfl (fun hv => by (try simp only [a0g hv]);rfl) (fun hv => by (try simp only [a0g hv]);rfl) ?_;refine l7 (.bool (bif (bif (j_1.N == 0) then (j_1.T == []) else false) then ((j_1.Keys.length:Int) == (j_1.Items.length:Int)) else false)) rfl ?_
       rcases oi hf with ⟨c26,hf⟩ | ⟨c26,hf⟩
       ·refine a1k (s:=128) (b:=true) rfl c26<|s_on rfl<|o7 (.ptr 0 0 3) rfl trivial rfl<|s_on rfl<|o7 (.lst 1 (j_1.Keys.map AV.str)) rfl nle rfl<|s_on rfl<|?_
        obtain ⟨r_27,er28,hf⟩:=ob hf
        refine o8 (a1f (c4o _ _ er28) rfl (.refl _) rfl)<|o7 (.bool r_27) rfl trivial rfl<|l7 (.bool r_27) rfl<|dk<|a0d<|?_;obtain rfl:=os hf;exact a0m ⟨trivial,trivial⟩ rfl (.refl _)
       ·refine a1k (s:=128) (b:=false) rfl (bf c26)<|a0a rfl rfl<|a0a rfl rfl<|a0a rfl rfl<|o7 (.bool false) rfl trivial rfl<|l7 (.bool false) rfl<|dk<|a0d<|?_;obtain rfl:=os hf;exact a0m ⟨trivial,trivial⟩ rfl (.refl _)
      ·refine a0c rfl (bf c23)<|a0i<|a3l<|a0h<|sr<|l7 (.bool false) rfl<|dk<|a0d<|?_;obtain rfl:=os hf;exact a0m ⟨trivial,trivial⟩ rfl (.refl _)

/- (impl.Json).rightIn$1 -/
def d3x:a0p :=
 (.seq (.reg (tq 3 (.box 5 (.t 0)) (tm 4 (.c (.bool false)) .done)))
 (.seq (.reg (tq 5 (.load 5 true (.t 3)) (tq 6 (.load 1 false (.t 1)) (tq 7 (.bin .add (.t 6) (.c (.int .i64 1))) (tq 8 (.load 1 false (.t 2)) (tq 9 (.call 224 [(.t 5),(.t 7),(.t 8)]) (tq 10 (.not (.t 9)) (tm 4 (.t 10) .done))))))))
 .ret))
theorem d7x:a1b Tryz.prog Tryz.f302 = some (d3x.erase,[.mov (.t 4)],11):=by kernel_rfl
def a6d (rec:(y7 → Int → Int → Option (Bool × Int))) (item_1:y7) (c_2:Int) (c_3:Int):Option (Bool × Int × Int) :=
    (rec item_1 (w64 (c_2 + 1)) c_3).bind fun r_4 =>
    some ((!r_4.1),c_2,r_4.2)
theorem b3w (rec:(y7 → Int → Int → Option (Bool × Int))) (hrec:∀ a0 a1 a2 r,rec a0 a1 a2 = some r → a0j Tryz.prog false 224 [(o5 a0),(.int .i64 a1),(.ptr 0 0 0)] [.box 1 (.int .i64 a2)] (.bool r.1) [.box 1 (.int .i64 r.2)]) (item_1:y7) (c_2:Int) (c_3:Int) (r:(Bool × Int × Int)) (hf:a6d rec item_1 c_2 c_3 = some r):a0j Tryz.prog false 302 [(o5 item_1),(.ptr 0 0 0),(.ptr 1 0 0)] [.box 1 (.int .i64 c_2),.box 1 (.ptr 2 0 0),.box 1 (.int .i64 c_3)] (.bool r.1) [.box 1 (.int .i64 r.2.1),.box 1 (.ptr 2 0 0),.box 1 (.int .i64 r.2.2)]:=by
 refine a0j.of_awp mixed Tryz.func302 d7x nle ?_;rw [a0f];rw [y8 item_1];unfold a6d at hf;unfold d3x;refine (show awp Tryz.prog false 3 _ (ofL [(0,(.agg [(.int .i64 item_1.Kind),(.int .i64 item_1.N),(.str item_1.T),(.lst 1 (item_1.Keys.map AV.str)),(.lst 5 (item_1.Items.map o5))])),(1,(.ptr 0 0 0)),(2,(.ptr 1 0 0))]) [.box 1 (.int .i64 c_2),.box 1 (.ptr 2 0 0),.box 1 (.int .i64 c_3)] _ from ?_);refine sr<|o8 (a1g (j:=3) (c:=(.agg [(.int .i64 item_1.Kind),(.int .i64 item_1.N),(.str item_1.T),(.lst 1 (item_1.Keys.map AV.str)),(.lst 5 (item_1.Items.map o5))])) rfl trivial rfl rfl)<|l7 (.bool false) rfl<|dk<|?_
 refine sr<|?_
 obtain ⟨r_4,er5,hf⟩:=ob hf
 refine o7 (.agg [(.int .i64 item_1.Kind),(.int .i64 item_1.N),(.str item_1.T),(.lst 1 (item_1.Keys.map AV.str)),(.lst 5 (item_1.Items.map o5))]) rfl nle rfl<|o7 (.int .i64 c_2) rfl ⟨rfl,rfl⟩ rfl<|o7 (.int .i64 (w64 (c_2 + 1))) rfl rfl rfl<|o7 (.ptr 2 0 0) rfl ⟨rfl,rfl⟩ rfl<|?_;refine o8 (a3e (v:=(.bool r_4.1)) (h2:=[.box 1 (.int .i64 c_2),.box 1 (.ptr 2 0 0),.box 1 (.int .i64 r_4.2),.box 5 (.agg [(.int .i64 item_1.Kind),(.int .i64 item_1.N),(.str item_1.T),(.lst 1 (item_1.Keys.map AV.str)),(.lst 5 (item_1.Items.map o5))])]) [] [2] (fun _ => rfl) (hrec _ _ _ _ er5) rfl (.cons (.of_eq (y8 item_1).symm) (.cons (.refl _) (.cons (.refl _) .nil))) (.refl _) rfl rfl) ?_
 refine o7 (.bool (!r_4.1)) rfl trivial rfl<|l7 (.bool (!r_4.1)) rfl<|dk<|a0d<|?_;obtain rfl:=os hf;exact a3a [] [0,1,2] rfl ⟨trivial,trivial⟩ rfl (.refl _) (.refl _)

/- slices.IndexFunc[[]impl.Json,impl.Json] -/
def d3y:a0p :=
 (.seq (.reg (tm 4 (.c (.int .i64 0)) .done))
 (.seq (.seq (.reg (tm 6 (.t 0) (tq 7 (.len (.t 6)) (tm 8 (.c (.int .i64 0)) .done))))
 (.block 0 (.loop (.seq (.reg (tq 9 (.bin .lss (.t 8) (.t 7)) .done))
 (.seq (.cond (.t 9) .skip
 (.exit 0))
 (.seq (.block 1 (.seq (.reg (tm 10 (.t 8) (tm 5 (.t 10) .done)))
 (.seq (.reg (tm 11 (.t 1) (tm 12 (.t 0) (tm 13 (.t 5) (tq 14 (.iaddr 5 (.t 12) (.t 13)) (tq 15 (.load 5 true (.t 14)) (tq 16 (.calv (.t 11) [(.t 15)]) .done)))))))
 (.cond (.t 16) (.seq (.reg (tm 17 (.t 5) (tm 4 (.t 17) .done)))
 .ret)
 .skip))))
 (.reg (tq 18 (.bin .add (.t 8) (.c (.int .i64 1))) (tm 8 (.t 18) .done)))))))))
 (.cut (.seq (.reg (tq 4 (.mov (.c (.int .i64 (-1)))) .done))
 .ret))))
theorem d7y:a1b Tryz.prog Tryz.f350 = some (d3y.erase,[.mov (.t 4)],19):=by kernel_rfl
def a0r (rec:(y7 → Int → Int → Option (Bool × Int))):List y7 → Nat → Int → Int → Option (Fl (Int × Int × Int) (Int × Int))
  | [],s8_20,x_21,x_22 =>
    some (.go (x_21,x_22))
  | x_38 :: xs,s8_20,x_21,x_22 =>
    (a6d rec x_38 x_21 x_22).bind fun r_39 =>
    if r_39.1 then
    some (.ret ((s8_20:Int),r_39.2.1,r_39.2.2))
    else
    a0r rec xs (s8_20 + 1) r_39.2.1 r_39.2.2

def a2r (rec:(y7 → Int → Int → Option (Bool × Int))) (s_1:(List y7)) (c_2:Int) (c_3:Int):Option (Int × Int × Int) :=
    (a0r rec s_1 0 c_2 c_3).bind fun q => (match q with
    | .ret r => some r
    | .go (x_29,x_30) =>
    some ((-1),x_29,x_30))
theorem a7y (rec:(y7 → Int → Int → Option (Bool × Int))) (hrec:∀ a0 a1 a2 r,rec a0 a1 a2 = some r → a0j Tryz.prog false 224 [(o5 a0),(.int .i64 a1),(.ptr 0 0 0)] [.box 1 (.int .i64 a2)] (.bool r.1) [.box 1 (.int .i64 r.2)]) (s_1:(List y7)) (c_2:Int) (c_3:Int) (r:(Int × Int × Int)) (hf:a2r rec s_1 c_2 c_3 = some r):a0j Tryz.prog false 350 [(.lst 5 (s_1.map o5)),(.fn 302 [(.ptr 0 0 0),(.ptr 1 0 0)])] [.box 1 (.int .i64 c_2),.box 1 (.ptr 2 0 0),.box 1 (.int .i64 c_3)] (.int .i64 r.1) [.box 1 (.int .i64 r.2.1),.box 1 (.ptr 2 0 0),.box 1 (.int .i64 r.2.2)]:=by
 refine a0j.of_awp mixed Tryz.func350 d7y nle ?_;rw [a0f];unfold a2r at hf;unfold d3y;refine (show awp Tryz.prog false 3 _ (ofL [(0,(.lst 5 (s_1.map o5))),(1,(.fn 302 [(.ptr 0 0 0),(.ptr 1 0 0)]))]) [.box 1 (.int .i64 c_2),.box 1 (.ptr 2 0 0),.box 1 (.int .i64 c_3)] _ from ?_);refine sr<|l7 (.int .i64 0) rfl<|dk<|o6<|sr<|l7 (.lst 5 (s_1.map o5)) rfl<|a1n (a3d (enc:=o5) rfl) fun hl4 => l7 (.int .i64 0) rfl<|dk<|?_
 obtain ⟨p31,hb1,hf⟩:=ob hf
 refine a4k (X:={q:(Int × Int) // p31 = .go q}) (fun q => ([],[.box 1 (.int .i64 q.1.1),.box 1 (.ptr 2 0 0),.box 1 (.int .i64 q.1.2)])) ?_ ?_
 ·refine a1v (X:={q:(Nat × Int × Int) // a0r rec (s_1.drop q.1) q.1 q.2.1 q.2.2 = some p31}) (fun q => ([(0,(.lst 5 (s_1.map o5))),(1,(.fn 302 [(.ptr 0 0 0),(.ptr 1 0 0)])),(7,(.int .i64 (s_1.length:Int))),(8,(.int .i64 (q.1.1:Int)))],[.box 1 (.int .i64 q.1.2.1),.box 1 (.ptr 2 0 0),.box 1 (.int .i64 q.1.2.2)])) (fun q => s_1.length - q.1.1) ⟨(0,c_2,c_3),hb1⟩ ⟨[],[0,1,2],_,_,rfl,rfl,⟨.refl _,⟨.refl _,⟨.refl _,⟨.refl _,trivial⟩⟩⟩⟩,(.refl _)⟩ ?_
  rintro ⟨⟨s8_20,x_21,x_22⟩,hc1⟩
  have hc1:a0r rec (s_1.drop s8_20) s8_20 x_21 x_22 = some p31:=hc1
  refine (show awp Tryz.prog false 3 _ (ofL [(0,(.lst 5 (s_1.map o5))),(1,(.fn 302 [(.ptr 0 0 0),(.ptr 1 0 0)])),(7,(.int .i64 (s_1.length:Int))),(8,(.int .i64 (s8_20:Int)))]) [.box 1 (.int .i64 x_21),.box 1 (.ptr 2 0 0),.box 1 (.int .i64 x_22)] _ from ?_)
  rcases a7j s_1 s8_20 with ⟨hie34,hd37⟩ | ⟨hlt32,x_38,hx33,hd37⟩
  ·rw [hd37,a0r.eq_1] at hc1
   have hq36:=dlf hie34
   refine sr<|o7 (.bool (decide ((s8_20:Int) < (s_1.length:Int)))) rfl rfl rfl<|dk<|o6<|a0c rfl hq36<|a4b<|a4a<|a2w<|a3z<|?_;obtain rfl:=os hc1;exact a5z ⟨_,rfl⟩ ⟨[],[0,1,2],_,_,rfl,rfl,trivial,(.refl _)⟩
  ·rw [hd37,a0r.eq_2] at hc1
   have hq36:=dlt hlt32
   refine sr<|o7 (.bool (decide ((s8_20:Int) < (s_1.length:Int)))) rfl rfl rfl<|dk<|o6<|a0b rfl hq36<|a0i<|a0h<|o6<|a3s<|sr<|l7 (.int .i64 (s8_20:Int)) rfl<|l7 (.int .i64 (s8_20:Int)) rfl<|dk<|sr<|?_
   obtain ⟨r_39,er40,hc1⟩:=ob hc1
   refine l7 (.fn 302 [(.ptr 0 0 0),(.ptr 1 0 0)]) rfl<|l7 (.lst 5 (s_1.map o5)) rfl<|l7 (.int .i64 (s8_20:Int)) rfl<|o8 (a3o (enc:=o5) rfl rfl hx33)<|o8 (a9d (v:=(.agg [(.int .i64 x_38.Kind),(.int .i64 x_38.N),(.str x_38.T),(.lst 1 (x_38.Keys.map AV.str)),(.lst 5 (x_38.Items.map o5))])) rfl (y8 _) nle rfl)<|?_;refine o8 (d9t (v:=(.bool r_39.1)) (h2:=[.box 1 (.int .i64 r_39.2.1),.box 1 (.ptr 2 0 0),.box 1 (.int .i64 r_39.2.2)]) [] [0,1,2] (fun _ => rfl) rfl (by kernel_rfl) (b3w rec hrec _ _ _ _ er40) rfl rfl (.cons (.of_eq (y8 x_38).symm) (.cons (.refl _) (.cons (.refl _) .nil))) (.refl _) rfl rfl) ?_
   refine dk<|?_
   rcases oi hc1 with ⟨c41,hc1⟩ | ⟨c41,hc1⟩
   ·refine a0b rfl c41<|sr<|l7 (.int .i64 (s8_20:Int)) rfl<|l7 (.int .i64 (s8_20:Int)) rfl<|dk<|a0d<|?_;obtain rfl:=os hc1;obtain rfl:=os hf;exact a3a [] [0,1,2] rfl ⟨trivial,trivial⟩ rfl (.refl _) (.refl _)
   ·refine a0c rfl (bf c41)<|a0i<|a3l<|a0h<|a0z<|o7 (.int .i64 (w64 ((s8_20:Int) + 1))) rfl rfl rfl<|l7 (.int .i64 (w64 ((s8_20:Int) + 1))) rfl<|a0e<|?_;exact a2p ⟨((s8_20 + 1),r_39.2.1,r_39.2.2),hc1⟩ (mul hlt32) ⟨[],[0,1,2],_,_,rfl,rfl,⟨.refl _,⟨.refl _,⟨.refl _,⟨.of_eq (congrArg (AV.int _) (a3h hlt32 hl4)),trivial⟩⟩⟩⟩,(.refl _)⟩
 ·rintro ⟨⟨x_29,x_30⟩,rfl⟩
  refine sr<|l7 (.int .i64 (-1)) rfl<|dk<|a0d<|?_;obtain rfl:=os hf;exact a3a [] [0,1,2] rfl ⟨trivial,trivial⟩ rfl (.refl _) (.refl _)

/- slices.ContainsFunc[[]impl.Json,impl.Json] -/
def d3z:a0p :=
 (.seq (.reg (tm 4 (.c (.bool false)) .done))
 (.seq (.reg (tm 5 (.t 0) (tm 6 (.t 1) (tq 7 (.call 350 [(.t 5),(.t 6)]) (tq 8 (.bin .geq (.t 7) (.c (.int .i64 0))) (tm 4 (.t 8) .done))))))
 .ret))
theorem d7z:a1b Tryz.prog Tryz.f301 = some (d3z.erase,[.mov (.t 4)],9):=by kernel_rfl
def a2m (rec:(y7 → Int → Int → Option (Bool × Int))) (s_1:(List y7)) (c_2:Int) (c_3:Int):Option (Bool × Int × Int) :=
    (a2r rec s_1 c_2 c_3).bind fun r_4 =>
    some ((decide (r_4.1 ≥ 0)),r_4.2.1,r_4.2.2)
theorem a7l (rec:(y7 → Int → Int → Option (Bool × Int))) (hrec:∀ a0 a1 a2 r,rec a0 a1 a2 = some r → a0j Tryz.prog false 224 [(o5 a0),(.int .i64 a1),(.ptr 0 0 0)] [.box 1 (.int .i64 a2)] (.bool r.1) [.box 1 (.int .i64 r.2)]) (s_1:(List y7)) (c_2:Int) (c_3:Int) (r:(Bool × Int × Int)) (hf:a2m rec s_1 c_2 c_3 = some r):a0j Tryz.prog false 301 [(.lst 5 (s_1.map o5)),(.fn 302 [(.ptr 0 0 0),(.ptr 1 0 0)])] [.box 1 (.int .i64 c_2),.box 1 (.ptr 2 0 0),.box 1 (.int .i64 c_3)] (.bool r.1) [.box 1 (.int .i64 r.2.1),.box 1 (.ptr 2 0 0),.box 1 (.int .i64 r.2.2)]:=by
 refine a0j.of_awp mixed Tryz.func301 d7z nle ?_;rw [a0f];unfold a2m at hf;unfold d3z;refine (show awp Tryz.prog false 3 _ (ofL [(0,(.lst 5 (s_1.map o5))),(1,(.fn 302 [(.ptr 0 0 0),(.ptr 1 0 0)]))]) [.box 1 (.int .i64 c_2),.box 1 (.ptr 2 0 0),.box 1 (.int .i64 c_3)] _ from ?_);refine sr<|l7 (.bool false) rfl<|dk<|sr<|?_
 obtain ⟨r_4,er5,hf⟩:=ob hf
 refine l7 (.lst 5 (s_1.map o5)) rfl<|l7 (.fn 302 [(.ptr 0 0 0),(.ptr 1 0 0)]) rfl<|?_;refine o8 (a3e (v:=(.int .i64 r_4.1)) (h2:=[.box 1 (.int .i64 r_4.2.1),.box 1 (.ptr 2 0 0),.box 1 (.int .i64 r_4.2.2)]) [] [0,1,2] (fun _ => rfl) (a7y rec hrec _ _ _ _ er5) rfl (.refl _) (.refl _) rfl rfl) ?_;refine o7 (.bool (decide (r_4.1 ≥ 0))) rfl rfl rfl<|l7 (.bool (decide (r_4.1 ≥ 0))) rfl<|dk<|a0d<|?_;obtain rfl:=os hf;exact a3a [] [0,1,2] rfl ⟨trivial,trivial⟩ rfl (.refl _) (.refl _)

/- (impl.Json).rightIn -/
def d4a:a0p :=
 (.seq (.reg (tq 3 (.box 5 (.t 0)) (tq 4 (.box 1 (.t 1)) (tq 5 (.box 1 (.t 2)) (tm 6 (.c (.bool false)) .done)))))
 (.seq (.seq (.reg (tq 7 (.load 1 false (.t 5)) (tq 8 (.nilck (.t 7)) (tq 9 (.load 1 false (.t 8)) (tq 10 (.bin .sub (.t 9) (.c (.int .i64 1))) (tq 11 (.nilck (.t 7)) (.q ⟨none,none,.store 1 (.t 11) (.t 10)⟩
 .done)))))))
 (.seq (.reg (tq 12 (.load 1 false (.t 5)) (tq 13 (.nilck (.t 12)) (tq 14 (.load 1 false (.t 13)) (tq 15 (.bin .lss (.t 14) (.c (.int .i64 0))) (tm 16 (.t 15) (tg 17 16 false (.load 1 false (.t 4)) (tg 18 16 false (.bin .geq (.t 17) (.c (.int .i64 12))) (tq 19 (.pick (.t 16) (.c (.bool true)) (.t 18)) (tm 20 (.t 19) (tg 21 20 false (.load 5 true (.t 3)) (tg 22 20 false (.call 300 [(.t 21)]) (tg 23 20 false (.not (.t 22)) (tq 24 (.pick (.t 20) (.c (.bool true)) (.t 23)) .done))))))))))))))
 (.cut (.cond (.t 24) (.seq (.reg (tm 6 (.c (.bool false)) .done))
 .ret)
 .skip))))
 (.seq (.reg (tq 25 (.faddr 4 (.t 3)) (tq 26 (.load 1 false (.t 25)) (tq 27 (.mkfn 302 [(.t 4),(.t 5)]) (tq 28 (.call 301 [(.t 26),(.t 27)]) (tq 29 (.not (.t 28)) (tm 6 (.t 29) .done)))))))
 .ret)))
theorem d8a:a1b Tryz.prog Tryz.f224 = some (d4a.erase,[.mov (.t 6)],30):=by kernel_rfl
def a7d (rec:(y7 → Int → Int → Option (Bool × Int))) (j_1:y7) (deep_2:Int) (room_3:Int):Option (Bool × Int) :=
    ((if (bif (decide (w64 (room_3 - 1) < 0)) then true else (decide (deep_2 ≥ 12))) then
    some true
    else
    (a7k j_1).bind fun r_10 =>
    some (!r_10):Option Bool)).bind fun s24_7 =>
    if s24_7 then
    some (false,w64 (room_3 - 1))
    else
    (a2m rec j_1.Items deep_2 (w64 (room_3 - 1))).bind fun r_13 =>
    some ((!r_13.1),r_13.2.2)
theorem b5p (rec:(y7 → Int → Int → Option (Bool × Int))) (hrec:∀ a0 a1 a2 r,rec a0 a1 a2 = some r → a0j Tryz.prog false 224 [(o5 a0),(.int .i64 a1),(.ptr 0 0 0)] [.box 1 (.int .i64 a2)] (.bool r.1) [.box 1 (.int .i64 r.2)]) (j_1:y7) (deep_2:Int) (room_3:Int) (r:(Bool × Int)) (hf:a7d rec j_1 deep_2 room_3 = some r):a0j Tryz.prog false 224 [(o5 j_1),(.int .i64 deep_2),(.ptr 0 0 0)] [.box 1 (.int .i64 room_3)] (.bool r.1) [.box 1 (.int .i64 r.2)]:=by
 refine a0j.of_awp mixed Tryz.func224 d8a nle ?_;rw [a0f];rw [y8 j_1];unfold a7d at hf;unfold d4a;refine (show awp Tryz.prog false 1 _ (ofL [(0,(.agg [(.int .i64 j_1.Kind),(.int .i64 j_1.N),(.str j_1.T),(.lst 1 (j_1.Keys.map AV.str)),(.lst 5 (j_1.Items.map o5))])),(1,(.int .i64 deep_2)),(2,(.ptr 0 0 0))]) [.box 1 (.int .i64 room_3)] _ from ?_);refine sr<|o8 (a1g (j:=1) (c:=(.agg [(.int .i64 j_1.Kind),(.int .i64 j_1.N),(.str j_1.T),(.lst 1 (j_1.Keys.map AV.str)),(.lst 5 (j_1.Items.map o5))])) rfl trivial rfl rfl)<|o8 (a1g (j:=2) (c:=(.int .i64 deep_2)) rfl trivial rfl rfl)<|o8 (a1g (j:=3) (c:=(.ptr 0 0 0)) rfl trivial rfl rfl)<|?_
 refine l7 (.bool false) rfl<|dk<|o6<|sr<|o7 (.ptr 0 0 0) rfl ⟨rfl,rfl⟩ rfl<|o7 (.ptr 0 0 0) rfl trivial rfl<|o7 (.int .i64 room_3) rfl ⟨rfl,rfl⟩ rfl<|o7 (.int .i64 (w64 (room_3 - 1))) rfl rfl rfl<|o7 (.ptr 0 0 0) rfl trivial rfl<|a1i (x9 (v:=(.int .i64 (w64 (room_3 - 1)))) (y':=(.int .i64 (w64 (room_3 - 1)))) rfl rfl rfl trivial ⟨rfl,rfl,rfl⟩ ⟨⟨rfl,trivial⟩,trivial⟩ rfl)<|dk<|o6<|?_
 obtain ⟨s24_7,hb1,hf⟩:=ob hf
 refine a2v ([(3,(.ptr 1 0 0)),(4,(.ptr 2 0 0)),(5,(.ptr 3 0 0)),(24,(.bool s24_7))],[.box 1 (.int .i64 (w64 (room_3 - 1))),.box 5 (.agg [(.int .i64 j_1.Kind),(.int .i64 j_1.N),(.str j_1.T),(.lst 1 (j_1.Keys.map AV.str)),(.lst 5 (j_1.Items.map o5))]),.box 1 (.int .i64 deep_2),.box 1 (.ptr 0 0 0)]) ?_ ?_
 ·refine a0z<|o7 (.ptr 0 0 0) rfl ⟨rfl,rfl⟩ rfl<|o7 (.ptr 0 0 0) rfl trivial rfl<|o7 (.int .i64 (w64 (room_3 - 1))) rfl ⟨rfl,rfl⟩ rfl<|o7 (.bool (decide (w64 (room_3 - 1) < 0))) rfl rfl rfl<|l7 (.bool (decide (w64 (room_3 - 1) < 0))) rfl<|?_;refine s_g (v:=(decide (w64 (room_3 - 1) < 0))) (.int .i64 deep_2) rfl (fun hv => by (try simp only [a0g hv]);exact ⟨rfl,⟨rfl,rfl⟩,rfl⟩) ?_;refine s_g (v:=(decide (w64 (room_3 - 1) < 0))) (.bool (decide (deep_2 ≥ 12))) rfl (fun hv => by (try simp only [a0g hv]);exact ⟨rfl,rfl,rfl⟩) ?_;refine a5a (x:=true) (y:=(decide (deep_2 ≥ 12))) rfl (fun hv => by (try simp only [a0g hv]);rfl) (fun hv => by (try simp only [a0g hv]);rfl) ?_
  refine l7 (.bool (bif (decide (w64 (room_3 - 1) < 0)) then true else (decide (deep_2 ≥ 12)))) rfl ?_
  rcases oi hb1 with ⟨c9,hb1⟩ | ⟨c9,hb1⟩
  ·refine a1k (s:=20) (b:=true) rfl c9<|a0a rfl rfl<|a0a rfl rfl<|a0a rfl rfl<|o7 (.bool true) rfl trivial rfl<|a0e<|?_;obtain rfl:=os hb1;exact ⟨[],[0,1,2,3],_,_,rfl,rfl,⟨.refl _,⟨.refl _,⟨.refl _,⟨.refl _,trivial⟩⟩⟩⟩,(.refl _)⟩
  ·refine a1k (s:=20) (b:=false) rfl (bf c9)<|s_on rfl<|o7 (.agg [(.int .i64 j_1.Kind),(.int .i64 j_1.N),(.str j_1.T),(.lst 1 (j_1.Keys.map AV.str)),(.lst 5 (j_1.Items.map o5))]) rfl nle rfl<|s_on rfl<|?_
   obtain ⟨r_10,er11,hb1⟩:=ob hb1
   refine o8 (a1f (b8a _ _ er11) rfl (.cons (.of_eq (y8 j_1).symm) .nil) rfl)<|s_on rfl<|o7 (.bool (!r_10)) rfl trivial rfl<|o7 (.bool (!r_10)) rfl trivial rfl<|a0e<|?_;obtain rfl:=os hb1;exact ⟨[],[0,1,2,3],_,_,rfl,rfl,⟨.refl _,⟨.refl _,⟨.refl _,⟨.refl _,trivial⟩⟩⟩⟩,(.refl _)⟩
 ·rcases oi hf with ⟨c12,hf⟩ | ⟨c12,hf⟩
  ·refine a0b rfl c12<|sr<|l7 (.bool false) rfl<|dk<|a0d<|?_;obtain rfl:=os hf;exact a3a [] [0] rfl ⟨trivial,trivial⟩ rfl (.refl _) (.refl _)
  ·refine a0c rfl (bf c12)<|a0i<|a0h<|sr<|?_
   obtain ⟨r_13,er14,hf⟩:=ob hf
   refine o7 (.ptr 1 0 4) rfl trivial rfl<|o7 (.lst 5 (j_1.Items.map o5)) rfl nle rfl<|o7 (.fn 302 [(.ptr 2 0 0),(.ptr 3 0 0)]) rfl trivial rfl<|?_;refine o8 (a3e (v:=(.bool r_13.1)) (h2:=[.box 1 (.int .i64 r_13.2.2),.box 5 (.agg [(.int .i64 j_1.Kind),(.int .i64 j_1.N),(.str j_1.T),(.lst 1 (j_1.Keys.map AV.str)),(.lst 5 (j_1.Items.map o5))]),.box 1 (.int .i64 r_13.2.1),.box 1 (.ptr 0 0 0)]) [] [2,3,0] (fun _ => rfl) (a7l rec hrec _ _ _ _ er14) rfl (.refl _) (.refl _) rfl rfl) ?_;refine o7 (.bool (!r_13.1)) rfl trivial rfl<|l7 (.bool (!r_13.1)) rfl<|dk<|a0d<|?_;obtain rfl:=os hf;exact a3a [] [0] rfl ⟨trivial,trivial⟩ rfl (.refl _) (.refl _)
def a4j:Nat → y7 → Int → Int → Option (Bool × Int)
 | 0,_,_,_ => none
 | k + 1,j_1,deep_2,room_3 => a7d (a4j k) j_1 deep_2 room_3
theorem b2g:∀ (k:Nat) (j_1:y7) (deep_2:Int) (room_3:Int) (r:(Bool × Int)),a4j k j_1 deep_2 room_3 = some r → a0j Tryz.prog false 224 [(o5 j_1),(.int .i64 deep_2),(.ptr 0 0 0)] [.box 1 (.int .i64 room_3)] (.bool r.1) [.box 1 (.int .i64 r.2)]
 | 0,j_1,deep_2,room_3,r,h => by rw [a4j.eq_1] at h;cases h
 | k + 1,j_1,deep_2,room_3,r,h => by
  rw [a4j.eq_2] at h;exact b5p _ (b2g k) j_1 deep_2 room_3 r h

/- impl.JsonOK -/
def c124:a0p :=
 (.seq (.reg (tq 1 (.box 5 (.t 0)) (tm 2 (.c (.bool false)) .done)))
 (.seq (.reg (tq 3 (.box 1 (.c (.int .i64 0))) (.q ⟨none,none,.store 1 (.t 3) (.c (.int .i64 400))⟩
 .done)))
 (.seq (.reg (tq 4 (.load 5 true (.t 1)) (tq 5 (.call 224 [(.t 4),(.c (.int .i64 0)),(.t 3)]) (tm 2 (.t 5) .done))))
 .ret)))
theorem e3x:a1b Tryz.prog Tryz.f124 = some (c124.erase,[.mov (.t 2)],6):=by kernel_rfl
def a8s (j_1:y7):Option Bool :=
    (a4j FUEL j_1 0 400).bind fun r_2 =>
    some r_2.1
theorem b3x (j_1:y7) (r:Bool) (hf:a8s j_1 = some r):y9 Tryz.prog 124 .flat [(o5 j_1)] (.bool r):=by
 refine y9.of_awp mixed Tryz.func124 e3x nle ?_;rw [a0f];rw [y8 j_1];unfold a8s at hf;unfold c124;refine (show awp Tryz.prog false 0 _ (ofL [(0,(.agg [(.int .i64 j_1.Kind),(.int .i64 j_1.N),(.str j_1.T),(.lst 1 (j_1.Keys.map AV.str)),(.lst 5 (j_1.Items.map o5))]))]) [] _ from ?_);refine sr<|o8 (a1g (j:=0) (c:=(.agg [(.int .i64 j_1.Kind),(.int .i64 j_1.N),(.str j_1.T),(.lst 1 (j_1.Keys.map AV.str)),(.lst 5 (j_1.Items.map o5))])) rfl trivial rfl rfl)<|l7 (.bool false) rfl<|dk<|sr<|o8 (a1g (j:=1) (c:=(.int .i64 0)) rfl trivial rfl rfl)<|a1i (x9 (v:=(.int .i64 400)) (y':=(.int .i64 400)) rfl rfl rfl trivial ⟨rfl,rfl,rfl⟩ ⟨⟨rfl,trivial⟩,trivial⟩ rfl)<|?_
 refine dk<|sr<|?_
 obtain ⟨r_2,er3,hf⟩:=ob hf
 refine o7 (.agg [(.int .i64 j_1.Kind),(.int .i64 j_1.N),(.str j_1.T),(.lst 1 (j_1.Keys.map AV.str)),(.lst 5 (j_1.Items.map o5))]) rfl nle rfl ?_;refine o8 (a3e (v:=(.bool r_2.1)) (h2:=[.box 5 (.agg [(.int .i64 j_1.Kind),(.int .i64 j_1.N),(.str j_1.T),(.lst 1 (j_1.Keys.map AV.str)),(.lst 5 (j_1.Items.map o5))]),.box 1 (.int .i64 r_2.2)]) [] [1] (fun _ => rfl) (b2g FUEL _ _ _ _ er3) rfl (.cons (.of_eq (y8 j_1).symm) (.cons (.refl _) (.cons (.refl _) .nil))) (.refl _) rfl rfl) ?_;refine l7 (.bool r_2.1) rfl<|dk<|a0d<|?_;obtain rfl:=os hf;exact a0m ⟨trivial,trivial⟩ rfl (.refl _)

/- (impl.Json).pairOf -/
def c236:a0p :=
 (.seq (.reg (tq 2 (.box 5 (.t 0)) (tq 4 (.box 5 (.c (.agg [(.int .i64 0),(.int .i64 0),(.str []),.nil,.nil]))) (tm 5 (.c (.bool false)) .done))))
 (.seq (.seq (.reg (tq 6 (.faddr 0 (.t 2)) (tq 7 (.load 1 false (.t 6)) (tq 8 (.bin .neq (.t 7) (.c (.int .i64 4))) (tm 9 (.t 8) (tg 10 9 false (.faddr 4 (.t 2)) (tg 11 9 false (.load 1 false (.t 10)) (tg 12 9 false (.len (.t 11)) (tg 13 9 false (.bin .neq (.t 12) (.c (.int .i64 2))) (tq 14 (.pick (.t 9) (.c (.bool true)) (.t 13)) (tm 15 (.t 14) (tg 16 15 false (.faddr 4 (.t 2)) (tg 17 15 false (.load 1 false (.t 16)) (tg 18 15 false (.iaddr 5 (.t 17) (.c (.int .i64 0))) (tg 19 15 false (.faddr 0 (.t 18)) (tg 20 15 false (.load 1 false (.t 19)) (tg 21 15 false (.bin .neq (.t 20) (.c (.int .i64 3))) (tq 22 (.pick (.t 15) (.c (.bool true)) (.t 21)) (tm 23 (.t 22) (tg 24 23 false (.faddr 4 (.t 2)) (tg 25 23 false (.load 1 false (.t 24)) (tg 26 23 false (.iaddr 5 (.t 25) (.c (.int .i64 0))) (tg 27 23 false (.faddr 2 (.t 26)) (tg 28 23 false (.load 1 false (.t 27)) (tg 29 23 false (.mov (.t 1)) (tg 30 23 false (.bin .neq (.t 28) (.t 29)) (tq 31 (.pick (.t 23) (.c (.bool true)) (.t 30)) .done)))))))))))))))))))))))))))
 (.cut (.cond (.t 31) (.seq (.reg (tq 32 (.build [(.int .i64 0),(.int .i64 0),(.str []),.nil,.nil] []) (.q ⟨none,none,.store 5 (.t 4) (.t 32)⟩
 (tm 5 (.c (.bool false)) .done))))
 .ret)
 .skip)))
 (.seq (.reg (tq 33 (.faddr 4 (.t 2)) (tq 34 (.load 1 false (.t 33)) (tq 35 (.iaddr 5 (.t 34) (.c (.int .i64 1))) (tq 36 (.load 5 true (.t 35)) (.q ⟨none,none,.store 5 (.t 4) (.t 36)⟩
 (tm 5 (.c (.bool true)) .done)))))))
 .ret)))
theorem e3y:a1b Tryz.prog Tryz.f236 = some (c236.erase,[.load 5 true (.t 4),.mov (.t 5)],37):=by kernel_rfl
def a5o (j_1:y7) (word_2:Str):Option (y7 × Bool) :=
    ((if (bif (j_1.Kind != 4) then true else ((j_1.Items.length:Int) != 2)) then
    some true
    else
    (idx j_1.Items 0).bind fun x_14 =>
    if (x_14.Kind != 3) then
    some true
    else
    (idx j_1.Items 0).bind fun x_17 =>
    some (!(x_17.T == word_2)):Option Bool)).bind fun s31_10 =>
    if s31_10 then
    some ((⟨0,0,[],[],[]⟩:y7),false)
    else
    (idx j_1.Items 1).bind fun x_20 =>
    some (x_20,true)
theorem b3b (j_1:y7) (word_2:Str) (r:(y7 × Bool)) (hf:a5o j_1 word_2 = some r):y9 Tryz.prog 236 .weak [(o5 j_1),(.str word_2)] (.tup [(o5 r.1),(.bool r.2)]):=by
 refine y9.of_awp mixed Tryz.func236 e3y nle ?_;rw [a0f];rw [y8 j_1];unfold a5o at hf;unfold c236;refine (show awp Tryz.prog false 0 _ (ofL [(0,(.agg [(.int .i64 j_1.Kind),(.int .i64 j_1.N),(.str j_1.T),(.lst 1 (j_1.Keys.map AV.str)),(.lst 5 (j_1.Items.map o5))])),(1,(.str word_2))]) [] _ from ?_);refine sr<|o8 (a1g (j:=0) (c:=(.agg [(.int .i64 j_1.Kind),(.int .i64 j_1.N),(.str j_1.T),(.lst 1 (j_1.Keys.map AV.str)),(.lst 5 (j_1.Items.map o5))])) rfl trivial rfl rfl)<|o8 (a1g (j:=1) (c:=(.agg [(.int .i64 0),(.int .i64 0),(.str []),.nil,.nil])) rfl trivial rfl rfl)<|l7 (.bool false) rfl<|dk<|o6<|o6<|?_
 obtain ⟨s31_10,hb1,hf⟩:=ob hf
 refine a2v ([(2,(.ptr 0 0 0)),(4,(.ptr 1 0 0)),(31,(.bool s31_10))],[.box 5 (.agg [(.int .i64 j_1.Kind),(.int .i64 j_1.N),(.str j_1.T),(.lst 1 (j_1.Keys.map AV.str)),(.lst 5 (j_1.Items.map o5))]),.box 5 (.agg [(.int .i64 0),(.int .i64 0),(.str []),.nil,.nil])]) ?_ ?_
 ·refine a0z<|o7 (.ptr 0 0 0) rfl trivial rfl<|o7 (.int .i64 j_1.Kind) rfl nle rfl<|o7 (.bool (j_1.Kind != 4)) rfl rfl rfl<|l7 (.bool (j_1.Kind != 4)) rfl<|?_;refine s_g (v:=(j_1.Kind != 4)) (.ptr 0 0 4) rfl (fun hv => by (try simp only [a0g hv]);exact ⟨rfl,trivial,rfl⟩) ?_;refine s_g (v:=(j_1.Kind != 4)) (.lst 5 (j_1.Items.map o5)) rfl (fun hv => by (try simp only [a0g hv]);exact ⟨rfl,nle,rfl⟩) ?_;refine s_g (v:=(j_1.Kind != 4)) (.int .i64 (j_1.Items.length:Int)) rfl (fun hv => by (try simp only [a0g hv]);exact ⟨rfl,trivial,lenV _ _⟩) ?_;refine s_g (v:=(j_1.Kind != 4)) (.bool ((j_1.Items.length:Int) != 2)) rfl (fun hv => by (try simp only [a0g hv]);exact ⟨rfl,rfl,rfl⟩) ?_
  refine a5a (x:=true) (y:=((j_1.Items.length:Int) != 2)) rfl (fun hv => by (try simp only [a0g hv]);rfl) (fun hv => by (try simp only [a0g hv]);rfl) ?_;refine l7 (.bool (bif (j_1.Kind != 4) then true else ((j_1.Items.length:Int) != 2))) rfl ?_
  rcases oi hb1 with ⟨c13,hb1⟩ | ⟨c13,hb1⟩
  ·refine a1k (s:=15) (b:=true) rfl c13<|a0a rfl rfl<|a0a rfl rfl<|a0a rfl rfl<|a0a rfl rfl<|a0a rfl rfl<|a0a rfl rfl<|o7 (.bool true) rfl trivial rfl<|l7 (.bool true) rfl<|a0a rfl rfl<|a0a rfl rfl<|a0a rfl rfl<|a0a rfl rfl<|a0a rfl rfl<|a0a rfl rfl<|a0a rfl rfl<|o7 (.bool true) rfl trivial rfl<|a0e<|?_;obtain rfl:=os hb1;exact ⟨[],[0,1],_,_,rfl,rfl,⟨.refl _,⟨.refl _,⟨.refl _,trivial⟩⟩⟩,(.refl _)⟩
  ·refine a1k (s:=15) (b:=false) rfl (bf c13)<|s_on rfl<|o7 (.ptr 0 0 4) rfl trivial rfl<|s_on rfl<|o7 (.lst 5 (j_1.Items.map o5)) rfl nle rfl<|s_on rfl<|?_
   obtain ⟨x_14,ex15,hb1⟩:=ob hb1
   refine o8 (a5l (enc:=o5) rfl rfl (b2x ex15) (b2y ex15))<|s_on rfl<|o7 (.iptr (o5 x_14) 0) rfl trivial rfl<|s_on rfl<|o8 (a9d (v:=(.int .i64 x_14.Kind)) rfl (y8 _) nle rfl)<|s_on rfl<|o7 (.bool (x_14.Kind != 3)) rfl rfl rfl<|o7 (.bool (x_14.Kind != 3)) rfl trivial rfl<|l7 (.bool (x_14.Kind != 3)) rfl<|?_
   rcases oi hb1 with ⟨c16,hb1⟩ | ⟨c16,hb1⟩
   ·refine a1k (s:=23) (b:=true) rfl c16<|a0a rfl rfl<|a0a rfl rfl<|a0a rfl rfl<|a0a rfl rfl<|a0a rfl rfl<|a0a rfl rfl<|a0a rfl rfl<|o7 (.bool true) rfl trivial rfl<|a0e<|?_;obtain rfl:=os hb1;exact ⟨[],[0,1],_,_,rfl,rfl,⟨.refl _,⟨.refl _,⟨.refl _,trivial⟩⟩⟩,(.refl _)⟩
   ·refine a1k (s:=23) (b:=false) rfl (bf c16)<|s_on rfl<|o7 (.ptr 0 0 4) rfl trivial rfl<|s_on rfl<|o7 (.lst 5 (j_1.Items.map o5)) rfl nle rfl<|s_on rfl<|?_
    obtain ⟨x_17,ex18,hb1⟩:=ob hb1
    refine o8 (a5l (enc:=o5) rfl rfl (b2x ex18) (b2y ex18))<|s_on rfl<|o7 (.iptr (o5 x_17) 2) rfl trivial rfl<|s_on rfl<|o8 (a9d (v:=(.str x_17.T)) rfl (y8 _) nle rfl)<|s_on rfl<|l7 (.str word_2) rfl<|s_on rfl<|o7 (.bool (!(x_17.T == word_2))) rfl trivial rfl<|o7 (.bool (!(x_17.T == word_2))) rfl trivial rfl<|a0e<|?_;obtain rfl:=os hb1;exact ⟨[],[0,1],_,_,rfl,rfl,⟨.refl _,⟨.refl _,⟨.refl _,trivial⟩⟩⟩,(.refl _)⟩
 ·rcases oi hf with ⟨c19,hf⟩ | ⟨c19,hf⟩
  ·refine a0b rfl c19<|sr<|o7 (.agg [(.int .i64 0),(.int .i64 0),(.str []),.nil,.nil]) rfl trivial rfl<|a1i (x9 (v:=(.agg [(.int .i64 0),(.int .i64 0),(.str []),.nil,.nil])) (y':=(.agg [(.int .i64 0),(.int .i64 0),(.str []),.nil,.nil])) rfl rfl rfl trivial ⟨rfl,nle⟩ ⟨⟨rfl,trivial⟩,⟨⟨rfl,trivial⟩,⟨⟨rfl,trivial⟩,⟨⟨rfl,trivial⟩,⟨⟨rfl,trivial⟩,trivial⟩⟩⟩⟩⟩ rfl)<|l7 (.bool false) rfl<|dk<|a0d<|?_;obtain rfl:=os hf;exact c0r ⟨nle,⟨trivial,trivial⟩⟩ rfl (.tup (.cons (leJ (x:=(⟨0,0,[],[],[]⟩:y7)) (.agg (.cons (.refl _) (.cons (.refl _) (.cons (.refl _) (.cons (.nil _) (.cons (.nil _) .nil))))))) (.cons (.refl _) .nil)))
  ·refine a0c rfl (bf c19)<|a0i<|a0h<|sr<|?_
   obtain ⟨x_20,ex21,hf⟩:=ob hf
   refine o7 (.ptr 0 0 4) rfl trivial rfl<|o7 (.lst 5 (j_1.Items.map o5)) rfl nle rfl<|o8 (a5l (enc:=o5) rfl rfl (b2x ex21) (b2y ex21))<|o8 (a9d (v:=(.agg [(.int .i64 x_20.Kind),(.int .i64 x_20.N),(.str x_20.T),(.lst 1 (x_20.Keys.map AV.str)),(.lst 5 (x_20.Items.map o5))])) rfl (y8 _) nle rfl)<|a1i (x9 (v:=(.agg [(.int .i64 x_20.Kind),(.int .i64 x_20.N),(.str x_20.T),(.lst 1 (x_20.Keys.map AV.str)),(.lst 5 (x_20.Items.map o5))])) (y':=(.agg [(.int .i64 x_20.Kind),(.int .i64 x_20.N),(.str x_20.T),(.lst 1 (x_20.Keys.map AV.str)),(.lst 5 (x_20.Items.map o5))])) rfl rfl rfl trivial ⟨rfl,nle⟩ ⟨⟨rfl,trivial⟩,⟨⟨rfl,trivial⟩,⟨⟨rfl,trivial⟩,⟨⟨rfl,trivial⟩,⟨⟨rfl,trivial⟩,trivial⟩⟩⟩⟩⟩ rfl)<|?_
   refine l7 (.bool true) rfl<|dk<|a0d<|?_;obtain rfl:=os hf;exact c0r ⟨nle,⟨trivial,trivial⟩⟩ rfl (.tup (.cons (.of_eq (y8 x_20).symm) (.cons (.refl _) .nil)))

/- (impl.Json).members -/
def e3z:a0p :=
 (.seq (.reg (tq 1 (.box 5 (.t 0)) (tm 2 (.c .nil) (tm 3 (.c (.bool false)) .done))))
 (.seq (.reg (tq 7 (.load 5 true (.t 1)) (tq 8 (.call 236 [(.t 7),(.c (.str [115,101,116]))]) (tm 6 (.t 8) (tq 9 (.extract 0 (.t 6)) (tq 10 (.extract 1 (.t 6)) (tq 4 (.box 5 (.c (.agg [(.int .i64 0),(.int .i64 0),(.str []),.nil,.nil]))) (.q ⟨none,none,.store 5 (.t 4) (.t 9)⟩
 (tm 5 (.t 10) .done)))))))))
 (.seq (.reg (tq 11 (.faddr 4 (.t 4)) (tq 12 (.load 1 false (.t 11)) (tm 13 (.t 5) (tm 14 (.t 13) (tg 15 14 true (.faddr 0 (.t 4)) (tg 16 14 true (.load 1 false (.t 15)) (tg 17 14 true (.bin .eql (.t 16) (.c (.int .i64 4))) (tq 18 (.pick (.t 14) (.t 17) (.c (.bool false))) (tm 2 (.t 12) (tm 3 (.t 18) .done)))))))))))
 .ret)))
theorem e4a:a1b Tryz.prog Tryz.f231 = some (e3z.erase,[.mov (.t 2),.mov (.t 3)],19):=by kernel_rfl
def a5d (j_1:y7):Option ((List y7) × Bool) :=
    (a5o j_1 [115,101,116]).bind fun r_2 =>
    if r_2.2 then
    some (r_2.1.Items,(r_2.1.Kind == 4))
    else
    some (r_2.1.Items,false)
theorem b7e (j_1:y7) (r:((List y7) × Bool)) (hf:a5d j_1 = some r):y9 Tryz.prog 231 .weak [(o5 j_1)] (.tup [(.lst 5 (r.1.map o5)),(.bool r.2)]):=by
 refine y9.of_awp mixed Tryz.func231 e4a nle ?_;rw [a0f];rw [y8 j_1];unfold a5d at hf;unfold e3z;refine (show awp Tryz.prog false 0 _ (ofL [(0,(.agg [(.int .i64 j_1.Kind),(.int .i64 j_1.N),(.str j_1.T),(.lst 1 (j_1.Keys.map AV.str)),(.lst 5 (j_1.Items.map o5))]))]) [] _ from ?_);refine sr<|o8 (a1g (j:=0) (c:=(.agg [(.int .i64 j_1.Kind),(.int .i64 j_1.N),(.str j_1.T),(.lst 1 (j_1.Keys.map AV.str)),(.lst 5 (j_1.Items.map o5))])) rfl trivial rfl rfl)<|l7 .nil rfl<|l7 (.bool false) rfl<|dk<|sr<|?_
 obtain ⟨r_2,er3,hf⟩:=ob hf
 refine o7 (.agg [(.int .i64 j_1.Kind),(.int .i64 j_1.N),(.str j_1.T),(.lst 1 (j_1.Keys.map AV.str)),(.lst 5 (j_1.Items.map o5))]) rfl nle rfl<|o8 (c2x (v:=(.tup [(.agg [(.int .i64 r_2.1.Kind),(.int .i64 r_2.1.N),(.str r_2.1.T),(.lst 1 (r_2.1.Keys.map AV.str)),(.lst 5 (r_2.1.Items.map o5))]),(.bool r_2.2)])) rfl (b3b _ _ _ er3) rfl (.cons (.of_eq (y8 j_1).symm) (.cons (.refl _) .nil)) (by simp only [y8]) rfl)<|l7 (.tup [(.agg [(.int .i64 r_2.1.Kind),(.int .i64 r_2.1.N),(.str r_2.1.T),(.lst 1 (r_2.1.Keys.map AV.str)),(.lst 5 (r_2.1.Items.map o5))]),(.bool r_2.2)]) rfl<|o7 (.agg [(.int .i64 r_2.1.Kind),(.int .i64 r_2.1.N),(.str r_2.1.T),(.lst 1 (r_2.1.Keys.map AV.str)),(.lst 5 (r_2.1.Items.map o5))]) rfl nle rfl<|?_
 refine o7 (.bool r_2.2) rfl nle rfl<|o8 (a1g (j:=1) (c:=(.agg [(.int .i64 0),(.int .i64 0),(.str []),.nil,.nil])) rfl trivial rfl rfl)<|a1i (x9 (v:=(.agg [(.int .i64 r_2.1.Kind),(.int .i64 r_2.1.N),(.str r_2.1.T),(.lst 1 (r_2.1.Keys.map AV.str)),(.lst 5 (r_2.1.Items.map o5))])) (y':=(.agg [(.int .i64 r_2.1.Kind),(.int .i64 r_2.1.N),(.str r_2.1.T),(.lst 1 (r_2.1.Keys.map AV.str)),(.lst 5 (r_2.1.Items.map o5))])) rfl rfl rfl trivial ⟨rfl,nle⟩ ⟨⟨rfl,trivial⟩,⟨⟨rfl,trivial⟩,⟨⟨rfl,trivial⟩,⟨⟨rfl,trivial⟩,⟨⟨rfl,trivial⟩,trivial⟩⟩⟩⟩⟩ rfl)<|l7 (.bool r_2.2) rfl<|dk<|sr<|?_
 rcases oi hf with ⟨c4,hf⟩ | ⟨c4,hf⟩
 ·refine o7 (.ptr 1 0 4) rfl trivial rfl<|o7 (.lst 5 (r_2.1.Items.map o5)) rfl nle rfl<|l7 (.bool r_2.2) rfl<|l7 (.bool r_2.2) rfl<|a1k (s:=14) (b:=true) rfl c4<|s_on rfl<|o7 (.ptr 1 0 0) rfl trivial rfl<|s_on rfl<|o7 (.int .i64 r_2.1.Kind) rfl nle rfl<|s_on rfl<|o7 (.bool (r_2.1.Kind == 4)) rfl rfl rfl<|o7 (.bool (r_2.1.Kind == 4)) rfl trivial rfl<|l7 (.lst 5 (r_2.1.Items.map o5)) rfl<|l7 (.bool (r_2.1.Kind == 4)) rfl<|dk<|a0d<|?_;obtain rfl:=os hf;exact c0r ⟨trivial,⟨trivial,trivial⟩⟩ rfl (.refl _)
 ·refine o7 (.ptr 1 0 4) rfl trivial rfl<|o7 (.lst 5 (r_2.1.Items.map o5)) rfl nle rfl<|l7 (.bool r_2.2) rfl<|l7 (.bool r_2.2) rfl<|a1k (s:=14) (b:=false) rfl (bf c4)<|a0a rfl rfl<|a0a rfl rfl<|a0a rfl rfl<|o7 (.bool false) rfl trivial rfl<|l7 (.lst 5 (r_2.1.Items.map o5)) rfl<|l7 (.bool false) rfl<|dk<|a0d<|?_;obtain rfl:=os hf;exact c0r ⟨trivial,⟨trivial,trivial⟩⟩ rfl (.refl _)

/- impl.jsonAtom -/
def e4c:a0p :=
 (.seq (.reg (tq 1 (.box 5 (.t 0)) (tq 2 (.box 3 (.c (.agg [(.int .i64 0),(.int .i64 0),(.str [])]))) (tm 3 (.c (.bool false)) .done))))
 (.seq (.reg (tq 7 (.build [(.int .i64 0),(.int .i64 0),(.str [])] []) (tq 4 (.box 3 (.c (.agg [(.int .i64 0),(.int .i64 0),(.str [])]))) (.q ⟨none,none,.store 3 (.t 4) (.t 7)⟩
 .done))))
 (.seq (.seq (.reg (tq 8 (.faddr 0 (.t 1)) (tq 9 (.load 1 false (.t 8)) .done)))
 (.block 0 (.seq (.reg (tq 11 (.bin .eql (.t 9) (.c (.int .i64 2))) (tm 10 (.t 11) .done)))
 (.cond (.t 10) (.reg (tq 12 (.faddr 1 (.t 1)) (tq 13 (.load 1 false (.t 12)) (tq 14 (.build [(.int .i64 0),(.int .i64 0),(.str [])] [(0,1,(.c (.int .i64 1))),(1,1,(.t 13))]) (.q ⟨none,none,.store 3 (.t 4) (.t 14)⟩
 .done)))))
 (.seq (.reg (tq 16 (.bin .eql (.t 9) (.c (.int .i64 3))) (tm 15 (.t 16) .done)))
 (.cond (.t 15) (.reg (tq 17 (.faddr 2 (.t 1)) (tq 18 (.load 1 false (.t 17)) (tq 19 (.build [(.int .i64 0),(.int .i64 0),(.str [])] [(0,1,(.c (.int .i64 2))),(2,1,(.t 18))]) (.q ⟨none,none,.store 3 (.t 4) (.t 19)⟩
 .done)))))
 (.seq (.reg (tq 21 (.bin .eql (.t 9) (.c (.int .i64 1))) (tm 20 (.t 21) .done)))
 (.cond (.t 20) (.reg (tq 22 (.faddr 1 (.t 1)) (tq 23 (.load 1 false (.t 22)) (tq 24 (.build [(.int .i64 0),(.int .i64 0),(.str [])] [(0,1,(.c (.int .i64 3))),(1,1,(.t 23))]) (.q ⟨none,none,.store 3 (.t 4) (.t 24)⟩
 .done)))))
 (.seq (.reg (tq 26 (.bin .eql (.t 9) (.c (.int .i64 4))) (tm 25 (.t 26) .done)))
 (.cond (.t 25) (.seq (.reg (tq 28 (.load 5 true (.t 1)) (tq 29 (.call 236 [(.t 28),(.c (.str [117,117,105,100]))]) (tm 27 (.t 29) (tq 30 (.extract 0 (.t 27)) (tq 31 (.extract 1 (.t 27)) (tq 5 (.box 5 (.c (.agg [(.int .i64 0),(.int .i64 0),(.str []),.nil,.nil]))) (.q ⟨none,none,.store 5 (.t 5) (.t 30)⟩
 (tm 6 (.t 31) .done)))))))))
 (.seq (.seq (.reg (tm 32 (.t 6) (tq 33 (.not (.t 32)) (tm 34 (.t 33) (tg 35 34 false (.faddr 0 (.t 5)) (tg 36 34 false (.load 1 false (.t 35)) (tg 37 34 false (.bin .neq (.t 36) (.c (.int .i64 2))) (tq 38 (.pick (.t 34) (.c (.bool true)) (.t 37)) .done))))))))
 (.cut (.cond (.t 38) (.seq (.reg (tq 39 (.build [(.int .i64 0),(.int .i64 0),(.str [])] []) (.q ⟨none,none,.store 3 (.t 2) (.t 39)⟩
 (tm 3 (.c (.bool false)) .done))))
 .ret)
 .skip)))
 (.reg (tq 40 (.faddr 1 (.t 5)) (tq 41 (.load 1 false (.t 40)) (tq 42 (.build [(.int .i64 0),(.int .i64 0),(.str [])] [(0,1,(.c (.int .i64 4))),(1,1,(.t 41))]) (.q ⟨none,none,.store 3 (.t 4) (.t 42)⟩
 .done)))))))
 .skip))))))))))
 (.cut (.seq (.reg (tq 43 (.load 3 true (.t 4)) (tq 44 (.load 3 true (.t 4)) (.l ⟨(some 45),none,.call 135 [(.t 44)]⟩ [⟨(some 43),none,.load 3 true (.t 4)⟩]
 (.l ⟨none,none,.store 3 (.t 2) (.t 43)⟩ []
 (tm 3 (.t 45) .done) .non) .non))))
 .ret)))))
theorem e4d:a1b Tryz.prog Tryz.f137 = some (e4c.erase,[.load 3 true (.t 2),.mov (.t 3)],46):=by kernel_rfl
def a5s (j_1:y7):Option (x8 × Bool) :=
    ((if (j_1.Kind == 2) then
    some (.go (1,j_1.N,[]))
    else
    if (j_1.Kind == 3) then
    some (.go (2,0,j_1.T))
    else
    if (j_1.Kind == 1) then
    some (.go (3,j_1.N,[]))
    else
    if (j_1.Kind == 4) then
    (a5o j_1 [117,117,105,100]).bind fun r_21 =>
    ((if (!r_21.2) then
    some true
    else
    some (r_21.1.Kind != 2):Option Bool)).bind fun s38_24 =>
    if s38_24 then
    some (.ret ((⟨0,0,[]⟩:x8),false))
    else
    some (.go (4,r_21.1.N,[]))
    else
    some (.go (0,0,[])):Option (Fl (x8 × Bool) (Int × Int × Str)))).bind fun q => (match q with
    | .ret r => some r
    | .go (x_13,x_14,x_15) =>
    (a6t (⟨x_13,x_14,x_15⟩:x8)).bind fun r_28 =>
    some ((⟨x_13,x_14,x_15⟩:x8),r_28))
theorem b5h (j_1:y7) (r:(x8 × Bool)) (hf:a5s j_1 = some r):y9 Tryz.prog 137 .flat [(o5 j_1)] (.tup [(l9 r.1),(.bool r.2)]):=by
 refine y9.of_awp mixed Tryz.func137 e4d nle ?_;rw [a0f];rw [y8 j_1];unfold a5s at hf;unfold e4c;refine (show awp Tryz.prog false 0 _ (ofL [(0,(.agg [(.int .i64 j_1.Kind),(.int .i64 j_1.N),(.str j_1.T),(.lst 1 (j_1.Keys.map AV.str)),(.lst 5 (j_1.Items.map o5))]))]) [] _ from ?_);refine sr<|o8 (a1g (j:=0) (c:=(.agg [(.int .i64 j_1.Kind),(.int .i64 j_1.N),(.str j_1.T),(.lst 1 (j_1.Keys.map AV.str)),(.lst 5 (j_1.Items.map o5))])) rfl trivial rfl rfl)<|o8 (a1g (j:=1) (c:=(.agg [(.int .i64 0),(.int .i64 0),(.str [])])) rfl trivial rfl rfl)<|l7 (.bool false) rfl<|dk<|sr<|o7 (.agg [(.int .i64 0),(.int .i64 0),(.str [])]) rfl trivial rfl<|?_
 refine o8 (a1g (j:=2) (c:=(.agg [(.int .i64 0),(.int .i64 0),(.str [])])) rfl trivial rfl rfl)<|a1i (x9 (v:=(.agg [(.int .i64 0),(.int .i64 0),(.str [])])) (y':=(.agg [(.int .i64 0),(.int .i64 0),(.str [])])) rfl rfl rfl trivial ⟨rfl,nle⟩ ⟨⟨rfl,trivial⟩,⟨⟨rfl,trivial⟩,⟨⟨rfl,trivial⟩,trivial⟩⟩⟩ rfl)<|dk<|o6<|?_
 obtain ⟨p16,hb1,hf⟩:=ob hf
 refine a4k (X:={q:(Int × Int × Str) // p16 = .go q}) (fun q => ([(2,(.ptr 0 0 0)),(4,(.ptr 1 0 0))],[.box 3 (.agg [(.int .i64 0),(.int .i64 0),(.str [])]),.box 3 (.agg [(.int .i64 q.1.1),(.int .i64 q.1.2.1),(.str q.1.2.2)])])) ?_ ?_
 ·refine sr<|o7 (.ptr 0 0 0) rfl trivial rfl<|o7 (.int .i64 j_1.Kind) rfl nle rfl<|dk<|a3s<|sr<|o7 (.bool (j_1.Kind == 2)) rfl rfl rfl<|l7 (.bool (j_1.Kind == 2)) rfl<|dk<|?_
  rcases oi hb1 with ⟨c17,hb1⟩ | ⟨c17,hb1⟩
  ·refine a0b rfl c17<|a0z<|o7 (.ptr 0 0 1) rfl trivial rfl<|o7 (.int .i64 j_1.N) rfl nle rfl<|o7 (.agg [(.int .i64 1),(.int .i64 j_1.N),(.str [])]) rfl ⟨⟨rfl,nle,trivial⟩,⟨⟨rfl,nle,trivial⟩,trivial⟩⟩ rfl<|a1i (x9 (v:=(.agg [(.int .i64 1),(.int .i64 j_1.N),(.str [])])) (y':=(.agg [(.int .i64 1),(.int .i64 j_1.N),(.str [])])) rfl rfl rfl trivial ⟨rfl,nle⟩ ⟨⟨rfl,trivial⟩,⟨⟨rfl,trivial⟩,⟨⟨rfl,trivial⟩,trivial⟩⟩⟩ rfl)<|a0e<|a3l<|?_;obtain rfl:=os hb1;exact a5z ⟨_,rfl⟩ ⟨[],[1,2],_,_,rfl,rfl,⟨.refl _,⟨.refl _,trivial⟩⟩,(.refl _)⟩
  ·refine a0c rfl (bf c17)<|sr<|o7 (.bool (j_1.Kind == 3)) rfl rfl rfl<|l7 (.bool (j_1.Kind == 3)) rfl<|dk<|?_
   rcases oi hb1 with ⟨c18,hb1⟩ | ⟨c18,hb1⟩
   ·refine a0b rfl c18<|a0z<|o7 (.ptr 0 0 2) rfl trivial rfl<|o7 (.str j_1.T) rfl nle rfl<|o7 (.agg [(.int .i64 2),(.int .i64 0),(.str j_1.T)]) rfl ⟨⟨rfl,nle,trivial⟩,⟨⟨rfl,nle,trivial⟩,trivial⟩⟩ rfl<|a1i (x9 (v:=(.agg [(.int .i64 2),(.int .i64 0),(.str j_1.T)])) (y':=(.agg [(.int .i64 2),(.int .i64 0),(.str j_1.T)])) rfl rfl rfl trivial ⟨rfl,nle⟩ ⟨⟨rfl,trivial⟩,⟨⟨rfl,trivial⟩,⟨⟨rfl,trivial⟩,trivial⟩⟩⟩ rfl)<|a0e<|a3l<|?_;obtain rfl:=os hb1;exact a5z ⟨_,rfl⟩ ⟨[],[1,2],_,_,rfl,rfl,⟨.refl _,⟨.refl _,trivial⟩⟩,(.refl _)⟩
   ·refine a0c rfl (bf c18)<|sr<|o7 (.bool (j_1.Kind == 1)) rfl rfl rfl<|l7 (.bool (j_1.Kind == 1)) rfl<|dk<|?_
    rcases oi hb1 with ⟨c19,hb1⟩ | ⟨c19,hb1⟩
    ·refine a0b rfl c19<|a0z<|o7 (.ptr 0 0 1) rfl trivial rfl<|o7 (.int .i64 j_1.N) rfl nle rfl<|o7 (.agg [(.int .i64 3),(.int .i64 j_1.N),(.str [])]) rfl ⟨⟨rfl,nle,trivial⟩,⟨⟨rfl,nle,trivial⟩,trivial⟩⟩ rfl<|a1i (x9 (v:=(.agg [(.int .i64 3),(.int .i64 j_1.N),(.str [])])) (y':=(.agg [(.int .i64 3),(.int .i64 j_1.N),(.str [])])) rfl rfl rfl trivial ⟨rfl,nle⟩ ⟨⟨rfl,trivial⟩,⟨⟨rfl,trivial⟩,⟨⟨rfl,trivial⟩,trivial⟩⟩⟩ rfl)<|a0e<|a3l<|?_;obtain rfl:=os hb1;exact a5z ⟨_,rfl⟩ ⟨[],[1,2],_,_,rfl,rfl,⟨.refl _,⟨.refl _,trivial⟩⟩,(.refl _)⟩
    ·refine a0c rfl (bf c19)<|sr<|o7 (.bool (j_1.Kind == 4)) rfl rfl rfl<|l7 (.bool (j_1.Kind == 4)) rfl<|dk<|?_
     rcases oi hb1 with ⟨c20,hb1⟩ | ⟨c20,hb1⟩
     ·refine a0b rfl c20<|sr<|?_
      obtain ⟨r_21,er22,hb1⟩:=ob hb1
      refine o7 (.agg [(.int .i64 j_1.Kind),(.int .i64 j_1.N),(.str j_1.T),(.lst 1 (j_1.Keys.map AV.str)),(.lst 5 (j_1.Items.map o5))]) rfl nle rfl<|o8 (c2x (v:=(.tup [(.agg [(.int .i64 r_21.1.Kind),(.int .i64 r_21.1.N),(.str r_21.1.T),(.lst 1 (r_21.1.Keys.map AV.str)),(.lst 5 (r_21.1.Items.map o5))]),(.bool r_21.2)])) rfl (b3b _ _ _ er22) rfl (.cons (.of_eq (y8 j_1).symm) (.cons (.refl _) .nil)) (by simp only [y8]) rfl)<|l7 (.tup [(.agg [(.int .i64 r_21.1.Kind),(.int .i64 r_21.1.N),(.str r_21.1.T),(.lst 1 (r_21.1.Keys.map AV.str)),(.lst 5 (r_21.1.Items.map o5))]),(.bool r_21.2)]) rfl<|o7 (.agg [(.int .i64 r_21.1.Kind),(.int .i64 r_21.1.N),(.str r_21.1.T),(.lst 1 (r_21.1.Keys.map AV.str)),(.lst 5 (r_21.1.Items.map o5))]) rfl nle rfl<|?_
      refine o7 (.bool r_21.2) rfl nle rfl<|o8 (a1g (j:=3) (c:=(.agg [(.int .i64 0),(.int .i64 0),(.str []),.nil,.nil])) rfl trivial rfl rfl)<|a1i (x9 (v:=(.agg [(.int .i64 r_21.1.Kind),(.int .i64 r_21.1.N),(.str r_21.1.T),(.lst 1 (r_21.1.Keys.map AV.str)),(.lst 5 (r_21.1.Items.map o5))])) (y':=(.agg [(.int .i64 r_21.1.Kind),(.int .i64 r_21.1.N),(.str r_21.1.T),(.lst 1 (r_21.1.Keys.map AV.str)),(.lst 5 (r_21.1.Items.map o5))])) rfl rfl rfl trivial ⟨rfl,nle⟩ ⟨⟨rfl,trivial⟩,⟨⟨rfl,trivial⟩,⟨⟨rfl,trivial⟩,⟨⟨rfl,trivial⟩,⟨⟨rfl,trivial⟩,trivial⟩⟩⟩⟩⟩ rfl)<|l7 (.bool r_21.2) rfl<|dk<|o6<|o6<|?_
      obtain ⟨s38_24,hb2,hb1⟩:=ob hb1
      refine a2v ([(2,(.ptr 0 0 0)),(4,(.ptr 1 0 0)),(5,(.ptr 2 0 0)),(38,(.bool s38_24))],[.box 3 (.agg [(.int .i64 0),(.int .i64 0),(.str [])]),.box 3 (.agg [(.int .i64 0),(.int .i64 0),(.str [])]),.box 5 (.agg [(.int .i64 r_21.1.Kind),(.int .i64 r_21.1.N),(.str r_21.1.T),(.lst 1 (r_21.1.Keys.map AV.str)),(.lst 5 (r_21.1.Items.map o5))])]) ?_ ?_
      ·refine a0z ?_
       rcases oi hb2 with ⟨c26,hb2⟩ | ⟨c26,hb2⟩
       ·refine l7 (.bool r_21.2) rfl<|o7 (.bool (!r_21.2)) rfl trivial rfl<|l7 (.bool (!r_21.2)) rfl<|a1k (s:=34) (b:=true) rfl c26<|a0a rfl rfl<|a0a rfl rfl<|a0a rfl rfl<|o7 (.bool true) rfl trivial rfl<|a0e<|?_;obtain rfl:=os hb2;exact ⟨[],[1,2,3],_,_,rfl,rfl,⟨.refl _,⟨.refl _,⟨.refl _,⟨.refl _,trivial⟩⟩⟩⟩,(.refl _)⟩
       ·refine l7 (.bool r_21.2) rfl<|o7 (.bool (!r_21.2)) rfl trivial rfl<|l7 (.bool (!r_21.2)) rfl<|a1k (s:=34) (b:=false) rfl (bf c26)<|s_on rfl<|o7 (.ptr 3 0 0) rfl trivial rfl<|s_on rfl<|o7 (.int .i64 r_21.1.Kind) rfl nle rfl<|s_on rfl<|o7 (.bool (r_21.1.Kind != 2)) rfl rfl rfl<|o7 (.bool (r_21.1.Kind != 2)) rfl trivial rfl<|a0e<|?_;obtain rfl:=os hb2;exact ⟨[],[1,2,3],_,_,rfl,rfl,⟨.refl _,⟨.refl _,⟨.refl _,⟨.refl _,trivial⟩⟩⟩⟩,(.refl _)⟩
      ·rcases oi hb1 with ⟨c27,hb1⟩ | ⟨c27,hb1⟩
       ·refine a0b rfl c27<|sr<|o7 (.agg [(.int .i64 0),(.int .i64 0),(.str [])]) rfl trivial rfl<|a1i (x9 (v:=(.agg [(.int .i64 0),(.int .i64 0),(.str [])])) (y':=(.agg [(.int .i64 0),(.int .i64 0),(.str [])])) rfl rfl rfl trivial ⟨rfl,nle⟩ ⟨⟨rfl,trivial⟩,⟨⟨rfl,trivial⟩,⟨⟨rfl,trivial⟩,trivial⟩⟩⟩ rfl)<|l7 (.bool false) rfl<|dk<|a0d<|?_;obtain rfl:=os hb1;obtain rfl:=os hf;exact a0m ⟨nle,⟨trivial,trivial⟩⟩ rfl (.refl _)
       ·refine a0c rfl (bf c27)<|a0i<|a0h<|a0z<|o7 (.ptr 2 0 1) rfl trivial rfl<|o7 (.int .i64 r_21.1.N) rfl nle rfl<|o7 (.agg [(.int .i64 4),(.int .i64 r_21.1.N),(.str [])]) rfl ⟨⟨rfl,nle,trivial⟩,⟨⟨rfl,nle,trivial⟩,trivial⟩⟩ rfl<|a1i (x9 (v:=(.agg [(.int .i64 4),(.int .i64 r_21.1.N),(.str [])])) (y':=(.agg [(.int .i64 4),(.int .i64 r_21.1.N),(.str [])])) rfl rfl rfl trivial ⟨rfl,nle⟩ ⟨⟨rfl,trivial⟩,⟨⟨rfl,trivial⟩,⟨⟨rfl,trivial⟩,trivial⟩⟩⟩ rfl)<|a0e<|a3l<|?_;obtain rfl:=os hb1;exact a5z ⟨_,rfl⟩ ⟨[],[0,1],_,_,rfl,rfl,⟨.refl _,⟨.refl _,trivial⟩⟩,(.refl _)⟩
     ·refine a0c rfl (bf c20)<|a0i<|a3l<|?_;obtain rfl:=os hb1;exact a5z ⟨_,rfl⟩ ⟨[],[1,2],_,_,rfl,rfl,⟨.refl _,⟨.refl _,trivial⟩⟩,(.refl _)⟩
 ·rintro ⟨⟨x_13,x_14,x_15⟩,rfl⟩
  refine sr<|?_
  obtain ⟨r_28,er29,hf⟩:=ob hf
  refine o7 (.agg [(.int .i64 x_13),(.int .i64 x_14),(.str x_15)]) rfl nle rfl<|o7 (.agg [(.int .i64 x_13),(.int .i64 x_14),(.str x_15)]) rfl nle rfl<|a1r (a1f (b1k _ _ er29) rfl (.refl _) rfl) a9t trivial<|a6g (x9 (v:=(.agg [(.int .i64 x_13),(.int .i64 x_14),(.str x_15)])) (y':=(.agg [(.int .i64 x_13),(.int .i64 x_14),(.str x_15)])) rfl rfl rfl trivial ⟨rfl,nle⟩ ⟨⟨rfl,trivial⟩,⟨⟨rfl,trivial⟩,⟨⟨rfl,trivial⟩,trivial⟩⟩⟩ rfl) trivial trivial<|l7 (.bool r_28) rfl<|dk<|a0d<|?_;obtain rfl:=os hf;exact a0m ⟨nle,⟨trivial,trivial⟩⟩ rfl (.refl _)

/- slices.Clone[[]impl.Atom,impl.Atom] -/
def e4e:a0p :=
 (.seq (.reg (tm 2 (.c .nil) .done))
 (.seq (.seq (.reg (tm 3 (.t 0) (tq 4 (.isnil false (.t 3)) .done)))
 (.cond (.t 4) (.seq (.reg (tm 2 (.c .nil) .done))
 .ret)
 .skip))
 (.seq (.reg (tq 5 (.bslice 3 []) (tm 6 (.t 0) (tq 7 (.append 3 32 (.t 5) (.t 6)) (tm 2 (.t 7) .done)))))
 .ret)))
theorem e4f:a1b Tryz.prog Tryz.f244 = some (e4e.erase,[.mov (.t 2)],8):=by kernel_rfl
def a3u (s_1:(List x8)):Option (List x8) :=
    if ([] ++ s_1).length ≤ 2 ^ 30 then
    some ([] ++ s_1)
    else none
theorem a9v (s_1:(List x8)) (r:(List x8)) (hf:a3u s_1 = some r):y9 Tryz.prog 244 .fresh [(.lst 3 (s_1.map l9))] (.lst 3 (r.map l9)):=by
 refine y9.of_awp mixed Tryz.func244 e4f nle ?_;rw [a0f];unfold a3u at hf;unfold e4e;refine (show awp Tryz.prog true 0 _ (ofL [(0,(.lst 3 (s_1.map l9)))]) [] _ from ?_);refine sr<|l7 .nil rfl<|dk<|o6<|sr<|l7 (.lst 3 (s_1.map l9)) rfl<|e0o (l:=s_1.map l9) rfl<|?_
 intro b hb3
 rcases b with _ | _
 ·refine dk<|a0c rfl rfl<|a0i<|a0h<|sr<|?_
  obtain ⟨g2,hf⟩:=og hf
  refine o8 (a1c (j:=0) (as':=[]) rfl (fun _ => by decide) trivial (.refl _) rfl rfl rfl) ?_;refine l7 (.lst 3 (s_1.map l9)) rfl ?_
  refine o8 (a2a (j:=1) (L:=(([] ++ s_1).map l9)) (len:=([] ++ s_1).length) rfl false rfl rfl (fun _ => flm (fun _ => rfl) _) (fun _ _ _ => flm (fun _ => rfl) _) (by decide) ((by simp)) (by simp <;> omega) g2 rfl rfl) ?_
  refine l7 (.own 1 0 (([] ++ s_1).length)) rfl<|dk<|a0d<|?_;obtain rfl:=os hf;exact a1j ⟨trivial,trivial⟩ rfl (by decide) (.of_eq (congrArg (AV.lst _) (tk (enc:=l9) ([] ++ s_1))))
 ·have he4:s_1 = []:=d7b (hb3 rfl)
  have hE:(if ([] ++ s_1).length ≤ 2 ^ 30 then some ([] ++ s_1) else none) = (some []):=by simp [he4]
  rw [hE] at hf;refine dk<|a0b rfl rfl<|sr<|l7 .nil rfl<|dk<|a0d<|?_;obtain rfl:=os hf;exact a1j ⟨trivial,trivial⟩ rfl (by decide) (.nil _)

/- math/bits.Len64 -/
def e4g:a0p :=
 (.seq (.reg (tm 2 (.c (.int .i64 0)) .done))
 (.seq (.seq (.reg (tm 3 (.t 0) (tq 4 (.bin .geq (.t 3) (.c (.int .u64 4294967296))) .done)))
 (.cond (.t 4) (.seq (.reg (tm 5 (.t 0) (tq 6 (.bin .shr (.t 5) (.c (.int .u64 32))) (tm 0 (.t 6) .done))))
 (.reg (tm 2 (.c (.int .i64 32)) .done)))
 .skip))
 (.cut (.seq (.seq (.reg (tm 7 (.t 0) (tq 8 (.bin .geq (.t 7) (.c (.int .u64 65536))) .done)))
 (.cond (.t 8) (.seq (.reg (tm 9 (.t 0) (tq 10 (.bin .shr (.t 9) (.c (.int .u64 16))) (tm 0 (.t 10) .done))))
 (.reg (tm 11 (.t 2) (tq 12 (.bin .add (.t 11) (.c (.int .i64 16))) (tm 2 (.t 12) .done)))))
 .skip))
 (.cut (.seq (.seq (.reg (tm 13 (.t 0) (tq 14 (.bin .geq (.t 13) (.c (.int .u64 256))) .done)))
 (.cond (.t 14) (.seq (.reg (tm 15 (.t 0) (tq 16 (.bin .shr (.t 15) (.c (.int .u64 8))) (tm 0 (.t 16) .done))))
 (.reg (tm 17 (.t 2) (tq 18 (.bin .add (.t 17) (.c (.int .i64 8))) (tm 2 (.t 18) .done)))))
 .skip))
 (.seq (.reg (tm 19 (.t 2) (tm 20 (.t 0) (tq 21 (.convI .u8 (.t 20)) (tq 22 (.idxs (.c (.str [0,1,2,2,3,3,3,3,4,4,4,4,4,4,4,4,5,5,5,5,5,5,5,5,5,5,5,5,5,5,5,5,6,6,6,6,6,6,6,6,6,6,6,6,6,6,6,6,6,6,6,6,6,6,6,6,6,6,6,6,6,6,6,6,7,7,7,7,7,7,7,7,7,7,7,7,7,7,7,7,7,7,7,7,7,7,7,7,7,7,7,7,7,7,7,7,7,7,7,7,7,7,7,7,7,7,7,7,7,7,7,7,7,7,7,7,7,7,7,7,7,7,7,7,7,7,7,7,8,8,8,8,8,8,8,8,8,8,8,8,8,8,8,8,8,8,8,8,8,8,8,8,8,8,8,8,8,8,8,8,8,8,8,8,8,8,8,8,8,8,8,8,8,8,8,8,8,8,8,8,8,8,8,8,8,8,8,8,8,8,8,8,8,8,8,8,8,8,8,8,8,8,8,8,8,8,8,8,8,8,8,8,8,8,8,8,8,8,8,8,8,8,8,8,8,8,8,8,8,8,8,8,8,8,8,8,8,8,8,8,8,8,8,8,8,8,8,8,8,8,8,8,8,8,8,8])) (.t 21)) (tq 23 (.convI .i64 (.t 22)) (tq 24 (.bin .add (.t 19) (.t 23)) (tm 2 (.t 24) .done))))))))
 .ret)))))))
theorem e4h:a1b Tryz.prog Tryz.f345 = some (e4g.erase,[.mov (.t 2)],25):=by kernel_rfl
def b2c (x_1:Int):Option Int :=
    ((if (decide (x_1 ≥ 4294967296)) then
    some (Int.fdiv x_1 (2 ^ (min (Int.toNat 32) (IntKind.bits .u64))),32)
    else
    some (x_1,0):Option (Int × Int))).bind fun p5 =>
    (match p5 with
    | (x_3,n_4) =>
    ((if (decide (x_3 ≥ 65536)) then
    some (Int.fdiv x_3 (2 ^ (min (Int.toNat 16) (IntKind.bits .u64))),w64 (n_4 + 16))
    else
    some (x_3,n_4):Option (Int × Int))).bind fun p10 =>
    (match p10 with
    | (x_8,n_9) =>
    if (decide (x_8 ≥ 256)) then
    (idx ([0,1,2,2,3,3,3,3,4,4,4,4,4,4,4,4,5,5,5,5,5,5,5,5,5,5,5,5,5,5,5,5,6,6,6,6,6,6,6,6,6,6,6,6,6,6,6,6,6,6,6,6,6,6,6,6,6,6,6,6,6,6,6,6,7,7,7,7,7,7,7,7,7,7,7,7,7,7,7,7,7,7,7,7,7,7,7,7,7,7,7,7,7,7,7,7,7,7,7,7,7,7,7,7,7,7,7,7,7,7,7,7,7,7,7,7,7,7,7,7,7,7,7,7,7,7,7,7,8,8,8,8,8,8,8,8,8,8,8,8,8,8,8,8,8,8,8,8,8,8,8,8,8,8,8,8,8,8,8,8,8,8,8,8,8,8,8,8,8,8,8,8,8,8,8,8,8,8,8,8,8,8,8,8,8,8,8,8,8,8,8,8,8,8,8,8,8,8,8,8,8,8,8,8,8,8,8,8,8,8,8,8,8,8,8,8,8,8,8,8,8,8,8,8,8,8,8,8,8,8,8,8,8,8,8,8,8,8,8,8,8,8,8,8,8,8,8,8,8,8,8,8,8,8,8,8]:Str) (IntKind.u8.wrap (Int.fdiv x_8 (2 ^ (min (Int.toNat 8) (IntKind.bits .u64)))))).bind fun b_13 =>
    some (w64 ((w64 (n_9 + 8)) + (w64 (b_13.toNat:Int))))
    else
    (idx ([0,1,2,2,3,3,3,3,4,4,4,4,4,4,4,4,5,5,5,5,5,5,5,5,5,5,5,5,5,5,5,5,6,6,6,6,6,6,6,6,6,6,6,6,6,6,6,6,6,6,6,6,6,6,6,6,6,6,6,6,6,6,6,6,7,7,7,7,7,7,7,7,7,7,7,7,7,7,7,7,7,7,7,7,7,7,7,7,7,7,7,7,7,7,7,7,7,7,7,7,7,7,7,7,7,7,7,7,7,7,7,7,7,7,7,7,7,7,7,7,7,7,7,7,7,7,7,7,8,8,8,8,8,8,8,8,8,8,8,8,8,8,8,8,8,8,8,8,8,8,8,8,8,8,8,8,8,8,8,8,8,8,8,8,8,8,8,8,8,8,8,8,8,8,8,8,8,8,8,8,8,8,8,8,8,8,8,8,8,8,8,8,8,8,8,8,8,8,8,8,8,8,8,8,8,8,8,8,8,8,8,8,8,8,8,8,8,8,8,8,8,8,8,8,8,8,8,8,8,8,8,8,8,8,8,8,8,8,8,8,8,8,8,8,8,8,8,8,8,8,8,8,8,8,8,8]:Str) (IntKind.u8.wrap x_8)).bind fun b_15 =>
    some (w64 (n_9 + (w64 (b_15.toNat:Int))))))
theorem b9k (x_1:Int) (r:Int) (hf:b2c x_1 = some r):y9 Tryz.prog 345 .flat [(.int .u64 x_1)] (.int .i64 r):=by
 refine y9.of_awp mixed Tryz.func345 e4h nle ?_;rw [a0f];unfold b2c at hf;unfold e4g;refine (show awp Tryz.prog false 0 _ (ofL [(0,(.int .u64 x_1))]) [] _ from ?_);refine sr<|l7 (.int .i64 0) rfl<|dk<|o6<|?_
 obtain ⟨p5,hb1,hf⟩:=ob hf
 refine a2v ([(0,(.int .u64 p5.1)),(2,(.int .i64 p5.2))],[]) ?_ ?_
 ·refine sr<|l7 (.int .u64 x_1) rfl<|o7 (.bool (decide (x_1 ≥ 4294967296))) rfl rfl rfl<|dk<|?_
  rcases oi hb1 with ⟨c6,hb1⟩ | ⟨c6,hb1⟩
  ·refine a0b rfl c6<|sr<|l7 (.int .u64 x_1) rfl<|?_;refine o8 (o_q (.int .u64 (Int.fdiv x_1 (2 ^ (min (Int.toNat 32) (IntKind.bits .u64))))) rfl (show (0:Int) ≤ 32 by decide) rfl) ?_;refine l7 (.int .u64 (Int.fdiv x_1 (2 ^ (min (Int.toNat 32) (IntKind.bits .u64))))) rfl<|dk<|a0z<|l7 (.int .i64 32) rfl<|a0e<|?_;obtain rfl:=os hb1;exact ⟨[],[],_,_,rfl,rfl,⟨.refl _,⟨.refl _,trivial⟩⟩,(.refl _)⟩
  ·refine a0c rfl (bf c6)<|a0i<|?_;obtain rfl:=os hb1;exact ⟨[],[],_,_,rfl,rfl,⟨.refl _,⟨.refl _,trivial⟩⟩,(.refl _)⟩
 ·obtain ⟨x_3,n_4⟩:=p5
  refine o6 ?_
  obtain ⟨p10,hb1,hf⟩:=ob hf
  refine a2v ([(0,(.int .u64 p10.1)),(2,(.int .i64 p10.2))],[]) ?_ ?_
  ·refine sr<|l7 (.int .u64 x_3) rfl<|o7 (.bool (decide (x_3 ≥ 65536))) rfl rfl rfl<|dk<|?_
   rcases oi hb1 with ⟨c11,hb1⟩ | ⟨c11,hb1⟩
   ·refine a0b rfl c11<|sr<|l7 (.int .u64 x_3) rfl<|?_;refine o8 (o_q (.int .u64 (Int.fdiv x_3 (2 ^ (min (Int.toNat 16) (IntKind.bits .u64))))) rfl (show (0:Int) ≤ 16 by decide) rfl) ?_;refine l7 (.int .u64 (Int.fdiv x_3 (2 ^ (min (Int.toNat 16) (IntKind.bits .u64))))) rfl<|dk<|a0z<|l7 (.int .i64 n_4) rfl<|o7 (.int .i64 (w64 (n_4 + 16))) rfl rfl rfl<|l7 (.int .i64 (w64 (n_4 + 16))) rfl<|a0e<|?_;obtain rfl:=os hb1;exact ⟨[],[],_,_,rfl,rfl,⟨.refl _,⟨.refl _,trivial⟩⟩,(.refl _)⟩
   ·refine a0c rfl (bf c11)<|a0i<|?_;obtain rfl:=os hb1;exact ⟨[],[],_,_,rfl,rfl,⟨.refl _,⟨.refl _,trivial⟩⟩,(.refl _)⟩
  ·obtain ⟨x_8,n_9⟩:=p10
   refine o6<|sr<|l7 (.int .u64 x_8) rfl<|o7 (.bool (decide (x_8 ≥ 256))) rfl rfl rfl<|dk<|?_
   rcases oi hf with ⟨c12,hf⟩ | ⟨c12,hf⟩
   ·refine a0b rfl c12<|sr<|l7 (.int .u64 x_8) rfl<|?_;refine o8 (o_q (.int .u64 (Int.fdiv x_8 (2 ^ (min (Int.toNat 8) (IntKind.bits .u64))))) rfl (show (0:Int) ≤ 8 by decide) rfl) ?_;refine l7 (.int .u64 (Int.fdiv x_8 (2 ^ (min (Int.toNat 8) (IntKind.bits .u64))))) rfl<|dk<|a0z<|l7 (.int .i64 n_9) rfl<|o7 (.int .i64 (w64 (n_9 + 8))) rfl rfl rfl<|l7 (.int .i64 (w64 (n_9 + 8))) rfl<|dk<|sr<|?_
    obtain ⟨b_13,eb14,hf⟩:=ob hf
    refine l7 (.int .i64 (w64 (n_9 + 8))) rfl<|l7 (.int .u64 (Int.fdiv x_8 (2 ^ (min (Int.toNat 8) (IntKind.bits .u64))))) rfl<|o7 (.int .u8 (IntKind.u8.wrap (Int.fdiv x_8 (2 ^ (min (Int.toNat 8) (IntKind.bits .u64)))))) rfl trivial rfl<|o8 (d2o rfl rfl (b2x eb14) (b2y eb14))<|o7 (.int .i64 (w64 (b_13.toNat:Int))) rfl trivial rfl<|o7 (.int .i64 (w64 ((w64 (n_9 + 8)) + (w64 (b_13.toNat:Int))))) rfl rfl rfl<|l7 (.int .i64 (w64 ((w64 (n_9 + 8)) + (w64 (b_13.toNat:Int))))) rfl<|dk<|a0d<|?_;obtain rfl:=os hf;exact a0m ⟨trivial,trivial⟩ rfl (.refl _)
   ·refine a0c rfl (bf c12)<|a0i<|a0h<|sr<|?_
    obtain ⟨b_15,eb16,hf⟩:=ob hf
    refine l7 (.int .i64 n_9) rfl<|l7 (.int .u64 x_8) rfl<|o7 (.int .u8 (IntKind.u8.wrap x_8)) rfl trivial rfl<|o8 (d2o rfl rfl (b2x eb16) (b2y eb16))<|o7 (.int .i64 (w64 (b_15.toNat:Int))) rfl trivial rfl<|o7 (.int .i64 (w64 (n_9 + (w64 (b_15.toNat:Int))))) rfl rfl rfl<|l7 (.int .i64 (w64 (n_9 + (w64 (b_15.toNat:Int))))) rfl<|dk<|a0d<|?_;obtain rfl:=os hf;exact a0m ⟨trivial,trivial⟩ rfl (.refl _)

/- math/bits.Len -/
def e4i:a0p :=
 (.seq (.reg (tm 2 (.c (.int .i64 0)) .done))
 (.seq (.cond (.c (.bool false)) (.seq (.reg (tm 3 (.t 0) (tq 4 (.convI .u32 (.t 3)) (tq 5 (.call 344 [(.t 4)]) (tm 2 (.t 5) .done)))))
 .ret)
 .skip)
 (.seq (.reg (tm 6 (.t 0) (tq 7 (.call 345 [(.t 6)]) (tm 2 (.t 7) .done))))
 .ret)))
theorem e4j:a1b Tryz.prog Tryz.f288 = some (e4i.erase,[.mov (.t 2)],8):=by kernel_rfl
def a6z (x_1:Int):Option Int :=
    (b2c x_1).bind fun r_2 =>
    some r_2
theorem b5i (x_1:Int) (r:Int) (hf:a6z x_1 = some r):y9 Tryz.prog 288 .flat [(.int .u64 x_1)] (.int .i64 r):=by
  refine y9.of_awp mixed Tryz.func288 e4j nle ?_
  rw [a0f]
  unfold a6z at hf
  unfold e4i
  refine (show awp Tryz.prog false 0 _ (ofL [(0,(.int .u64 x_1))]) [] _ from ?_)
  refine o6 ?_
  refine a0z ?_
  refine o8 (a2z (.int .i64 0) rfl) ?_
  refine a0e ?_
  refine a0h ?_
  refine o6 ?_
  refine d7c ?_
  refine a0i ?_
  refine a0h ?_
  refine o6 ?_
  refine a0z ?_
  obtain ⟨r_2,er3,hf⟩:=ob hf
  refine o8 (a2z (.int .u64 x_1) rfl) ?_
  refine o8 (a1f (b9k _ _ er3) rfl (.refl _) rfl) ?_
  refine o8 (a2z (.int .i64 r_2) rfl) ?_
  refine a0e ?_
  refine a0h ?_
  refine a0d ?_
  obtain rfl:=os hf
  exact a0m ⟨trivial,trivial⟩ rfl (.refl _)

/- slices.insertionSortCmpFunc[impl.Atom] -/
def d4b:a0p :=
 (.seq (.reg (tm 10 (.t 1) (tq 11 (.bin .add (.t 10) (.c (.int .i64 1))) (tm 8 (.t 11) .done))))
 (.block 0 (.loop (.seq (.seq (.reg (tm 12 (.t 8) (tm 13 (.t 2) (tq 14 (.bin .lss (.t 12) (.t 13)) .done))))
 (.cond (.t 14) .skip
 (.exit 0)))
 (.seq (.block 1 (.seq (.reg (tm 17 (.t 8) (tm 9 (.t 17) .done)))
 (.block 2 (.loop (.seq (.seq (.reg (tm 18 (.t 9) (tm 19 (.t 1) (tq 20 (.bin .gtr (.t 18) (.t 19)) (tm 21 (.t 20) (tg 22 21 true (.mov (.t 3)) (tg 23 21 true (.mov (.t 0)) (tg 24 21 true (.mov (.t 9)) (tg 25 21 true (.iaddr 3 (.t 23) (.t 24)) (tg 26 21 true (.load 3 true (.t 25)) (tg 27 21 true (.mov (.t 0)) (tg 28 21 true (.mov (.t 9)) (tg 29 21 true (.bin .sub (.t 28) (.c (.int .i64 1))) (tg 30 21 true (.iaddr 3 (.t 27) (.t 29)) (tg 31 21 true (.load 3 true (.t 30)) (.l ⟨(some 32),(some (21,true)),.calv (.t 22) [(.t 26),(.t 31)]⟩ []
 (tg 33 21 true (.bin .lss (.t 32) (.c (.int .i64 0))) (tq 34 (.pick (.t 21) (.t 33) (.c (.bool false))) .done)) .non))))))))))))))))
 (.cut (.cond (.t 34) .skip
 (.exit 2))))
 (.seq (.block 3 (.reg (tm 37 (.t 0) (tm 38 (.t 9) (tm 39 (.t 0) (tm 40 (.t 9) (tq 41 (.bin .sub (.t 40) (.c (.int .i64 1))) (tm 42 (.t 0) (tm 43 (.t 9) (tq 44 (.bin .sub (.t 43) (.c (.int .i64 1))) (tq 45 (.iaddr 3 (.t 42) (.t 44)) (tq 46 (.load 3 true (.t 45)) (tm 47 (.t 0) (tm 48 (.t 9) (tq 49 (.iaddr 3 (.t 47) (.t 48)) (tq 50 (.load 3 true (.t 49)) (tq 51 (.iaddr 3 (.t 37) (.t 38)) (.l ⟨none,none,.store 3 (.t 51) (.t 46)⟩ []
 (tq 52 (.iaddr 3 (.t 39) (.t 41)) (.l ⟨none,none,.store 3 (.t 52) (.t 50)⟩ []
 .done .non)) .non))))))))))))))))))
 (.reg (tm 35 (.t 9) (tq 36 (.bin .sub (.t 35) (.c (.int .i64 1))) (tm 9 (.t 36) .done))))))))))
 (.cut (.reg (tm 15 (.t 8) (tq 16 (.bin .add (.t 15) (.c (.int .i64 1))) (tm 8 (.t 16) .done))))))))))
theorem d8b:a1b Tryz.prog Tryz.f399 = some (d4b.erase,[],53):=by kernel_rfl
def a0v (a_2:Int):Nat → Int → (List x8) → Option (List x8)
  | 0,_,_ => none
  | k + 1,j_864,data_865 =>
    ((if (decide (j_864 > a_2)) then
    if (0:Int) ≤ j_864 ∧ j_864 < (data_865.length:Int) then
    (data_865[(0 + j_864.toNat)]?).bind fun x_912 =>
    if (0:Int) ≤ w64 (j_864 - 1) ∧ w64 (j_864 - 1) < (data_865.length:Int) then
    (data_865[(0 + (w64 (j_864 - 1)).toNat)]?).bind fun x_915 =>
    (a5c x_912 x_915).bind fun r_917 =>
    some (decide (r_917 < 0))
    else none
    else none
    else
    some false:Option Bool)).bind fun s34_908 =>
    if s34_908 then
    if (0:Int) ≤ w64 (j_864 - 1) ∧ w64 (j_864 - 1) < (data_865.length:Int) then
    (data_865[(0 + (w64 (j_864 - 1)).toNat)]?).bind fun x_921 =>
    if (0:Int) ≤ j_864 ∧ j_864 < (data_865.length:Int) then
    (data_865[(0 + j_864.toNat)]?).bind fun x_924 =>
    if (0:Int) ≤ j_864 ∧ j_864 < (data_865.length:Int) then
    if (0:Int) ≤ w64 (j_864 - 1) ∧ w64 (j_864 - 1) < (data_865.length:Int) then
    ((data_865.set (0 + j_864.toNat) x_921)[(0 + (w64 (j_864 - 1)).toNat)]?).bind fun x_928 =>
    a0v a_2 k (w64 (j_864 - 1)) ((data_865.set (0 + j_864.toNat) x_921).set (0 + (w64 (j_864 - 1)).toNat) x_924)
    else none
    else none
    else none
    else none
    else
    some data_865

def a0o (b_3:Int) (a_2:Int):Nat → Int → (List x8) → Option (List x8)
  | 0,_,_ => none
  | k + 1,i_665,data_666 =>
    if (decide (i_665 < b_3)) then
    (a0v a_2 FUEL i_665 data_666).bind fun data_897 =>
    a0o b_3 a_2 k (w64 (i_665 + 1)) data_897
    else
    some data_666

def a1w (data_1:(List x8)) (a_2:Int) (b_3:Int):Option (List x8) :=
    a0o b_3 a_2 FUEL (w64 (a_2 + 1)) data_1
theorem a7t (data_1:(List x8)) (a_2:Int) (b_3:Int) (r:(List x8)) (hf:a1w data_1 a_2 b_3 = some r):a0j Tryz.prog true 399 [(.own 0 0 data_1.length),(.int .i64 a_2),(.int .i64 b_3),(.fn 227 [])] [.row 3 (data_1.map l9)] (.tup []) [.row 3 (r.map l9)]:=by
 refine a0j.of_awp mixed Tryz.func399 d8b nle ?_;rw [a0f];unfold a1w at hf;unfold d4b;refine (show awp Tryz.prog true 1 _ (ofL [(0,(.own 0 0 data_1.length)),(1,(.int .i64 a_2)),(2,(.int .i64 b_3)),(3,(.fn 227 []))]) [.row 3 (data_1.map l9)] _ from ?_);refine sr<|l7 (.int .i64 a_2) rfl<|o7 (.int .i64 (w64 (a_2 + 1))) rfl rfl rfl<|l7 (.int .i64 (w64 (a_2 + 1))) rfl<|dk<|?_;refine a1v (X:={q:(Nat × Int × (List x8)) // a0o b_3 a_2 q.1 q.2.1 q.2.2 = some r}) (fun q => ([(0,(.own 0 0 q.1.2.2.length)),(1,(.int .i64 a_2)),(2,(.int .i64 b_3)),(3,(.fn 227 [])),(8,(.int .i64 q.1.2.1))],[.row 3 (q.1.2.2.map l9)])) (fun q => q.1.1) ⟨(FUEL,w64 (a_2 + 1),data_1),hf⟩ ⟨[],[0],_,_,rfl,rfl,⟨.refl _,⟨.refl _,⟨.refl _,⟨.refl _,⟨.refl _,trivial⟩⟩⟩⟩⟩,(.refl _)⟩ ?_
 rintro ⟨⟨k,i_665,data_666⟩,hc1⟩
 have hc1:a0o b_3 a_2 k i_665 data_666 = some r:=hc1
 refine (show awp Tryz.prog true 1 _ (ofL [(0,(.own 0 0 data_666.length)),(1,(.int .i64 a_2)),(2,(.int .i64 b_3)),(3,(.fn 227 [])),(8,(.int .i64 i_665))]) [.row 3 (data_666.map l9)] _ from ?_)
 rcases k with _ | k
 ·rw [a0o.eq_1] at hc1
  cases hc1
 ·rw [a0o.eq_2] at hc1;refine o6<|sr<|l7 (.int .i64 i_665) rfl<|l7 (.int .i64 b_3) rfl<|o7 (.bool (decide (i_665 < b_3))) rfl rfl rfl<|dk<|?_
  rcases oi hc1 with ⟨c799,hc1⟩ | ⟨c799,hc1⟩
  ·refine a0b rfl c799<|a0i<|a0h<|o6<|a3s<|sr<|l7 (.int .i64 i_665) rfl<|l7 (.int .i64 i_665) rfl<|dk<|?_
   obtain ⟨data_897,hb1,hc1⟩:=ob hc1
   refine d0u ([(0,(.own 0 0 data_897.length)),(1,(.int .i64 a_2)),(2,(.int .i64 b_3)),(3,(.fn 227 [])),(8,(.int .i64 i_665))],[.row 3 (data_897.map l9)]) ?_ ?_
   ·refine a1v (X:={q:(Nat × Int × (List x8)) // a0v a_2 q.1 q.2.1 q.2.2 = some data_897}) (fun q => ([(0,(.own 0 0 q.1.2.2.length)),(1,(.int .i64 a_2)),(2,(.int .i64 b_3)),(3,(.fn 227 [])),(8,(.int .i64 i_665)),(9,(.int .i64 q.1.2.1))],[.row 3 (q.1.2.2.map l9)])) (fun q => q.1.1) ⟨(FUEL,i_665,data_666),hb1⟩ ⟨[],[0],_,_,rfl,rfl,⟨.refl _,⟨.refl _,⟨.refl _,⟨.refl _,⟨.refl _,⟨.refl _,trivial⟩⟩⟩⟩⟩⟩,(.refl _)⟩ ?_
    rintro ⟨⟨k,j_864,data_865⟩,hc1⟩
    have hc1:a0v a_2 k j_864 data_865 = some data_897:=hc1
    refine (show awp Tryz.prog true 1 _ (ofL [(0,(.own 0 0 data_865.length)),(1,(.int .i64 a_2)),(2,(.int .i64 b_3)),(3,(.fn 227 [])),(8,(.int .i64 i_665)),(9,(.int .i64 j_864))]) [.row 3 (data_865.map l9)] _ from ?_)
    rcases k with _ | k
    ·rw [a0v.eq_1] at hc1
     cases hc1
    ·rw [a0v.eq_2] at hc1;refine o6<|o6<|?_
     obtain ⟨s34_908,hb2,hc1⟩:=ob hc1
     refine a2v ([(0,(.own 0 0 data_865.length)),(1,(.int .i64 a_2)),(2,(.int .i64 b_3)),(3,(.fn 227 [])),(8,(.int .i64 i_665)),(9,(.int .i64 j_864)),(34,(.bool s34_908))],[.row 3 (data_865.map l9)]) ?_ ?_
     ·refine a0z<|l7 (.int .i64 j_864) rfl<|l7 (.int .i64 a_2) rfl<|o7 (.bool (decide (j_864 > a_2))) rfl rfl rfl<|l7 (.bool (decide (j_864 > a_2))) rfl<|?_
      rcases oi hb2 with ⟨c910,hb2⟩ | ⟨c910,hb2⟩
      ·refine a1k (s:=21) (b:=true) rfl c910<|s_on rfl<|l7 (.fn 227 []) rfl<|s_on rfl<|l7 (.own 0 0 data_865.length) rfl<|s_on rfl<|l7 (.int .i64 j_864) rfl<|s_on rfl<|?_
       obtain ⟨g911,hb2⟩:=og hb2
       refine o8 (a2i rfl rfl g911.1 g911.2 rfl rfl)<|s_on rfl<|?_
       obtain ⟨x_912,ex913,hb2⟩:=ob hb2
       refine o8 (a3r (enc:=l9) (v:=(l9 x_912)) rfl rfl ex913 nle rfl)<|s_on rfl<|l7 (.own 0 0 data_865.length) rfl<|s_on rfl<|l7 (.int .i64 j_864) rfl<|s_on rfl<|o7 (.int .i64 (w64 (j_864 - 1))) rfl rfl rfl<|s_on rfl<|?_
       obtain ⟨g914,hb2⟩:=og hb2
       refine o8 (a2i rfl rfl g914.1 g914.2 rfl rfl)<|s_on rfl<|?_
       obtain ⟨x_915,ex916,hb2⟩:=ob hb2
       refine o8 (a3r (enc:=l9) (v:=(l9 x_915)) rfl rfl ex916 nle rfl)<|d0v rfl<|?_
       obtain ⟨r_917,er918,hb2⟩:=ob hb2
       refine a1r (d9u (v:=(.int .i64 r_917)) rfl (by kernel_rfl) (b2f _ _ _ er918) rfl rfl (.refl _) rfl) a9t trivial<|s_on rfl<|o7 (.bool (decide (r_917 < 0))) rfl rfl rfl<|o7 (.bool (decide (r_917 < 0))) rfl trivial rfl<|a0e<|?_;obtain rfl:=os hb2;exact ⟨[],[0],_,_,rfl,rfl,⟨.refl _,⟨.refl _,⟨.refl _,⟨.refl _,⟨.refl _,⟨.refl _,⟨.refl _,trivial⟩⟩⟩⟩⟩⟩⟩,(.refl _)⟩
      ·refine a1k (s:=21) (b:=false) rfl (bf c910)<|a0a rfl rfl<|a0a rfl rfl<|a0a rfl rfl<|a0a rfl rfl<|a0a rfl rfl<|a0a rfl rfl<|a0a rfl rfl<|a0a rfl rfl<|a0a rfl rfl<|a0a rfl rfl<|c4i rfl rfl trivial<|a0a rfl rfl<|o7 (.bool false) rfl trivial rfl<|a0e<|?_;obtain rfl:=os hb2;exact ⟨[],[0],_,_,rfl,rfl,⟨.refl _,⟨.refl _,⟨.refl _,⟨.refl _,⟨.refl _,⟨.refl _,⟨.refl _,trivial⟩⟩⟩⟩⟩⟩⟩,(.refl _)⟩
     ·rcases oi hc1 with ⟨c919,hc1⟩ | ⟨c919,hc1⟩
      ·refine a0b rfl c919<|a0i<|a0h<|o6<|a3s<|a0z<|l7 (.own 0 0 data_865.length) rfl<|l7 (.int .i64 j_864) rfl<|l7 (.own 0 0 data_865.length) rfl<|l7 (.int .i64 j_864) rfl<|o7 (.int .i64 (w64 (j_864 - 1))) rfl rfl rfl<|l7 (.own 0 0 data_865.length) rfl<|l7 (.int .i64 j_864) rfl<|o7 (.int .i64 (w64 (j_864 - 1))) rfl rfl rfl<|?_
       obtain ⟨g920,hc1⟩:=og hc1
       refine o8 (a2i rfl rfl g920.1 g920.2 rfl rfl) ?_
       obtain ⟨x_921,ex922,hc1⟩:=ob hc1
       refine o8 (a3r (enc:=l9) (v:=(l9 x_921)) rfl rfl ex922 nle rfl)<|l7 (.own 0 0 data_865.length) rfl<|l7 (.int .i64 j_864) rfl<|?_
       obtain ⟨g923,hc1⟩:=og hc1
       refine o8 (a2i rfl rfl g923.1 g923.2 rfl rfl) ?_
       obtain ⟨x_924,ex925,hc1⟩:=ob hc1
       refine o8 (a3r (enc:=l9) (v:=(l9 x_924)) rfl rfl ex925 nle rfl) ?_
       obtain ⟨g926,hc1⟩:=og hc1
       refine o8 (a2i rfl rfl g926.1 g926.2 rfl rfl) ?_;refine a6g (b1a (v':=(l9 x_921)) (e':=x_921) rfl rfl ex925 rfl rfl rfl (by decide) (fun _ => by decide) ⟨rfl,nle⟩ (.refl _) rfl) trivial trivial ?_
       obtain ⟨g927,hc1⟩:=og hc1
       refine o8 (a2i rfl rfl g927.1 g927.2 rfl rfl) ?_
       obtain ⟨x_928,ex929,hc1⟩:=ob hc1
       refine a6g (b1a (v':=(l9 x_924)) (e':=x_924) rfl rfl ex929 rfl rfl rfl (by decide) (fun _ => by decide) ⟨rfl,nle⟩ (.refl _) rfl) trivial trivial ?_;refine a0e<|a3l<|a0h<|a0z<|l7 (.int .i64 j_864) rfl<|o7 (.int .i64 (w64 (j_864 - 1))) rfl rfl rfl<|l7 (.int .i64 (w64 (j_864 - 1))) rfl<|a0e<|?_;exact a2p ⟨(k,w64 (j_864 - 1),(data_865.set (0 + j_864.toNat) x_921).set (0 + (w64 (j_864 - 1)).toNat) x_924),hc1⟩ (Nat.lt_succ_self _) ⟨[],[0],_,_,rfl,rfl,⟨.of_eq (congrArg (AV.own _ 0) (by simp)),⟨.refl _,⟨.refl _,⟨.refl _,⟨.refl _,⟨.refl _,trivial⟩⟩⟩⟩⟩⟩,(.refl _)⟩
      ·refine a0c rfl (bf c919)<|a4b<|a4a<|a2w<|a3z<|?_;refine a3l ?_;obtain rfl:=os hc1;exact ⟨[],[0],_,_,rfl,rfl,⟨.refl _,⟨.refl _,⟨.refl _,⟨.refl _,⟨.refl _,trivial⟩⟩⟩⟩⟩,(.refl _)⟩
   ·refine a0z<|l7 (.int .i64 i_665) rfl<|o7 (.int .i64 (w64 (i_665 + 1))) rfl rfl rfl<|l7 (.int .i64 (w64 (i_665 + 1))) rfl<|a0e<|?_;exact a2p ⟨(k,w64 (i_665 + 1),data_897),hc1⟩ (Nat.lt_succ_self _) ⟨[],[0],_,_,rfl,rfl,⟨.refl _,⟨.refl _,⟨.refl _,⟨.refl _,⟨.refl _,trivial⟩⟩⟩⟩⟩,(.refl _)⟩
  ·refine a0c rfl (bf c799)<|a4b<|a4a<|a2w<|a3z<|?_;obtain rfl:=os hc1;exact a3a [] [0] rfl trivial rfl (.refl _) (.refl _)

end Go.R
