/- Walks. -/
import Derived.Test.YthneidgpgfgecaaUN2
set_option linter.all false
namespace Go.R
open Go Go.Proofs
set_option linter.unusedVariables false
set_option linter.unusedSimpArgs false
set_option maxHeartbeats 8000000
/- impl.put -/
def d7u:a0r :=
 (.seq (.reg (tq 3 (.box 2 (.t 1)) (tm 4 (.c .nil) .done)))
 (.seq (.reg (tm 8 (.t 0) (tq 9 (.faddr 0 (.t 3)) (tq 10 (.load 1 false (.t 9)) (tq 11 (.call 100 [(.t 8),(.t 10)]) (tm 7 (.t 11) (tq 12 (.extract 0 (.t 7)) (tq 13 (.extract 1 (.t 7)) (tm 5 (.t 12) (tm 6 (.t 13) .done))))))))))
 (.seq (.seq (.reg (tm 14 (.t 6) .done))
 (.cond (.t 14) (.seq (.rev (.reg (tm 15 (.t 0) (tm 16 (.t 5) (tq 17 (.load 2 true (.t 3)) (tq 18 (.iaddr 2 (.t 15) (.t 16)) (.q ⟨none,none,.store 2 (.t 18) (.t 17)⟩
 .done)))))))
 (.seq (.reg (tm 19 (.t 0) (tm 4 (.t 19) .done)))
 (.rev .ret)))
 .skip))
 (.seq (.reg (tm 20 (.t 0) (tm 21 (.t 5) (tq 22 (.load 2 true (.t 3)) (tq 23 (.bslice 2 [(.t 22)]) (tq 24 (.call 103 [(.t 20),(.t 21),(.t 23)]) (tm 4 (.t 24) .done)))))))
 .ret))))
theorem e0q:a1g Try.prog Try.f81 = some (d7u.erase,[.mov (.t 4)],25):=by kernel_rfl
def b2b (rows_1:(List x8)) (c_2:Int) (c_3:(List (List a0c))):Option (List x8) :=
    (a6p rows_1 c_2).bind fun r_4 =>
    if r_4.2 then
    ((rows_1[(0 + r_4.1.toNat)]?)).bind fun x_8 =>
    if (0:Int) ≤ r_4.1 ∧ r_4.1 < (rows_1.length:Int) then
    some (rows_1.set (0 + r_4.1.toNat) (⟨c_2,c_3⟩:x8))
    else none
    else
    (a2n rows_1 r_4.1 [(⟨c_2,c_3⟩:x8)]).bind fun r_11 =>
    some r_11
theorem c6h (rows_1:(List x8)) (c_2:Int) (c_3:(List (List a0c))) (r:(List x8)) (hf:b2b rows_1 c_2 c_3 = some r):a0u Try.prog ⟨true,true,false⟩ 81 [(.own 0 0 rows_1.length),(.agg [(.int .i64 c_2),(.own 1 0 c_3.length)])] [.row 2 (rows_1.map o5),.row 1 (c_3.map (o7 3 l7))] (.own 2 0 r.length) [.dead,.dead,.row 2 (r.map o5)]:=by
 refine a0u.of_awp mixed Try.func81 e0q nle ?_;rw [a0q];unfold b2b at hf;unfold d7u;refine (show awp Try.prog ⟨true,true,false⟩ 2 _ (ofL [(0,(.own 0 0 rows_1.length)),(1,(.agg [(.int .i64 c_2),(.own 1 0 c_3.length)]))]) [.row 2 (rows_1.map o5),.row 1 (c_3.map (o7 3 l7))] _ from ?_);refine sr<|a0a (a1m (j:=2) (c:=(.agg [(.int .i64 c_2),(.own 1 0 c_3.length)])) rfl trivial rfl rfl)<|l9 .nil rfl<|dk<|sr<|?_
 obtain ⟨r_4,er5,hf⟩:=ob hf
 refine l9 (.own 0 0 rows_1.length) rfl<|y5 (.ptr 2 0 0) rfl (.of trivial trivial) rfl<|y5 (.int .i64 c_2) rfl (.of nle trivial) rfl<|?_;refine a0a (a6g (v:=(.tup [(.int .i64 r_4.1),(.bool r_4.2)])) (h2:=[.row 2 (rows_1.map o5),.row 1 (c_3.map (o7 3 l7)),.box 2 (.agg [(.int .i64 c_2),(.own 1 0 c_3.length)])]) [] [0] (fun _ => rfl) (b5c _ _ _ er5) rfl (.refl _) (.refl _) rfl rfl) ?_;refine l9 (.tup [(.int .i64 r_4.1),(.bool r_4.2)]) rfl<|y5 (.int .i64 r_4.1) rfl (.of nle trivial) rfl<|y5 (.bool r_4.2) rfl (.of nle trivial) rfl<|l9 (.int .i64 r_4.1) rfl<|l9 (.bool r_4.2) rfl<|dk<|o6<|sr<|l9 (.bool r_4.2) rfl<|?_
 refine dk<|?_
 rcases oi hf with ⟨c6,hf⟩ | ⟨c6,hf⟩
 ·refine y8 rfl c6<|o6<|?_
  obtain ⟨x_8,ex9,hf⟩:=ob hf
  refine c4m (o:=0) (i:=(0 + r_4.1.toNat)) (el:=(.agg [(.int .i64 x_8.Id),(.lst 1 (x_8.Cells.map (o7 3 l7)))])) (el2:=(.agg [(.int .i64 x_8.Id),(.own 3 0 x_8.Cells.length)])) (xs:=[.row 1 (x_8.Cells.map (o7 3 l7))]) rfl rfl rfl ex9 rfl (by simp only [AV.cells,a1q,a1r,List.length_map,List.nil_append,List.append_nil,List.cons_append];rfl)<|a0y<|?_
  obtain ⟨g10,hf⟩:=og hf
  refine l9 (.own 0 0 rows_1.length) rfl<|l9 (.int .i64 r_4.1) rfl<|y5 (.agg [(.int .i64 c_2),(.own 1 0 c_3.length)]) rfl (.of nle trivial) rfl<|a0a (b1u rfl rfl g10.1 g10.2 rfl rfl)<|a1p (c4l (v:=(.agg [(.int .i64 c_2),(.own 1 0 c_3.length)])) (y':=(.agg [(.int .i64 c_2),(.own 1 0 c_3.length)])) rfl rfl rfl trivial ⟨rfl,nle⟩ ⟨⟨rfl,trivial⟩,⟨⟨rfl,trivial⟩,trivial⟩⟩ rfl)<|dk<|sr<|l9 (.own 0 0 rows_1.length) rfl<|l9 (.own 0 0 rows_1.length) rfl<|dk<|e1z (o:=0) (y:=(⟨c_2,c_3⟩:x8)) (h2:=[.rowx 2 (rows_1.map o5) (0 + r_4.1.toNat) (.agg [(.int .i64 c_2),(.own 1 0 c_3.length)]),.dead,.box 2 (.agg [(.int .i64 c_2),(.own 1 0 c_3.length)]),.row 1 (x_8.Cells.map (o7 3 l7))]) rfl rfl rfl (.agg (.cons (.refl _) (.cons (.of_eq (congrArg (AV.lst _) (tk (enc:=(o7 3 l7)) c_3))) .nil))) rfl<|?_
  refine a0f ?_;obtain rfl:=os hf;exact a2s [.mv 0] [0,1,4] rfl ⟨.of trivial trivial,trivial⟩ rfl (.refl _) (.of_eq (congrArg (AV.own _ 0) (by simp)))
 ·refine y7 rfl (bf c6)<|a0e<|a0h<|sr<|?_
  obtain ⟨r_11,er12,hf⟩:=ob hf
  refine l9 (.own 0 0 rows_1.length) rfl<|l9 (.int .i64 r_4.1) rfl<|y5 (.agg [(.int .i64 c_2),(.own 1 0 c_3.length)]) rfl (.of nle trivial) rfl<|?_;refine a0a (a3k (j:=3) (as':=[(o5 (⟨c_2,c_3⟩:x8))]) rfl (fun _ => by decide) ⟨rfl,trivial⟩ (.cons (.agg (.cons (.refl _) (.cons (.of_eq (congrArg (AV.lst _) (tk (enc:=(o7 3 l7)) c_3))) .nil))) .nil) rfl rfl rfl) ?_;refine a0a (a6g (v:=(.own 4 0 r_11.length)) (h2:=[.dead,.dead,.box 2 (.agg [(.int .i64 c_2),(.own 1 0 c_3.length)]),.dead,.row 2 (r_11.map o5)]) [] [0,3] (fun _ => rfl) (a9k _ _ _ _ er12) rfl (.cons (.refl _) (.cons (.refl _) (.cons (.of_eq (congrArg (AV.own _ 0) (by simp))) .nil))) (.refl _) rfl rfl) ?_
  refine l9 (.own 4 0 r_11.length) rfl<|dk<|a0f<|?_;obtain rfl:=os hf;exact a2s [] [0,1,4] rfl ⟨.of trivial trivial,trivial⟩ rfl (.refl _) (.refl _)

/- impl.applyRow -/
def d7v:a0r :=
 (.seq (.reg (tq 6 (.box 2 (.t 2)) (tq 7 (.box 2 (.t 3)) (tm 8 (.c .nil) (tm 9 (.c (.int .i64 0)) .done)))))
 (.seq (.seq (.reg (tm 10 (.t 1) (tq 11 (.load 2 true (.t 6)) (tq 12 (.load 2 true (.t 7)) (tq 13 (.call 77 [(.t 10),(.t 11),(.t 12)]) (tq 14 (.bin .eql (.t 13) (.c (.int .i64 0))) .done))))))
 (.cond (.t 14) (.seq (.reg (tm 15 (.t 0) (tm 8 (.t 15) (tm 9 (.c (.int .i64 1)) .done))))
 .ret)
 .skip))
 (.seq (.seq (.reg (tm 16 (.t 0) (tm 17 (.t 1) (tq 19 (.load 2 true (.t 6)) (.l ⟨(some 18),none,.call 79 [(.t 16),(.t 17)]⟩ [⟨(some 19),none,.load 2 true (.t 6)⟩]
 (.l ⟨(some 20),none,.call 78 [(.t 18),(.t 19)]⟩ []
 (tq 21 (.not (.t 20)) .done) .non) .non)))))
 (.cond (.t 21) (.seq (.reg (tm 22 (.t 0) (tm 8 (.t 22) (tm 9 (.c (.int .i64 13)) .done))))
 .ret)
 .skip))
 (.seq (.seq (.reg (tq 23 (.faddr 0 (.t 7)) (tq 24 (.load 1 false (.t 23)) (tq 25 (.bin .eql (.t 24) (.c (.int .i64 0))) .done))))
 (.cond (.t 25) (.seq (.reg (tm 26 (.t 0) (tm 27 (.t 1) (tq 28 (.call 80 [(.t 26),(.t 27)]) (tm 8 (.t 28) (tm 9 (.c (.int .i64 0)) .done))))))
 .ret)
 .skip))
 (.seq (.reg (tm 29 (.t 0) (tq 30 (.load 2 true (.t 7)) (tq 31 (.call 76 [(.t 30)]) (tq 32 (.call 81 [(.t 29),(.t 31)]) (tm 8 (.t 32) (tm 9 (.c (.int .i64 0)) .done)))))))
 .ret)))))
theorem e0r:a1g Try.prog Try.f50 = some (d7v.erase,[.mov (.t 8),.mov (.t 9)],33):=by kernel_rfl
def a7b (rows_1:(List x8)) (id_2:Int) (old_3:x8) (now_4:x8):Option Int :=
    (a8k id_2 old_3 now_4).bind fun r_5 =>
    if (r_5 == 0) then
    some 1
    else
    (a6q rows_1 id_2).bind fun r_8 =>
    (a5q r_8.Id r_8.Cells old_3).bind fun r_10 =>
    if (!r_10) then
    some 13
    else
    none
theorem b8p (rows_1:(List x8)) (id_2:Int) (old_3:x8) (now_4:x8) (r:Int) (hf:a7b rows_1 id_2 old_3 now_4 = some r):a0u Try.prog ⟨true,true,false⟩ 50 [(.own 0 0 rows_1.length),(.int .i64 id_2),(o5 old_3),(o5 now_4)] [.row 2 (rows_1.map o5)] (.tup [(.own 0 0 rows_1.length),(.int .i64 r)]) [.row 2 (rows_1.map o5)]:=by
 refine a0u.of_awp mixed Try.func50 e0r nle ?_;rw [a0q];unfold a7b at hf;unfold d7v;refine (show awp Try.prog ⟨true,true,false⟩ 1 _ (ofL [(0,(.own 0 0 rows_1.length)),(1,(.int .i64 id_2)),(2,(o5 old_3)),(3,(o5 now_4))]) [.row 2 (rows_1.map o5)] _ from ?_);refine sr<|a0a (a1m (j:=1) (c:=(.agg [(.int .i64 old_3.Id),(.lst 1 (old_3.Cells.map (o7 3 l7)))])) rfl trivial rfl rfl)<|a0a (a1m (j:=2) (c:=(.agg [(.int .i64 now_4.Id),(.lst 1 (now_4.Cells.map (o7 3 l7)))])) rfl trivial rfl rfl)<|l9 .nil rfl<|l9 (.int .i64 0) rfl<|dk<|o6<|sr<|?_
 obtain ⟨r_5,er6,hf⟩:=ob hf
 refine l9 (.int .i64 id_2) rfl<|y5 (.agg [(.int .i64 old_3.Id),(.lst 1 (old_3.Cells.map (o7 3 l7)))]) rfl (.of nle trivial) rfl<|y5 (.agg [(.int .i64 now_4.Id),(.lst 1 (now_4.Cells.map (o7 3 l7)))]) rfl (.of nle trivial) rfl<|a0a (a1o (b3r _ _ _ _ er6) rfl (.refl _) rfl)<|y5 (.bool (r_5 == 0)) rfl (.of rfl trivial) rfl<|dk<|?_
 rcases oi hf with ⟨c7,hf⟩ | ⟨c7,hf⟩
 ·refine y8 rfl c7<|sr<|l9 (.own 0 0 rows_1.length) rfl<|l9 (.own 0 0 rows_1.length) rfl<|l9 (.int .i64 1) rfl<|dk<|a0f<|?_;obtain rfl:=os hf;exact a2s [] [0] rfl ⟨.of trivial trivial,⟨.of trivial trivial,trivial⟩⟩ rfl (.refl _) (.refl _)
 ·refine y7 rfl (bf c7)<|a0e<|a0h<|o6<|sr<|?_
  obtain ⟨r_8,er9,hf⟩:=ob hf
  obtain ⟨r_10,er11,hf⟩:=ob hf
  refine l9 (.own 0 0 rows_1.length) rfl<|l9 (.int .i64 id_2) rfl<|y5 (.agg [(.int .i64 old_3.Id),(.lst 1 (old_3.Cells.map (o7 3 l7)))]) rfl (.of nle trivial) rfl<|?_;refine a5c (a6g (v:=(.agg [(.int .i64 r_8.Id),(.own 3 0 r_8.Cells.length)])) (h2:=[.row 2 (rows_1.map o5),.box 2 (.agg [(.int .i64 old_3.Id),(.lst 1 (old_3.Cells.map (o7 3 l7)))]),.box 2 (.agg [(.int .i64 now_4.Id),(.lst 1 (now_4.Cells.map (o7 3 l7)))]),.row 1 (r_8.Cells.map (o7 3 l7))]) [] [0] (fun _ => rfl) (b2i _ _ _ er9) rfl (.refl _) (.refl _) rfl rfl) (.inr ⟨⟨(.of nle trivial),rfl⟩,trivial⟩) trivial ?_;refine a5c (a6g (v:=(.bool r_10)) (h2:=[.row 2 (rows_1.map o5),.box 2 (.agg [(.int .i64 old_3.Id),(.lst 1 (old_3.Cells.map (o7 3 l7)))]),.box 2 (.agg [(.int .i64 now_4.Id),(.lst 1 (now_4.Cells.map (o7 3 l7)))]),.row 1 (r_8.Cells.map (o7 3 l7))]) [] [3] (fun _ => rfl) (b1c _ _ _ _ er11) rfl (.refl _) (.refl _) rfl rfl) a6y trivial ?_
  refine y5 (.bool (!r_10)) rfl (.of trivial trivial) rfl<|dk<|?_
  rcases oi hf with ⟨c12,hf⟩ | ⟨c12,hf⟩
  ·refine y8 rfl c12<|sr<|l9 (.own 0 0 rows_1.length) rfl<|l9 (.own 0 0 rows_1.length) rfl<|l9 (.int .i64 13) rfl<|dk<|a0f<|?_;obtain rfl:=os hf;exact a2s [] [0] rfl ⟨.of trivial trivial,⟨.of trivial trivial,trivial⟩⟩ rfl (.refl _) (.refl _)
  ·cases hf

/- impl.applyRow -/
def d7w:a0r :=
 (.seq (.reg (tq 6 (.box 2 (.t 2)) (tq 7 (.box 2 (.t 3)) (tm 8 (.c .nil) (tm 9 (.c (.int .i64 0)) .done)))))
 (.seq (.seq (.reg (tm 10 (.t 1) (tq 11 (.load 2 true (.t 6)) (tq 12 (.load 2 true (.t 7)) (tq 13 (.call 77 [(.t 10),(.t 11),(.t 12)]) (tq 14 (.bin .eql (.t 13) (.c (.int .i64 0))) .done))))))
 (.cond (.t 14) (.seq (.reg (tm 15 (.t 0) (tm 8 (.t 15) (tm 9 (.c (.int .i64 1)) .done))))
 .ret)
 .skip))
 (.seq (.seq (.reg (tm 16 (.t 0) (tm 17 (.t 1) (tq 19 (.load 2 true (.t 6)) (.l ⟨(some 18),none,.call 79 [(.t 16),(.t 17)]⟩ [⟨(some 19),none,.load 2 true (.t 6)⟩]
 (.l ⟨(some 20),none,.call 78 [(.t 18),(.t 19)]⟩ []
 (tq 21 (.not (.t 20)) .done) .non) .non)))))
 (.cond (.t 21) (.seq (.reg (tm 22 (.t 0) (tm 8 (.t 22) (tm 9 (.c (.int .i64 13)) .done))))
 .ret)
 .skip))
 (.seq (.seq (.reg (tq 23 (.faddr 0 (.t 7)) (tq 24 (.load 1 false (.t 23)) (tq 25 (.bin .eql (.t 24) (.c (.int .i64 0))) .done))))
 (.cond (.t 25) (.seq (.reg (tm 26 (.t 0) (tm 27 (.t 1) (tq 28 (.call 80 [(.t 26),(.t 27)]) (tm 8 (.t 28) (tm 9 (.c (.int .i64 0)) .done))))))
 .ret)
 .skip))
 (.seq (.reg (tm 29 (.t 0) (tq 30 (.load 2 true (.t 7)) (tq 31 (.call 76 [(.t 30)]) (tq 32 (.call 81 [(.t 29),(.t 31)]) (tm 8 (.t 32) (tm 9 (.c (.int .i64 0)) .done)))))))
 .ret)))))
theorem e0s:a1g Try.prog Try.f50 = some (d7w.erase,[.mov (.t 8),.mov (.t 9)],33):=by kernel_rfl
def a7c (rows_1:(List x8)) (id_2:Int) (old_3:x8) (now_4:x8):Option (List x8) :=
    (a8k id_2 old_3 now_4).bind fun r_5 =>
    if (r_5 == 0) then
    none
    else
    (a6q rows_1 id_2).bind fun r_8 =>
    (a5q r_8.Id r_8.Cells old_3).bind fun r_10 =>
    if (!r_10) then
    none
    else
    if (now_4.Id == 0) then
    (b4n rows_1 id_2).bind fun r_14 =>
    some r_14
    else
    (a8y now_4).bind fun r_16 =>
    (b2b rows_1 r_16.Id r_16.Cells).bind fun r_18 =>
    some r_18
theorem b8q (rows_1:(List x8)) (id_2:Int) (old_3:x8) (now_4:x8) (r:(List x8)) (hf:a7c rows_1 id_2 old_3 now_4 = some r):a0u Try.prog ⟨true,true,false⟩ 50 [(.own 0 0 rows_1.length),(.int .i64 id_2),(o5 old_3),(o5 now_4)] [.row 2 (rows_1.map o5)] (.tup [(.own 1 0 r.length),(.int .i64 0)]) [.dead,.row 2 (r.map o5)]:=by
 refine a0u.of_awp mixed Try.func50 e0s nle ?_;rw [a0q];unfold a7c at hf;unfold d7w;refine (show awp Try.prog ⟨true,true,false⟩ 1 _ (ofL [(0,(.own 0 0 rows_1.length)),(1,(.int .i64 id_2)),(2,(o5 old_3)),(3,(o5 now_4))]) [.row 2 (rows_1.map o5)] _ from ?_);refine sr<|a0a (a1m (j:=1) (c:=(.agg [(.int .i64 old_3.Id),(.lst 1 (old_3.Cells.map (o7 3 l7)))])) rfl trivial rfl rfl)<|a0a (a1m (j:=2) (c:=(.agg [(.int .i64 now_4.Id),(.lst 1 (now_4.Cells.map (o7 3 l7)))])) rfl trivial rfl rfl)<|l9 .nil rfl<|l9 (.int .i64 0) rfl<|dk<|o6<|sr<|?_
 obtain ⟨r_5,er6,hf⟩:=ob hf
 refine l9 (.int .i64 id_2) rfl<|y5 (.agg [(.int .i64 old_3.Id),(.lst 1 (old_3.Cells.map (o7 3 l7)))]) rfl (.of nle trivial) rfl<|y5 (.agg [(.int .i64 now_4.Id),(.lst 1 (now_4.Cells.map (o7 3 l7)))]) rfl (.of nle trivial) rfl<|a0a (a1o (b3r _ _ _ _ er6) rfl (.refl _) rfl)<|y5 (.bool (r_5 == 0)) rfl (.of rfl trivial) rfl<|dk<|?_
 rcases oi hf with ⟨c7,hf⟩ | ⟨c7,hf⟩
 ·cases hf
 ·refine y7 rfl (bf c7)<|a0e<|a0h<|o6<|sr<|?_
  obtain ⟨r_8,er9,hf⟩:=ob hf
  obtain ⟨r_10,er11,hf⟩:=ob hf
  refine l9 (.own 0 0 rows_1.length) rfl<|l9 (.int .i64 id_2) rfl<|y5 (.agg [(.int .i64 old_3.Id),(.lst 1 (old_3.Cells.map (o7 3 l7)))]) rfl (.of nle trivial) rfl<|?_;refine a5c (a6g (v:=(.agg [(.int .i64 r_8.Id),(.own 3 0 r_8.Cells.length)])) (h2:=[.row 2 (rows_1.map o5),.box 2 (.agg [(.int .i64 old_3.Id),(.lst 1 (old_3.Cells.map (o7 3 l7)))]),.box 2 (.agg [(.int .i64 now_4.Id),(.lst 1 (now_4.Cells.map (o7 3 l7)))]),.row 1 (r_8.Cells.map (o7 3 l7))]) [] [0] (fun _ => rfl) (b2i _ _ _ er9) rfl (.refl _) (.refl _) rfl rfl) (.inr ⟨⟨(.of nle trivial),rfl⟩,trivial⟩) trivial ?_;refine a5c (a6g (v:=(.bool r_10)) (h2:=[.row 2 (rows_1.map o5),.box 2 (.agg [(.int .i64 old_3.Id),(.lst 1 (old_3.Cells.map (o7 3 l7)))]),.box 2 (.agg [(.int .i64 now_4.Id),(.lst 1 (now_4.Cells.map (o7 3 l7)))]),.row 1 (r_8.Cells.map (o7 3 l7))]) [] [3] (fun _ => rfl) (b1c _ _ _ _ er11) rfl (.refl _) (.refl _) rfl rfl) a6y trivial ?_
  refine y5 (.bool (!r_10)) rfl (.of trivial trivial) rfl<|dk<|?_
  rcases oi hf with ⟨c12,hf⟩ | ⟨c12,hf⟩
  ·cases hf
  ·refine y7 rfl (bf c12)<|a0e<|a0h<|o6<|sr<|y5 (.ptr 2 0 0) rfl (.of trivial trivial) rfl<|y5 (.int .i64 now_4.Id) rfl (.of nle trivial) rfl<|y5 (.bool (now_4.Id == 0)) rfl (.of rfl trivial) rfl<|dk<|?_
   rcases oi hf with ⟨c13,hf⟩ | ⟨c13,hf⟩
   ·refine y8 rfl c13<|sr<|?_
    obtain ⟨r_14,er15,hf⟩:=ob hf
    refine l9 (.own 0 0 rows_1.length) rfl<|l9 (.int .i64 id_2) rfl<|?_;refine a0a (a6g (v:=(.own 4 0 r_14.length)) (h2:=[.dead,.box 2 (.agg [(.int .i64 old_3.Id),(.lst 1 (old_3.Cells.map (o7 3 l7)))]),.box 2 (.agg [(.int .i64 now_4.Id),(.lst 1 (now_4.Cells.map (o7 3 l7)))]),.row 1 (r_8.Cells.map (o7 3 l7)),.row 2 (r_14.map o5)]) [] [0] (fun _ => rfl) (c5b _ _ _ er15) rfl (.refl _) (.refl _) rfl rfl) ?_;refine l9 (.own 4 0 r_14.length) rfl<|l9 (.int .i64 0) rfl<|dk<|a0f<|?_;obtain rfl:=os hf;exact a2s [] [0,4] rfl ⟨.of trivial trivial,⟨.of trivial trivial,trivial⟩⟩ rfl (.refl _) (.refl _)
   ·refine y7 rfl (bf c13)<|a0e<|a0h<|sr<|?_
    obtain ⟨r_16,er17,hf⟩:=ob hf
    obtain ⟨r_18,er19,hf⟩:=ob hf
    refine l9 (.own 0 0 rows_1.length) rfl<|y5 (.agg [(.int .i64 now_4.Id),(.lst 1 (now_4.Cells.map (o7 3 l7)))]) rfl (.of nle trivial) rfl<|a0a (a3j (v:=(.agg [(.int .i64 r_16.Id),(.own 4 0 r_16.Cells.length)])) (h':=[.row 1 (r_16.Cells.map (o7 3 l7))]) (b5z _ _ er17) rfl (.refl _) (by simp only [a1r,a1q,List.length_map,a8f,List.nil_append,List.append_nil,List.cons_append];rfl))<|?_;refine a0a (a6g (v:=(.own 5 0 r_18.length)) (h2:=[.dead,.box 2 (.agg [(.int .i64 old_3.Id),(.lst 1 (old_3.Cells.map (o7 3 l7)))]),.box 2 (.agg [(.int .i64 now_4.Id),(.lst 1 (now_4.Cells.map (o7 3 l7)))]),.row 1 (r_8.Cells.map (o7 3 l7)),.dead,.row 2 (r_18.map o5)]) [] [0,4] (fun _ => rfl) (c6h _ _ _ _ er19) rfl (.refl _) (.refl _) rfl rfl) ?_
    refine l9 (.own 5 0 r_18.length) rfl<|l9 (.int .i64 0) rfl<|dk<|a0f<|?_;obtain rfl:=os hf;exact a2s [] [0,5] rfl ⟨.of trivial trivial,⟨.of trivial trivial,trivial⟩⟩ rfl (.refl _) (.refl _)

/- (*impl.Store).apply -/
def d7x:a0r :=
 (.seq (.reg (tq 3 (.box 6 (.t 1)) (tm 4 (.c (.int .i64 0)) .done)))
 (.seq (.seq (.reg (tq 6 (.faddr 1 (.t 3)) (tq 7 (.load 1 false (.t 6)) (tq 8 (.faddr 2 (.t 3)) (tq 9 (.load 2 true (.t 8)) (tq 10 (.faddr 4 (.t 3)) (tq 11 (.load 2 true (.t 10)) (.l ⟨(some 12),none,.call 77 [(.t 7),(.t 9),(.t 11)]⟩ []
 (tq 13 (.bin .eql (.t 12) (.c (.int .i64 0))) (tm 14 (.t 13) (tg 15 14 false (.faddr 0 (.t 3)) (tg 16 14 false (.load 1 false (.t 15)) (tg 17 14 false (.mov (.t 0)) (tg 18 14 false (.nilck (.t 17)) (tg 19 14 false (.faddr 0 (.t 18)) (tg 20 14 false (.load 1 false (.t 19)) (tg 21 14 false (.len (.t 20)) (tg 22 14 false (.bin .sub (.t 21) (.c (.int .i64 1))) (.l ⟨(some 23),(some (14,false)),.call 106 [(.t 16),(.c (.int .i64 0)),(.t 22)]⟩ []
 (tg 24 14 false (.not (.t 23)) (tq 25 (.pick (.t 14) (.c (.bool true)) (.t 24)) .done)) .non))))))))))) .non))))))))
 (.cut (.cond (.t 25) (.seq (.reg (tm 4 (.c (.int .i64 1)) .done))
 .ret)
 .skip)))
 (.seq (.rev (.reg (tm 26 (.t 0) (tq 27 (.nilck (.t 26)) (tq 28 (.faddr 0 (.t 27)) (tq 29 (.load 1 false (.t 28)) (tq 30 (.faddr 0 (.t 3)) (tq 31 (.load 1 false (.t 30)) (tq 32 (.iaddr 1 (.t 29) (.t 31)) (tq 33 (.load 1 false (.t 32)) (tm 5 (.t 33) .done)))))))))))
 (.seq (.block 0 (.seq (.reg (tm 35 (.t 5) (tq 36 (.faddr 1 (.t 3)) (tq 37 (.load 1 false (.t 36)) (tq 39 (.faddr 2 (.t 3)) (tq 40 (.load 2 true (.t 39)) (.l ⟨(some 38),none,.call 79 [(.t 35),(.t 37)]⟩ [⟨(some 40),none,.load 2 true (.t 39)⟩,⟨(some 39),none,.faddr 2 (.t 3)⟩]
 (.l ⟨(some 41),none,.call 78 [(.t 38),(.t 40)]⟩ []
 (tq 42 (.not (.t 41)) (tm 34 (.t 42) .done)) .non) .non)))))))
 (.cond (.t 34) (.seq (.reg (tm 4 (.c (.int .i64 13)) .done))
 (.rev .ret))
 (.seq (.reg (tq 44 (.faddr 2 (.t 3)) (tq 45 (.faddr 0 (.t 44)) (tq 46 (.load 1 false (.t 45)) (tq 47 (.bin .eql (.t 46) (.c (.int .i64 0))) (tm 48 (.t 47) (tg 49 48 true (.mov (.t 5)) (tg 50 48 true (.len (.t 49)) (tg 51 48 true (.bin .geq (.t 50) (.c (.int .i64 12))) (tq 52 (.pick (.t 48) (.t 51) (.c (.bool false))) (tm 43 (.t 52) .done)))))))))))
 (.cut (.cond (.t 43) (.seq (.reg (tm 4 (.c (.int .i64 7)) .done))
 (.rev .ret))
 .skip))))))
 (.seq (.reg (tm 54 (.t 0) (tq 55 (.nilck (.t 54)) (tq 56 (.faddr 0 (.t 55)) (tq 57 (.load 1 false (.t 56)) (tq 58 (.faddr 0 (.t 3)) (tq 59 (.load 1 false (.t 58)) (tm 60 (.t 5) (tq 61 (.faddr 1 (.t 3)) (tq 62 (.load 1 false (.t 61)) (tq 63 (.faddr 2 (.t 3)) (tq 64 (.load 2 true (.t 63)) (tq 65 (.faddr 4 (.t 3)) (tq 66 (.load 2 true (.t 65)) (.l ⟨(some 67),none,.call 50 [(.t 60),(.t 62),(.t 64),(.t 66)]⟩ [⟨(some 59),none,.load 1 false (.t 58)⟩,⟨(some 58),none,.faddr 0 (.t 3)⟩,⟨(some 57),none,.load 1 false (.t 56)⟩,⟨(some 56),none,.faddr 0 (.t 55)⟩,⟨(some 55),none,.nilck (.t 54)⟩]
 (tm 53 (.t 67) (tq 68 (.extract 0 (.t 53)) (tq 69 (.extract 1 (.t 53)) (tq 70 (.iaddr 1 (.t 57) (.t 59)) (.l ⟨none,none,.store 1 (.t 70) (.t 68)⟩ []
 .done .non))))) .non)))))))))))))))
 (.seq (.seq (.reg (tq 71 (.faddr 4 (.t 3)) (tq 72 (.faddr 0 (.t 71)) (tq 73 (.load 1 false (.t 72)) (tq 74 (.bin .neq (.t 73) (.c (.int .i64 0))) (tm 75 (.t 74) (tg 76 75 true (.faddr 1 (.t 3)) (tg 77 75 true (.load 1 false (.t 76)) (tg 78 75 true (.bin .lss (.t 77) (.c (.int .i64 9223372036854775807))) (tq 79 (.pick (.t 75) (.t 78) (.c (.bool false))) .done))))))))))
 (.cut (.cond (.t 79) (.reg (tm 80 (.t 0) (tm 81 (.t 0) (tq 82 (.nilck (.t 81)) (tq 83 (.faddr 1 (.t 82)) (tq 84 (.load 1 false (.t 83)) (tq 85 (.faddr 1 (.t 3)) (tq 86 (.load 1 false (.t 85)) (tq 87 (.bin .add (.t 86) (.c (.int .i64 1))) (tq 88 (.mnmx true (.t 84) (.t 87)) (tq 89 (.nilck (.t 80)) (tq 90 (.faddr 1 (.t 89)) (.l ⟨none,none,.store 1 (.t 90) (.t 88)⟩ []
 .done .non)))))))))))))
 .skip)))
 (.seq (.reg (tm 4 (.c (.int .i64 0)) .done))
 .ret)))))))
theorem e0t:a1g Try.prog Try.f88 = some (d7x.erase,[.mov (.t 4)],91):=by kernel_rfl
def a5t (c_1:y9) (c_2:(List (List x8))) (c_3:Int):Option (Int × a0l) :=
    (((a8k c_1.Id c_1.Old c_1.New).bind fun r_12 =>
    if (r_12 == 0) then
    some true
    else
    (b2a c_1.Table 0 (w64 ((c_2.length:Int) - 1))).bind fun r_16 =>
    some (!r_16):Option Bool)).bind fun s25_10 =>
    if s25_10 then
    some (1,(⟨c_2,c_3⟩:a0l))
    else
    ((c_2[(0 + c_1.Table.toNat)]?)).bind fun x_20 =>
    if (0:Int) ≤ c_1.Table ∧ c_1.Table < (c_2.length:Int) then
    (a6q x_20 c_1.Id).bind fun r_23 =>
    (a5q r_23.Id r_23.Cells c_1.Old).bind fun r_25 =>
    if (!r_25) then
    some (13,(⟨c_2,c_3⟩:a0l))
    else
    ((if (c_1.Old.Id == 0) then
    some (decide ((x_20.length:Int) ≥ 12))
    else
    some false:Option Bool)).bind fun s43_30 =>
    if s43_30 then
    some (7,(⟨c_2,c_3⟩:a0l))
    else
    c7m (a7b x_20 c_1.Id c_1.Old c_1.New) (fun v_35 =>
    if (0:Int) ≤ c_1.Table ∧ c_1.Table < (c_2.length:Int) then
    ((if (c_1.New.Id != 0) then
    some (decide (c_1.Id < 9223372036854775807))
    else
    some false:Option Bool)).bind fun s79_40 =>
    if s79_40 then
    some (0,(⟨c_2,(if w64 (c_1.Id + 1) > c_3 then w64 (c_1.Id + 1) else c_3)⟩:a0l))
    else
    some (0,(⟨c_2,c_3⟩:a0l))
    else none) (
    (a7c x_20 c_1.Id c_1.Old c_1.New).bind fun r_44 =>
    if (0:Int) ≤ c_1.Table ∧ c_1.Table < (c_2.length:Int) then
    ((if (c_1.New.Id != 0) then
    some (decide (c_1.Id < 9223372036854775807))
    else
    some false:Option Bool)).bind fun s79_48 =>
    if s79_48 then
    some (0,(⟨c_2.set (0 + c_1.Table.toNat) r_44,(if w64 (c_1.Id + 1) > c_3 then w64 (c_1.Id + 1) else c_3)⟩:a0l))
    else
    some (0,(⟨c_2.set (0 + c_1.Table.toNat) r_44,c_3⟩:a0l))
    else none)
    else none
theorem b5l (c_1:y9) (c_2:(List (List x8))) (c_3:Int) (r:(Int × a0l)) (hf:a5t c_1 c_2 c_3 = some r):a0u Try.prog ⟨true,true,false⟩ 88 [(.ptr 0 0 0),(o8 c_1)] [.box 2 (.agg [(.own 1 0 c_2.length),(.int .i64 c_3)]),.row 1 (c_2.map (o7 2 o5))] (.int .i64 r.1) [.box 2 (.agg [(.own 2 0 r.2.Tables.length),(.int .i64 r.2.Next)]),.dead,.row 1 (r.2.Tables.map (o7 2 o5))]:=by
 refine a0u.of_awp mixed Try.func88 e0t nle ?_;rw [a0q];unfold a5t at hf;unfold d7x;refine (show awp Try.prog ⟨true,true,false⟩ 2 _ (ofL [(0,(.ptr 0 0 0)),(1,(o8 c_1))]) [.box 2 (.agg [(.own 1 0 c_2.length),(.int .i64 c_3)]),.row 1 (c_2.map (o7 2 o5))] _ from ?_);refine sr<|a0a (a1m (j:=2) (c:=(.agg [(.int .i64 c_1.Table),(.int .i64 c_1.Id),(.int .i64 c_1.Old.Id),(.lst 1 (c_1.Old.Cells.map (o7 3 l7))),(.int .i64 c_1.New.Id),(.lst 1 (c_1.New.Cells.map (o7 3 l7)))])) rfl trivial rfl rfl)<|l9 (.int .i64 0) rfl<|dk<|o6<|o6<|?_
 obtain ⟨s25_10,hb1,hf⟩:=ob hf
 refine a1v ([(0,(.ptr 0 0 0)),(3,(.ptr 2 0 0)),(25,(.bool s25_10))],[.box 2 (.agg [(.own 1 0 c_2.length),(.int .i64 c_3)]),.row 1 (c_2.map (o7 2 o5)),.box 6 (.agg [(.int .i64 c_1.Table),(.int .i64 c_1.Id),(.int .i64 c_1.Old.Id),(.lst 1 (c_1.Old.Cells.map (o7 3 l7))),(.int .i64 c_1.New.Id),(.lst 1 (c_1.New.Cells.map (o7 3 l7)))])]) ?_ ?_
 ·refine a0y<|y5 (.ptr 2 0 1) rfl (.of trivial trivial) rfl<|y5 (.int .i64 c_1.Id) rfl (.of nle trivial) rfl<|y5 (.ptr 2 0 2) rfl (.of trivial trivial) rfl<|y5 (.agg [(.int .i64 c_1.Old.Id),(.lst 1 (c_1.Old.Cells.map (o7 3 l7)))]) rfl (.of nle trivial) rfl<|y5 (.ptr 2 0 4) rfl (.of trivial trivial) rfl<|y5 (.agg [(.int .i64 c_1.New.Id),(.lst 1 (c_1.New.Cells.map (o7 3 l7)))]) rfl (.of nle trivial) rfl<|?_
  obtain ⟨r_12,er13,hb1⟩:=ob hb1
  refine a5c (a1o (b3r _ _ _ _ er13) rfl (.refl _) rfl) a6y trivial<|y5 (.bool (r_12 == 0)) rfl (.of rfl trivial) rfl<|l9 (.bool (r_12 == 0)) rfl<|?_
  rcases oi hb1 with ⟨c14,hb1⟩ | ⟨c14,hb1⟩
  ·refine a4i (s:=14) (b:=true) rfl c14<|a0t rfl rfl<|a0t rfl rfl<|a0t rfl rfl<|a0t rfl rfl<|a0t rfl rfl<|a0t rfl rfl<|a0t rfl rfl<|a0t rfl rfl<|e2p rfl rfl trivial<|a0t rfl rfl<|y5 (.bool true) rfl (.of trivial trivial) rfl<|a0n<|?_;obtain rfl:=os hb1;exact ⟨[],[0,1,2],_,_,rfl,rfl,⟨.refl _,⟨.refl _,⟨.refl _,trivial⟩⟩⟩,(.refl _)⟩
  ·refine a4i (s:=14) (b:=false) rfl (bf c14)<|s_on rfl<|y5 (.ptr 2 0 0) rfl (.of trivial trivial) rfl<|s_on rfl<|y5 (.int .i64 c_1.Table) rfl (.of nle trivial) rfl<|s_on rfl<|l9 (.ptr 0 0 0) rfl<|s_on rfl<|y5 (.ptr 0 0 0) rfl (.of trivial trivial) rfl<|s_on rfl<|y5 (.ptr 0 0 0) rfl (.of trivial trivial) rfl<|s_on rfl<|y5 (.own 1 0 c_2.length) rfl (.of nle trivial) rfl<|s_on rfl<|a0w (a6c rfl rfl) fun hl15 => s_on rfl<|y5 (.int .i64 (w64 ((c_2.length:Int) - 1))) rfl (.of rfl trivial) rfl<|e3v rfl<|?_
   obtain ⟨r_16,er17,hb1⟩:=ob hb1
   refine a5c (a1o (c6g _ _ _ _ er17) rfl (.refl _) rfl) a6y trivial<|s_on rfl<|y5 (.bool (!r_16)) rfl (.of trivial trivial) rfl<|y5 (.bool (!r_16)) rfl (.of trivial trivial) rfl<|a0n<|?_;obtain rfl:=os hb1;exact ⟨[],[0,1,2],_,_,rfl,rfl,⟨.refl _,⟨.refl _,⟨.refl _,trivial⟩⟩⟩,(.refl _)⟩
 ·rcases oi hf with ⟨c18,hf⟩ | ⟨c18,hf⟩
  ·refine y8 rfl c18<|sr<|l9 (.int .i64 1) rfl<|dk<|a0f<|?_;obtain rfl:=os hf;exact a2s [.mv 1] [0,1,3] rfl ⟨.of trivial trivial,trivial⟩ rfl (.refl _) (.refl _)
  ·refine y7 rfl (bf c18)<|a0e<|a0h<|o6<|?_
   obtain ⟨x_20,ex21,hf⟩:=ob hf
   refine c4m (o:=1) (i:=(0 + c_1.Table.toNat)) (el:=(.lst 2 (x_20.map o5))) (el2:=(.own 3 0 x_20.length)) (xs:=[.row 2 (x_20.map o5)]) rfl rfl rfl ex21 rfl (by simp only [AV.cells,a1q,a1r,List.length_map,List.nil_append,List.append_nil,List.cons_append];rfl)<|a0y<|?_
   obtain ⟨g22,hf⟩:=og hf
   refine l9 (.ptr 0 0 0) rfl<|y5 (.ptr 0 0 0) rfl (.of trivial trivial) rfl<|y5 (.ptr 0 0 0) rfl (.of trivial trivial) rfl<|y5 (.own 1 0 c_2.length) rfl (.of nle trivial) rfl<|y5 (.ptr 2 0 0) rfl (.of trivial trivial) rfl<|y5 (.int .i64 c_1.Table) rfl (.of nle trivial) rfl<|a0a (b1u rfl rfl g22.1 g22.2 rfl rfl)<|a0a (b6y rfl rfl ⟨rfl,rfl⟩ rfl)<|l9 (.own 3 0 x_20.length) rfl<|dk<|o6<|a2u<|sr<|?_
   obtain ⟨r_23,er24,hf⟩:=ob hf
   obtain ⟨r_25,er26,hf⟩:=ob hf
   refine l9 (.own 3 0 x_20.length) rfl<|y5 (.ptr 2 0 1) rfl (.of trivial trivial) rfl<|y5 (.int .i64 c_1.Id) rfl (.of nle trivial) rfl<|y5 (.ptr 2 0 2) rfl (.of trivial trivial) rfl<|y5 (.agg [(.int .i64 c_1.Old.Id),(.lst 1 (c_1.Old.Cells.map (o7 3 l7)))]) rfl (.of nle trivial) rfl<|?_;refine a5c (a6g (v:=(.agg [(.int .i64 r_23.Id),(.own 4 0 r_23.Cells.length)])) (h2:=[.box 2 (.agg [(.own 1 0 c_2.length),(.int .i64 c_3)]),.rowx 1 (c_2.map (o7 2 o5)) (0 + c_1.Table.toNat) (.own 3 0 x_20.length),.box 6 (.agg [(.int .i64 c_1.Table),(.int .i64 c_1.Id),(.int .i64 c_1.Old.Id),(.lst 1 (c_1.Old.Cells.map (o7 3 l7))),(.int .i64 c_1.New.Id),(.lst 1 (c_1.New.Cells.map (o7 3 l7)))]),.row 2 (x_20.map o5),.row 1 (r_23.Cells.map (o7 3 l7))]) [] [3] (fun _ => rfl) (b2i _ _ _ er24) rfl (.refl _) (.refl _) rfl rfl) (.inr ⟨⟨(.of nle trivial),rfl⟩,⟨⟨(.of trivial trivial),rfl⟩,trivial⟩⟩) trivial ?_
   refine a5c (a6g (v:=(.bool r_25)) (h2:=[.box 2 (.agg [(.own 1 0 c_2.length),(.int .i64 c_3)]),.rowx 1 (c_2.map (o7 2 o5)) (0 + c_1.Table.toNat) (.own 3 0 x_20.length),.box 6 (.agg [(.int .i64 c_1.Table),(.int .i64 c_1.Id),(.int .i64 c_1.Old.Id),(.lst 1 (c_1.Old.Cells.map (o7 3 l7))),(.int .i64 c_1.New.Id),(.lst 1 (c_1.New.Cells.map (o7 3 l7)))]),.row 2 (x_20.map o5),.row 1 (r_23.Cells.map (o7 3 l7))]) [] [4] (fun _ => rfl) (b1c _ _ _ _ er26) rfl (.refl _) (.refl _) rfl rfl) a6y trivial ?_;refine y5 (.bool (!r_25)) rfl (.of trivial trivial) rfl<|l9 (.bool (!r_25)) rfl<|dk<|?_
   rcases oi hf with ⟨c27,hf⟩ | ⟨c27,hf⟩
   ·refine y8 rfl c27<|sr<|l9 (.int .i64 13) rfl<|dk<|c0x (o:=1) (h2:=[.box 2 (.agg [(.own 1 0 c_2.length),(.int .i64 c_3)]),.rowx 1 (c_2.map (o7 2 o5)) (0 + c_1.Table.toNat) (.own 3 0 x_20.length),.box 6 (.agg [(.int .i64 c_1.Table),(.int .i64 c_1.Id),(.int .i64 c_1.Old.Id),(.lst 1 (c_1.Old.Cells.map (o7 3 l7))),(.int .i64 c_1.New.Id),(.lst 1 (c_1.New.Cells.map (o7 3 l7)))]),.dead,.row 1 (r_23.Cells.map (o7 3 l7))]) ex21 rfl rfl rfl (.of_eq (congrArg (AV.lst _) (tk (enc:=o5) x_20))) rfl<|a0f<|?_;obtain rfl:=os hf;exact a2s [.mv 1] [0,1,5] rfl ⟨.of trivial trivial,trivial⟩ rfl (.refl _) (.refl _)
   ·refine y7 rfl (bf c27)<|o6<|?_
    obtain ⟨s43_30,hb1,hf⟩:=ob hf
    refine a1v ([(0,(.ptr 0 0 0)),(3,(.ptr 2 0 0)),(5,(.own 3 0 x_20.length)),(43,(.bool s43_30))],[.box 2 (.agg [(.own 1 0 c_2.length),(.int .i64 c_3)]),.rowx 1 (c_2.map (o7 2 o5)) (0 + c_1.Table.toNat) (.own 3 0 x_20.length),.box 6 (.agg [(.int .i64 c_1.Table),(.int .i64 c_1.Id),(.int .i64 c_1.Old.Id),(.lst 1 (c_1.Old.Cells.map (o7 3 l7))),(.int .i64 c_1.New.Id),(.lst 1 (c_1.New.Cells.map (o7 3 l7)))]),.row 2 (x_20.map o5)]) ?_ ?_
    ·refine a0y ?_
     rcases oi hb1 with ⟨c32,hb1⟩ | ⟨c32,hb1⟩
     ·refine y5 (.ptr 2 0 2) rfl (.of trivial trivial) rfl<|y5 (.ptr 2 0 2) rfl (.of trivial trivial) rfl<|y5 (.int .i64 c_1.Old.Id) rfl (.of nle trivial) rfl<|y5 (.bool (c_1.Old.Id == 0)) rfl (.of rfl trivial) rfl<|l9 (.bool (c_1.Old.Id == 0)) rfl<|a4i (s:=48) (b:=true) rfl c32<|s_on rfl<|l9 (.own 3 0 x_20.length) rfl<|s_on rfl<|a0w (a6c rfl rfl) fun hl33 => s_on rfl<|y5 (.bool (decide ((x_20.length:Int) ≥ 12))) rfl (.of rfl trivial) rfl<|y5 (.bool (decide ((x_20.length:Int) ≥ 12))) rfl (.of trivial trivial) rfl<|l9 (.bool (decide ((x_20.length:Int) ≥ 12))) rfl<|a0n<|?_;obtain rfl:=os hb1;exact ⟨[],[0,1,2,3],_,_,rfl,rfl,⟨.refl _,⟨.refl _,⟨.refl _,⟨.refl _,trivial⟩⟩⟩⟩,(.refl _)⟩
     ·refine y5 (.ptr 2 0 2) rfl (.of trivial trivial) rfl<|y5 (.ptr 2 0 2) rfl (.of trivial trivial) rfl<|y5 (.int .i64 c_1.Old.Id) rfl (.of nle trivial) rfl<|y5 (.bool (c_1.Old.Id == 0)) rfl (.of rfl trivial) rfl<|l9 (.bool (c_1.Old.Id == 0)) rfl<|a4i (s:=48) (b:=false) rfl (bf c32)<|a0t rfl rfl<|a0t rfl rfl<|a0t rfl rfl<|y5 (.bool false) rfl (.of trivial trivial) rfl<|l9 (.bool false) rfl<|a0n<|?_;obtain rfl:=os hb1;exact ⟨[],[0,1,2,3],_,_,rfl,rfl,⟨.refl _,⟨.refl _,⟨.refl _,⟨.refl _,trivial⟩⟩⟩⟩,(.refl _)⟩
    ·rcases oi hf with ⟨c34,hf⟩ | ⟨c34,hf⟩
     ·refine y8 rfl c34<|sr<|l9 (.int .i64 7) rfl<|dk<|c0x (o:=1) (h2:=[.box 2 (.agg [(.own 1 0 c_2.length),(.int .i64 c_3)]),.rowx 1 (c_2.map (o7 2 o5)) (0 + c_1.Table.toNat) (.own 3 0 x_20.length),.box 6 (.agg [(.int .i64 c_1.Table),(.int .i64 c_1.Id),(.int .i64 c_1.Old.Id),(.lst 1 (c_1.Old.Cells.map (o7 3 l7))),(.int .i64 c_1.New.Id),(.lst 1 (c_1.New.Cells.map (o7 3 l7)))]),.dead]) ex21 rfl rfl rfl (.of_eq (congrArg (AV.lst _) (tk (enc:=o5) x_20))) rfl<|a0f<|?_;obtain rfl:=os hf;exact a2s [.mv 1] [0,1,4] rfl ⟨.of trivial trivial,trivial⟩ rfl (.refl _) (.refl _)
     ·refine y7 rfl (bf c34)<|a0e<|a2r<|a0h<|sr<|l9 (.ptr 0 0 0) rfl<|y5 (.ptr 0 0 0) rfl (.of trivial trivial) rfl<|y5 (.ptr 0 0 0) rfl (.of trivial trivial) rfl<|y5 (.own 1 0 c_2.length) rfl (.of nle trivial) rfl<|y5 (.ptr 2 0 0) rfl (.of trivial trivial) rfl<|y5 (.int .i64 c_1.Table) rfl (.of nle trivial) rfl<|l9 (.own 3 0 x_20.length) rfl<|y5 (.ptr 2 0 1) rfl (.of trivial trivial) rfl<|y5 (.int .i64 c_1.Id) rfl (.of nle trivial) rfl<|y5 (.ptr 2 0 2) rfl (.of trivial trivial) rfl<|y5 (.agg [(.int .i64 c_1.Old.Id),(.lst 1 (c_1.Old.Cells.map (o7 3 l7)))]) rfl (.of nle trivial) rfl<|y5 (.ptr 2 0 4) rfl (.of trivial trivial) rfl<|?_
      refine y5 (.agg [(.int .i64 c_1.New.Id),(.lst 1 (c_1.New.Cells.map (o7 3 l7)))]) rfl (.of nle trivial) rfl ?_
      rcases oo hf with ⟨v_35,hv36,hf⟩ | ⟨hn37,hf⟩
      ·refine a5c (a6g (v:=(.tup [(.own 3 0 x_20.length),(.int .i64 v_35)])) (h2:=[.box 2 (.agg [(.own 1 0 c_2.length),(.int .i64 c_3)]),.rowx 1 (c_2.map (o7 2 o5)) (0 + c_1.Table.toNat) (.own 3 0 x_20.length),.box 6 (.agg [(.int .i64 c_1.Table),(.int .i64 c_1.Id),(.int .i64 c_1.Old.Id),(.lst 1 (c_1.Old.Cells.map (o7 3 l7))),(.int .i64 c_1.New.Id),(.lst 1 (c_1.New.Cells.map (o7 3 l7)))]),.row 2 (x_20.map o5)]) [] [3] (fun _ => rfl) (b8p _ _ _ _ _ hv36) rfl (.refl _) (.refl _) rfl rfl) a6y trivial ?_;refine l9 (.tup [(.own 3 0 x_20.length),(.int .i64 v_35)]) rfl<|y5 (.own 3 0 x_20.length) rfl (.of nle trivial) rfl<|y5 (.int .i64 v_35) rfl (.of nle trivial) rfl<|?_
       obtain ⟨g38,hf⟩:=og hf
       refine a0a (b1u rfl rfl g38.1 g38.2 rfl rfl)<|b5u (c4l (v:=(.own 3 0 x_20.length)) (y':=(.own 3 0 x_20.length)) rfl rfl rfl trivial ⟨rfl,rfl,rfl⟩ ⟨⟨rfl,trivial⟩,trivial⟩ rfl) a6y trivial<|dk<|o6<|o6<|?_
       obtain ⟨s79_40,hb1,hf⟩:=ob hf
       refine a1v ([(0,(.ptr 0 0 0)),(3,(.ptr 2 0 0)),(79,(.bool s79_40))],[.box 2 (.agg [(.own 1 0 c_2.length),(.int .i64 c_3)]),.row 1 (c_2.map (o7 2 o5)),.box 6 (.agg [(.int .i64 c_1.Table),(.int .i64 c_1.Id),(.int .i64 c_1.Old.Id),(.lst 1 (c_1.Old.Cells.map (o7 3 l7))),(.int .i64 c_1.New.Id),(.lst 1 (c_1.New.Cells.map (o7 3 l7)))])]) ?_ ?_
       ·refine a0y ?_
        rcases oi hb1 with ⟨c42,hb1⟩ | ⟨c42,hb1⟩
        ·refine y5 (.ptr 2 0 4) rfl (.of trivial trivial) rfl<|y5 (.ptr 2 0 4) rfl (.of trivial trivial) rfl<|y5 (.int .i64 c_1.New.Id) rfl (.of nle trivial) rfl<|y5 (.bool (c_1.New.Id != 0)) rfl (.of rfl trivial) rfl<|l9 (.bool (c_1.New.Id != 0)) rfl<|a4i (s:=75) (b:=true) rfl c42<|s_on rfl<|y5 (.ptr 2 0 1) rfl (.of trivial trivial) rfl<|s_on rfl<|y5 (.int .i64 c_1.Id) rfl (.of nle trivial) rfl<|s_on rfl<|y5 (.bool (decide (c_1.Id < 9223372036854775807))) rfl (.of rfl trivial) rfl<|y5 (.bool (decide (c_1.Id < 9223372036854775807))) rfl (.of trivial trivial) rfl<|a0n<|?_;obtain rfl:=os hb1;exact ⟨[.cls 1],[0,1,2],_,_,rfl,rfl,⟨.refl _,⟨.refl _,⟨.refl _,trivial⟩⟩⟩,(.cons (.refl _) (.cons ((b3x ex21 (.of_eq (congrArg (AV.lst _) (tk (enc:=o5) x_20))))) (.cons (.refl _) .nil)))⟩
        ·refine y5 (.ptr 2 0 4) rfl (.of trivial trivial) rfl<|y5 (.ptr 2 0 4) rfl (.of trivial trivial) rfl<|y5 (.int .i64 c_1.New.Id) rfl (.of nle trivial) rfl<|y5 (.bool (c_1.New.Id != 0)) rfl (.of rfl trivial) rfl<|l9 (.bool (c_1.New.Id != 0)) rfl<|a4i (s:=75) (b:=false) rfl (bf c42)<|a0t rfl rfl<|a0t rfl rfl<|a0t rfl rfl<|y5 (.bool false) rfl (.of trivial trivial) rfl<|a0n<|?_;obtain rfl:=os hb1;exact ⟨[.cls 1],[0,1,2],_,_,rfl,rfl,⟨.refl _,⟨.refl _,⟨.refl _,trivial⟩⟩⟩,(.cons (.refl _) (.cons ((b3x ex21 (.of_eq (congrArg (AV.lst _) (tk (enc:=o5) x_20))))) (.cons (.refl _) .nil)))⟩
       ·rcases oi hf with ⟨c43,hf⟩ | ⟨c43,hf⟩
        ·refine y8 rfl c43<|a0y<|l9 (.ptr 0 0 0) rfl<|l9 (.ptr 0 0 0) rfl<|y5 (.ptr 0 0 0) rfl (.of trivial trivial) rfl<|y5 (.ptr 0 0 1) rfl (.of trivial trivial) rfl<|y5 (.int .i64 c_3) rfl (.of nle trivial) rfl<|y5 (.ptr 2 0 1) rfl (.of trivial trivial) rfl<|y5 (.int .i64 c_1.Id) rfl (.of nle trivial) rfl<|y5 (.int .i64 (w64 (c_1.Id + 1))) rfl (.of rfl trivial) rfl<|y5 (.int .i64 (if w64 (c_1.Id + 1) > c_3 then w64 (c_1.Id + 1) else c_3)) rfl (.of rfl trivial) rfl<|y5 (.ptr 0 0 0) rfl (.of trivial trivial) rfl<|y5 (.ptr 0 0 1) rfl (.of trivial trivial) rfl<|b5u (a0i (v:=(.int .i64 (if w64 (c_1.Id + 1) > c_3 then w64 (c_1.Id + 1) else c_3))) (y':=(.agg [(.own 1 0 c_2.length),(.int .i64 (if w64 (c_1.Id + 1) > c_3 then w64 (c_1.Id + 1) else c_3))])) rfl rfl rfl trivial ⟨rfl,nle⟩ ⟨⟨rfl,trivial⟩,trivial⟩ rfl) trivial trivial<|?_
         refine dk<|sr<|l9 (.int .i64 0) rfl<|dk<|a0f<|?_;obtain rfl:=os hf;exact a2s [.mv 1] [0,1,3] rfl ⟨.of trivial trivial,trivial⟩ rfl (.refl _) (.refl _)
        ·refine y7 rfl (bf c43)<|a0e<|a0h<|sr<|l9 (.int .i64 0) rfl<|dk<|a0f<|?_;obtain rfl:=os hf;exact a2s [.mv 1] [0,1,3] rfl ⟨.of trivial trivial,trivial⟩ rfl (.refl _) (.refl _)
      ·obtain ⟨r_44,er45,hf⟩:=ob hf
       refine a5c (a6g (v:=(.tup [(.own 4 0 r_44.length),(.int .i64 0)])) (h2:=[.box 2 (.agg [(.own 1 0 c_2.length),(.int .i64 c_3)]),.rowx 1 (c_2.map (o7 2 o5)) (0 + c_1.Table.toNat) (.own 3 0 x_20.length),.box 6 (.agg [(.int .i64 c_1.Table),(.int .i64 c_1.Id),(.int .i64 c_1.Old.Id),(.lst 1 (c_1.Old.Cells.map (o7 3 l7))),(.int .i64 c_1.New.Id),(.lst 1 (c_1.New.Cells.map (o7 3 l7)))]),.dead,.row 2 (r_44.map o5)]) [] [3] (fun _ => rfl) (b8q _ _ _ _ _ er45) rfl (.refl _) (.refl _) rfl rfl) (.inr ⟨⟨(.of nle trivial),rfl⟩,⟨⟨(.of trivial trivial),rfl⟩,⟨⟨(.of nle trivial),rfl⟩,⟨⟨(.of trivial trivial),rfl⟩,⟨⟨(.of trivial trivial),rfl⟩,trivial⟩⟩⟩⟩⟩) trivial ?_
       refine l9 (.tup [(.own 4 0 r_44.length),(.int .i64 0)]) rfl<|y5 (.own 4 0 r_44.length) rfl (.of nle trivial) rfl<|y5 (.int .i64 0) rfl (.of nle trivial) rfl<|?_
       obtain ⟨g46,hf⟩:=og hf
       refine a0a (b1u rfl rfl g46.1 g46.2 rfl rfl)<|b5u (c4l (v:=(.own 4 0 r_44.length)) (y':=(.own 4 0 r_44.length)) rfl rfl rfl trivial ⟨rfl,rfl,rfl⟩ ⟨⟨rfl,trivial⟩,trivial⟩ rfl) trivial trivial<|dk<|o6<|o6<|?_
       obtain ⟨s79_48,hb1,hf⟩:=ob hf
       refine a1v ([(0,(.ptr 0 0 0)),(3,(.ptr 2 0 0)),(79,(.bool s79_48))],[.box 2 (.agg [(.own 1 0 ((c_2.set (0 + c_1.Table.toNat) r_44).length)),(.int .i64 c_3)]),.row 1 ((c_2.set (0 + c_1.Table.toNat) r_44).map (o7 2 o5)),.box 6 (.agg [(.int .i64 c_1.Table),(.int .i64 c_1.Id),(.int .i64 c_1.Old.Id),(.lst 1 (c_1.Old.Cells.map (o7 3 l7))),(.int .i64 c_1.New.Id),(.lst 1 (c_1.New.Cells.map (o7 3 l7)))])]) ?_ ?_
       ·refine a0y ?_
        rcases oi hb1 with ⟨c50,hb1⟩ | ⟨c50,hb1⟩
        ·refine y5 (.ptr 2 0 4) rfl (.of trivial trivial) rfl<|y5 (.ptr 2 0 4) rfl (.of trivial trivial) rfl<|y5 (.int .i64 c_1.New.Id) rfl (.of nle trivial) rfl<|y5 (.bool (c_1.New.Id != 0)) rfl (.of rfl trivial) rfl<|l9 (.bool (c_1.New.Id != 0)) rfl<|a4i (s:=75) (b:=true) rfl c50<|s_on rfl<|y5 (.ptr 2 0 1) rfl (.of trivial trivial) rfl<|s_on rfl<|y5 (.int .i64 c_1.Id) rfl (.of nle trivial) rfl<|s_on rfl<|y5 (.bool (decide (c_1.Id < 9223372036854775807))) rfl (.of rfl trivial) rfl<|y5 (.bool (decide (c_1.Id < 9223372036854775807))) rfl (.of trivial trivial) rfl<|a0n<|?_;obtain rfl:=os hb1;exact ⟨[.cls 1],[0,1,2],_,_,rfl,rfl,⟨.refl _,⟨.refl _,⟨.refl _,trivial⟩⟩⟩,(.cons (.box (.agg (.cons (.of_eq (congrArg (AV.own _ 0) (by simp))) (.cons (.refl _) .nil)))) (.cons ((c8n (.of_eq (congrArg (AV.lst _) (tk (enc:=o5) r_44))))) (.cons (.refl _) .nil)))⟩
        ·refine y5 (.ptr 2 0 4) rfl (.of trivial trivial) rfl<|y5 (.ptr 2 0 4) rfl (.of trivial trivial) rfl<|y5 (.int .i64 c_1.New.Id) rfl (.of nle trivial) rfl<|y5 (.bool (c_1.New.Id != 0)) rfl (.of rfl trivial) rfl<|l9 (.bool (c_1.New.Id != 0)) rfl<|a4i (s:=75) (b:=false) rfl (bf c50)<|a0t rfl rfl<|a0t rfl rfl<|a0t rfl rfl<|y5 (.bool false) rfl (.of trivial trivial) rfl<|a0n<|?_;obtain rfl:=os hb1;exact ⟨[.cls 1],[0,1,2],_,_,rfl,rfl,⟨.refl _,⟨.refl _,⟨.refl _,trivial⟩⟩⟩,(.cons (.box (.agg (.cons (.of_eq (congrArg (AV.own _ 0) (by simp))) (.cons (.refl _) .nil)))) (.cons ((c8n (.of_eq (congrArg (AV.lst _) (tk (enc:=o5) r_44))))) (.cons (.refl _) .nil)))⟩
       ·rcases oi hf with ⟨c51,hf⟩ | ⟨c51,hf⟩
        ·refine y8 rfl c51<|a0y<|l9 (.ptr 0 0 0) rfl<|l9 (.ptr 0 0 0) rfl<|y5 (.ptr 0 0 0) rfl (.of trivial trivial) rfl<|y5 (.ptr 0 0 1) rfl (.of trivial trivial) rfl<|y5 (.int .i64 c_3) rfl (.of nle trivial) rfl<|y5 (.ptr 2 0 1) rfl (.of trivial trivial) rfl<|y5 (.int .i64 c_1.Id) rfl (.of nle trivial) rfl<|y5 (.int .i64 (w64 (c_1.Id + 1))) rfl (.of rfl trivial) rfl<|y5 (.int .i64 (if w64 (c_1.Id + 1) > c_3 then w64 (c_1.Id + 1) else c_3)) rfl (.of rfl trivial) rfl<|y5 (.ptr 0 0 0) rfl (.of trivial trivial) rfl<|y5 (.ptr 0 0 1) rfl (.of trivial trivial) rfl<|b5u (a0i (v:=(.int .i64 (if w64 (c_1.Id + 1) > c_3 then w64 (c_1.Id + 1) else c_3))) (y':=(.agg [(.own 1 0 ((c_2.set (0 + c_1.Table.toNat) r_44).length)),(.int .i64 (if w64 (c_1.Id + 1) > c_3 then w64 (c_1.Id + 1) else c_3))])) rfl rfl rfl trivial ⟨rfl,nle⟩ ⟨⟨rfl,trivial⟩,trivial⟩ rfl) trivial trivial<|?_
         refine dk<|sr<|l9 (.int .i64 0) rfl<|dk<|a0f<|?_;obtain rfl:=os hf;exact a2s [.mv 1] [0,1,3] rfl ⟨.of trivial trivial,trivial⟩ rfl (.refl _) (.refl _)
        ·refine y7 rfl (bf c51)<|a0e<|a0h<|sr<|l9 (.int .i64 0) rfl<|dk<|a0f<|?_;obtain rfl:=os hf;exact a2s [.mv 1] [0,1,3] rfl ⟨.of trivial trivial,trivial⟩ rfl (.refl _) (.refl _)

/- impl.applyAll -/
def c62:a0r :=
 (.seq (.reg (tq 2 (.box 2 (.t 0)) (tq 4 (.box 2 (.c (.agg [.nil,(.int .i64 0)]))) (tm 5 (.c (.int .i64 0)) .done))))
 (.seq (.seq (.reg (tq 10 (.faddr 0 (.t 2)) (tq 11 (.load 1 false (.t 10)) (tq 12 (.call 70 [(.t 11),(.c (.fn 86 []))]) .done))))
 (.cond (.t 12) (.seq (.reg (tq 13 (.build [.nil,(.int .i64 0)] []) (.q ⟨none,none,.store 2 (.t 4) (.t 13)⟩
 (tm 5 (.c (.int .i64 1)) .done))))
 .ret)
 .skip))
 (.seq (.reg (tq 14 (.load 2 true (.t 2)) (tq 15 (.call 87 [(.t 14)]) (tq 6 (.box 2 (.c (.agg [.nil,(.int .i64 0)]))) (.q ⟨none,none,.store 2 (.t 6) (.t 15)⟩
 .done)))))
 (.seq (.seq (.reg (tm 16 (.t 1) (tq 17 (.len (.t 16)) (tm 18 (.c (.int .i64 0)) .done))))
 (.block 0 (.loop (.seq (.reg (tq 19 (.bin .lss (.t 18) (.t 17)) .done))
 (.seq (.cond (.t 19) .skip
 (.exit 0))
 (.seq (.block 1 (.seq (.reg (tq 20 (.iaddr 6 (.t 16) (.t 18)) (tq 21 (.load 6 true (.t 20)) (tq 8 (.box 6 (.c (.agg [(.int .i64 0),(.int .i64 0),(.int .i64 0),.nil,(.int .i64 0),.nil]))) (.q ⟨none,none,.store 6 (.t 8) (.t 21)⟩
 .done)))))
 (.seq (.reg (tq 22 (.load 6 true (.t 8)) (tq 23 (.call 88 [(.t 6),(.t 22)]) (tm 9 (.t 23) .done))))
 (.seq (.reg (tm 24 (.t 9) (tq 25 (.bin .neq (.t 24) (.c (.int .i64 0))) .done)))
 (.cond (.t 25) (.seq (.reg (tq 26 (.load 2 true (.t 6)) (tm 27 (.t 9) (.q ⟨none,none,.store 2 (.t 4) (.t 26)⟩
 (tm 5 (.t 27) .done)))))
 .ret)
 .skip)))))
 (.reg (tq 28 (.bin .add (.t 18) (.c (.int .i64 1))) (tm 18 (.t 28) .done)))))))))
 (.cut (.seq (.reg (tq 29 (.load 2 true (.t 6)) (.q ⟨none,none,.store 2 (.t 4) (.t 29)⟩
 (tm 5 (.c (.int .i64 0)) .done))))
 .ret))))))
theorem e6n:a1g Try.prog Try.f62 = some (c62.erase,[.load 2 true (.t 4),.mov (.t 5)],30):=by kernel_rfl
def a3r :List y9 → Int → (List (List x8)) → Option (Fl (a0l × Int) (Int × (List (List x8))))
  | [],x_25,x_26 =>
    some (.go (x_25,x_26))
  | x_42 :: xs,x_25,x_26 =>
    (a5t x_42 x_26 x_25).bind fun r_43 =>
    if (r_43.1 != 0) then
    some (.ret (r_43.2,r_43.1))
    else
    a3r xs  r_43.2.Next r_43.2.Tables

def a9v (x_1:a0l) (list_2:(List y9)):Option (a0l × Int) :=
    (a1t x_1.Tables a4v).bind fun r_3 =>
    if r_3 then
    some ((⟨[],0⟩:a0l),1)
    else
    (a8j x_1).bind fun r_6 =>
    (a3r list_2 r_6.Next r_6.Tables).bind fun q => (match q with
    | .ret r => some r
    | .go (x_33,x_34) =>
    some ((⟨x_34,x_33⟩:a0l),0))
theorem c2w (x_1:a0l) (list_2:(List y9)) (r:(a0l × Int)) (hf:a9v x_1 list_2 = some r):a0b Try.prog 62 .fresh [(a0z x_1),(.lst 6 (list_2.map o8))] (.tup [(a0z r.1),(.int .i64 r.2)]):=by
 refine a0b.of_awp' (md:=⟨true,true,true⟩) (fun _ => rfl) (fun _ => rfl) (fun h => by cases h) mixed Try.func62 e6n nle ?_;rw [a0q];unfold a9v at hf;unfold c62;refine (show awp Try.prog ⟨true,true,true⟩ 0 _ (ofL [(0,(a0z x_1)),(1,(.lst 6 (list_2.map o8)))]) [] _ from ?_);refine sr<|a0a (a1m (j:=0) (c:=(.agg [(.lst 1 (x_1.Tables.map (o7 2 o5))),(.int .i64 x_1.Next)])) rfl trivial rfl rfl)<|a0a (a1m (j:=1) (c:=(.agg [.nil,(.int .i64 0)])) rfl trivial rfl rfl)<|l9 (.int .i64 0) rfl<|dk<|o6<|sr<|?_
 obtain ⟨r_3,er4,hf⟩:=ob hf
 refine y5 (.ptr 0 0 0) rfl (.of trivial trivial) rfl<|y5 (.lst 1 (x_1.Tables.map (o7 2 o5))) rfl (.of nle trivial) rfl<|?_;refine a0a (a1o (a7v _ _ _ er4 86 [] (by kernel_rfl) (fun _ _ => rfl) (fun _ => rfl) (fun a0 r h => b9q a0 r h)) rfl (.refl _) rfl) ?_;refine dk<|?_
 rcases oi hf with ⟨c5,hf⟩ | ⟨c5,hf⟩
 ·refine y8 rfl c5<|sr<|y5 (.agg [.nil,(.int .i64 0)]) rfl (.of trivial trivial) rfl<|a1p (a0i (v:=(.agg [.nil,(.int .i64 0)])) (y':=(.agg [.nil,(.int .i64 0)])) rfl rfl rfl trivial ⟨rfl,nle⟩ ⟨⟨rfl,trivial⟩,⟨⟨rfl,trivial⟩,trivial⟩⟩ rfl)<|l9 (.int .i64 1) rfl<|dk<|a0f<|?_;obtain rfl:=os hf;exact a5e ⟨.of nle trivial,⟨.of trivial trivial,trivial⟩⟩ rfl (by decide) (.tup (.cons (.agg (.cons (.nil _) (.cons (.refl _) .nil))) (.cons (.refl _) .nil)))
 ·refine y7 rfl (bf c5)<|a0e<|a0h<|sr<|?_
  obtain ⟨r_6,er7,hf⟩:=ob hf
  refine y5 (.agg [(.lst 1 (x_1.Tables.map (o7 2 o5))),(.int .i64 x_1.Next)]) rfl (.of nle trivial) rfl<|a0a (a3j (v:=(.agg [(.own 2 0 r_6.Tables.length),(.int .i64 r_6.Next)])) (h':=[.row 1 (r_6.Tables.map (o7 2 o5))]) (c1e _ _ er7) rfl (.refl _) (by simp only [a1r,a1q,List.length_map,a5w,List.nil_append,List.append_nil,List.cons_append];rfl))<|a0a (a1m (j:=3) (c:=(.agg [.nil,(.int .i64 0)])) rfl trivial rfl rfl)<|a1p (a0i (v:=(.agg [(.own 2 0 r_6.Tables.length),(.int .i64 r_6.Next)])) (y':=(.agg [(.own 2 0 r_6.Tables.length),(.int .i64 r_6.Next)])) rfl rfl rfl trivial ⟨rfl,nle⟩ ⟨⟨rfl,trivial⟩,⟨⟨rfl,trivial⟩,trivial⟩⟩ rfl)<|?_
  refine dk<|o6<|sr<|l9 (.lst 6 (list_2.map o8)) rfl<|a0w (a1b (enc:=o8) rfl) fun hl8 => l9 (.int .i64 0) rfl<|dk<|?_
  obtain ⟨p35,hb1,hf⟩:=ob hf
  refine a2q (X:={q:(Int × (List (List x8))) // p35 = .go q}) (fun q => ([(4,(.ptr 0 0 0)),(6,(.ptr 1 0 0))],[.box 2 (.agg [.nil,(.int .i64 0)]),.box 2 (.agg [(.own 2 0 q.1.2.length),(.int .i64 q.1.1)]),.row 1 (q.1.2.map (o7 2 o5))])) ?_ ?_
  ·refine a1d (X:={q:(Nat × Int × (List (List x8))) // a3r (list_2.drop q.1) q.2.1 q.2.2 = some p35}) (fun q => ([(4,(.ptr 0 0 0)),(6,(.ptr 1 0 0)),(16,(.lst 6 (list_2.map o8))),(17,(.int .i64 (list_2.length:Int))),(18,(.int .i64 (q.1.1:Int)))],[.box 2 (.agg [.nil,(.int .i64 0)]),.box 2 (.agg [(.own 2 0 q.1.2.2.length),(.int .i64 q.1.2.1)]),.row 1 (q.1.2.2.map (o7 2 o5))])) (fun q => list_2.length - q.1.1) ⟨(0,r_6.Next,r_6.Tables),hb1⟩ ⟨[],[1,3,2],_,_,rfl,rfl,⟨.refl _,⟨.refl _,⟨.refl _,⟨.refl _,⟨.refl _,trivial⟩⟩⟩⟩⟩,(.refl _)⟩ ?_
   rintro ⟨⟨s18_24,x_25,x_26⟩,hc1⟩
   have hc1:a3r (list_2.drop s18_24) x_25 x_26 = some p35:=hc1
   refine (show awp Try.prog ⟨true,true,true⟩ 0 _ (ofL [(4,(.ptr 0 0 0)),(6,(.ptr 1 0 0)),(16,(.lst 6 (list_2.map o8))),(17,(.int .i64 (list_2.length:Int))),(18,(.int .i64 (s18_24:Int)))]) [.box 2 (.agg [.nil,(.int .i64 0)]),.box 2 (.agg [(.own 2 0 x_26.length),(.int .i64 x_25)]),.row 1 (x_26.map (o7 2 o5))] _ from ?_)
   rcases a4u list_2 s18_24 with ⟨hie38,hd41⟩ | ⟨hlt36,x_42,hx37,hd41⟩
   ·rw [hd41,a3r.eq_1] at hc1
    have hq40:=dlf hie38
    refine sr<|y5 (.bool (decide ((s18_24:Int) < (list_2.length:Int)))) rfl (.of rfl trivial) rfl<|dk<|o6<|y7 rfl hq40<|a2e<|a2d<|a1l<|a2c<|?_;obtain rfl:=os hc1;exact a5g ⟨_,rfl⟩ ⟨[],[0,1,2],_,_,rfl,rfl,⟨.refl _,⟨.refl _,trivial⟩⟩,(.refl _)⟩
   ·rw [hd41,a3r.eq_2] at hc1
    have hq40:=dlt hlt36
    refine sr<|y5 (.bool (decide ((s18_24:Int) < (list_2.length:Int)))) rfl (.of rfl trivial) rfl<|dk<|o6<|y8 rfl hq40<|a0e<|a0h<|o6<|a2u<|sr<|a0a (a1h (enc:=o8) rfl rfl hx37)<|y5 (o8 x_42) rfl (.of nle trivial) rfl<|a0a (a1m (j:=3) (c:=(.agg [(.int .i64 0),(.int .i64 0),(.int .i64 0),.nil,(.int .i64 0),.nil])) rfl trivial rfl rfl)<|a1p (a0i (v:=(.agg [(.int .i64 x_42.Table),(.int .i64 x_42.Id),(.int .i64 x_42.Old.Id),(.lst 1 (x_42.Old.Cells.map (o7 3 l7))),(.int .i64 x_42.New.Id),(.lst 1 (x_42.New.Cells.map (o7 3 l7)))])) (y':=(.agg [(.int .i64 x_42.Table),(.int .i64 x_42.Id),(.int .i64 x_42.Old.Id),(.lst 1 (x_42.Old.Cells.map (o7 3 l7))),(.int .i64 x_42.New.Id),(.lst 1 (x_42.New.Cells.map (o7 3 l7)))])) rfl rfl rfl trivial ⟨rfl,nle⟩ ⟨⟨rfl,trivial⟩,⟨⟨rfl,trivial⟩,⟨⟨rfl,trivial⟩,⟨⟨rfl,trivial⟩,⟨⟨rfl,trivial⟩,⟨⟨rfl,trivial⟩,trivial⟩⟩⟩⟩⟩⟩ rfl)<|?_
    refine dk<|sr<|?_
    obtain ⟨r_43,er44,hc1⟩:=ob hc1
    refine y5 (.agg [(.int .i64 x_42.Table),(.int .i64 x_42.Id),(.int .i64 x_42.Old.Id),(.lst 1 (x_42.Old.Cells.map (o7 3 l7))),(.int .i64 x_42.New.Id),(.lst 1 (x_42.New.Cells.map (o7 3 l7)))]) rfl (.of nle trivial) rfl ?_;refine a0a (a6g (v:=(.int .i64 r_43.1)) (h2:=[.box 2 (.agg [.nil,(.int .i64 0)]),.box 2 (.agg [(.own 4 0 r_43.2.Tables.length),(.int .i64 r_43.2.Next)]),.dead,.box 6 (.agg [(.int .i64 x_42.Table),(.int .i64 x_42.Id),(.int .i64 x_42.Old.Id),(.lst 1 (x_42.Old.Cells.map (o7 3 l7))),(.int .i64 x_42.New.Id),(.lst 1 (x_42.New.Cells.map (o7 3 l7)))]),.row 1 (r_43.2.Tables.map (o7 2 o5))]) [] [1,2] (fun _ => rfl) (b5l _ _ _ _ er44) rfl (.refl _) (.refl _) rfl rfl) ?_
    refine l9 (.int .i64 r_43.1) rfl<|dk<|sr<|l9 (.int .i64 r_43.1) rfl<|y5 (.bool (r_43.1 != 0)) rfl (.of rfl trivial) rfl<|dk<|?_
    rcases oi hc1 with ⟨c45,hc1⟩ | ⟨c45,hc1⟩
    ·refine y8 rfl c45<|sr<|y5 (.agg [(.own 4 0 r_43.2.Tables.length),(.int .i64 r_43.2.Next)]) rfl (.of nle trivial) rfl<|l9 (.int .i64 r_43.1) rfl<|a1p (a0i (v:=(.agg [(.own 4 0 r_43.2.Tables.length),(.int .i64 r_43.2.Next)])) (y':=(.agg [(.own 4 0 r_43.2.Tables.length),(.int .i64 r_43.2.Next)])) rfl rfl rfl trivial ⟨rfl,nle⟩ ⟨⟨rfl,trivial⟩,⟨⟨rfl,trivial⟩,trivial⟩⟩ rfl)<|l9 (.int .i64 r_43.1) rfl<|dk<|a0f<|?_;obtain rfl:=os hc1;obtain rfl:=os hf;exact a5e ⟨.of nle trivial,⟨.of trivial trivial,trivial⟩⟩ rfl (by decide) (.tup (.cons (.agg (.cons (.of_eq (congrArg (AV.lst _) (tk (enc:=(o7 2 o5)) r_43.2.Tables))) (.cons (.refl _) .nil))) (.cons (.refl _) .nil)))
    ·refine y7 rfl (bf c45)<|a0e<|a2r<|a0h<|a0y<|y5 (.int .i64 (w64 ((s18_24:Int) + 1))) rfl (.of rfl trivial) rfl<|l9 (.int .i64 (w64 ((s18_24:Int) + 1))) rfl<|a0n<|?_;exact a1j ⟨((s18_24 + 1),r_43.2.Next,r_43.2.Tables),hc1⟩ (mul hlt36) ⟨[],[0,1,4],_,_,rfl,rfl,⟨.refl _,⟨.refl _,⟨.refl _,⟨.refl _,⟨.of_eq (congrArg (AV.int _) (a1k hlt36 hl8)),trivial⟩⟩⟩⟩⟩,(.refl _)⟩
  ·rintro ⟨⟨x_33,x_34⟩,rfl⟩
   refine sr<|y5 (.agg [(.own 2 0 x_34.length),(.int .i64 x_33)]) rfl (.of nle trivial) rfl<|a1p (a0i (v:=(.agg [(.own 2 0 x_34.length),(.int .i64 x_33)])) (y':=(.agg [(.own 2 0 x_34.length),(.int .i64 x_33)])) rfl rfl rfl trivial ⟨rfl,nle⟩ ⟨⟨rfl,trivial⟩,⟨⟨rfl,trivial⟩,trivial⟩⟩ rfl)<|l9 (.int .i64 0) rfl<|dk<|a0f<|?_;obtain rfl:=os hf;exact a5e ⟨.of nle trivial,⟨.of trivial trivial,trivial⟩⟩ rfl (by decide) (.tup (.cons (.agg (.cons (.of_eq (congrArg (AV.lst _) (tk (enc:=(o7 2 o5)) x_34))) (.cons (.refl _) .nil))) (.cons (.refl _) .nil)))

/- impl.UndoChanges -/
def a5z (x:a0l) (list:List y9):Option (a0l × Int) :=
    (a5l list).bind fun b => match b with
      | true => if list.length ≤ 100000 then a9v x (list.reverse.map fun c => ⟨c.Table,c.Id,c.New,c.Old⟩) else none
      | false => some (⟨[],0⟩,2)
/- HAND -/
theorem b3c (x:a0l) (list:List y9) (r:a0l × Int) (hf:a5z x list = some r):a0b Try.prog 30 .fresh [(a0z x),(.lst 6 (list.map o8))] (.tup [(a0z r.1),(.int .i64 r.2)]):=by
  unfold a5z at hf
  obtain ⟨b,eb,hf⟩:=ob hf
  cases b with
  | true =>
    dsimp only at hf
    split at hf
    · rename_i hn
      have h62:=c2w _ _ _ hf
      rw [List.map_map] at h62
      exact e0j (e:=o8) (e':=o8 ∘ fun c => ⟨c.Table,c.Id,c.New,c.Old⟩) (fun _ => rfl) (fun w x cs f h => e4z h) hn (a9g _ _ eb) h62
    · cases hf
  | false =>
    obtain rfl:=os hf
    exact c8q (a9g _ _ eb)

/- laws.eqAtom -/
def e4n:a0r :=
 (.seq (.reg (tq 2 (.box 3 (.t 0)) (tq 3 (.box 3 (.t 1)) (tm 4 (.c (.bool false)) .done))))
 (.seq (.seq (.reg (tq 5 (.faddr 0 (.t 2)) (tq 6 (.load 1 false (.t 5)) (tq 7 (.faddr 0 (.t 3)) (tq 8 (.load 1 false (.t 7)) (tq 9 (.bin .neq (.t 6) (.t 8)) .done))))))
 (.cond (.t 9) (.seq (.reg (tm 4 (.c (.bool false)) .done))
 .ret)
 .skip))
 (.seq (.seq (.reg (tq 10 (.faddr 1 (.t 2)) (tq 11 (.load 1 false (.t 10)) (tq 12 (.faddr 1 (.t 3)) (tq 13 (.load 1 false (.t 12)) (tq 14 (.bin .neq (.t 11) (.t 13)) .done))))))
 (.cond (.t 14) (.seq (.reg (tm 4 (.c (.bool false)) .done))
 .ret)
 .skip))
 (.seq (.seq (.reg (tq 15 (.faddr 2 (.t 2)) (tq 16 (.load 1 false (.t 15)) (tq 17 (.faddr 2 (.t 3)) (tq 18 (.load 1 false (.t 17)) (tq 19 (.bin .neq (.t 16) (.t 18)) .done))))))
 (.cond (.t 19) (.seq (.reg (tm 4 (.c (.bool false)) .done))
 .ret)
 .skip))
 (.seq (.reg (tm 4 (.c (.bool true)) .done))
 .ret)))))
theorem e4o:a1g Try.prog Try.f118 = some (e4n.erase,[.mov (.t 4)],20):=by kernel_rfl
def b2c (a_1:a0c) (b_2:a0c):Option Bool :=
    if (a_1.Kind != b_2.Kind) then
    some false
    else
    if (a_1.N != b_2.N) then
    some false
    else
    if (!(a_1.T == b_2.T)) then
    some false
    else
    some true
theorem c6i (a_1:a0c) (b_2:a0c) (r:Bool) (hf:b2c a_1 b_2 = some r):a0b Try.prog 118 .flat [(l7 a_1),(l7 b_2)] (.bool r):=by
 refine a0b.of_awp mixed Try.func118 e4o nle ?_;rw [a0q];unfold b2c at hf;unfold e4n;refine (show awp Try.prog false 0 _ (ofL [(0,(l7 a_1)),(1,(l7 b_2))]) [] _ from ?_);refine sr<|a0a (a1m (j:=0) (c:=(.agg [(.int .i64 a_1.Kind),(.int .i64 a_1.N),(.str a_1.T)])) rfl trivial rfl rfl)<|a0a (a1m (j:=1) (c:=(.agg [(.int .i64 b_2.Kind),(.int .i64 b_2.N),(.str b_2.T)])) rfl trivial rfl rfl)<|l9 (.bool false) rfl<|dk<|o6<|sr<|y5 (.ptr 0 0 0) rfl trivial rfl<|y5 (.int .i64 a_1.Kind) rfl nle rfl<|y5 (.ptr 1 0 0) rfl trivial rfl<|y5 (.int .i64 b_2.Kind) rfl nle rfl<|y5 (.bool (a_1.Kind != b_2.Kind)) rfl rfl rfl<|?_
 refine dk<|?_
 rcases oi hf with ⟨c3,hf⟩ | ⟨c3,hf⟩
 ·refine y8 rfl c3<|sr<|l9 (.bool false) rfl<|dk<|a0f<|?_;obtain rfl:=os hf;exact a0k ⟨trivial,trivial⟩ rfl (.refl _)
 ·refine y7 rfl (bf c3)<|a0e<|a0h<|o6<|sr<|y5 (.ptr 0 0 1) rfl trivial rfl<|y5 (.int .i64 a_1.N) rfl nle rfl<|y5 (.ptr 1 0 1) rfl trivial rfl<|y5 (.int .i64 b_2.N) rfl nle rfl<|y5 (.bool (a_1.N != b_2.N)) rfl rfl rfl<|dk<|?_
  rcases oi hf with ⟨c4,hf⟩ | ⟨c4,hf⟩
  ·refine y8 rfl c4<|sr<|l9 (.bool false) rfl<|dk<|a0f<|?_;obtain rfl:=os hf;exact a0k ⟨trivial,trivial⟩ rfl (.refl _)
  ·refine y7 rfl (bf c4)<|a0e<|a0h<|o6<|sr<|y5 (.ptr 0 0 2) rfl trivial rfl<|y5 (.str a_1.T) rfl nle rfl<|y5 (.ptr 1 0 2) rfl trivial rfl<|y5 (.str b_2.T) rfl nle rfl<|y5 (.bool (!(a_1.T == b_2.T))) rfl trivial rfl<|dk<|?_
   rcases oi hf with ⟨c5,hf⟩ | ⟨c5,hf⟩
   ·refine y8 rfl c5<|sr<|l9 (.bool false) rfl<|dk<|a0f<|?_;obtain rfl:=os hf;exact a0k ⟨trivial,trivial⟩ rfl (.refl _)
   ·refine y7 rfl (bf c5)<|a0e<|a0h<|sr<|l9 (.bool true) rfl<|dk<|a0f<|?_;obtain rfl:=os hf;exact a0k ⟨trivial,trivial⟩ rfl (.refl _)

/- laws.eqAtomS -/
def e4p:a0r :=
 (.seq (.reg (tm 4 (.c (.bool false)) .done))
 (.seq (.seq (.reg (tm 6 (.t 0) (tq 7 (.len (.t 6)) (tm 8 (.t 1) (tq 9 (.len (.t 8)) (tq 10 (.bin .neq (.t 7) (.t 9)) .done))))))
 (.cond (.t 10) (.seq (.reg (tm 4 (.c (.bool false)) .done))
 .ret)
 .skip))
 (.seq (.seq (.reg (tm 5 (.c (.int .i64 0)) .done))
 (.block 0 (.loop (.seq (.seq (.reg (tm 11 (.t 5) (tm 12 (.t 0) (tq 13 (.len (.t 12)) (tq 14 (.bin .lss (.t 11) (.t 13)) .done)))))
 (.cond (.t 14) .skip
 (.exit 0)))
 (.seq (.block 1 (.seq (.reg (tm 17 (.t 0) (tm 18 (.t 5) (tq 19 (.iaddr 3 (.t 17) (.t 18)) (tq 20 (.load 3 true (.t 19)) (tm 21 (.t 1) (tm 22 (.t 5) (tq 23 (.iaddr 3 (.t 21) (.t 22)) (tq 24 (.load 3 true (.t 23)) (.l ⟨(some 25),none,.call 118 [(.t 20),(.t 24)]⟩ []
 (tq 26 (.not (.t 25)) .done) .non))))))))))
 (.cond (.t 26) (.seq (.reg (tm 4 (.c (.bool false)) .done))
 .ret)
 .skip)))
 (.reg (tm 15 (.t 5) (tq 16 (.bin .add (.t 15) (.c (.int .i64 1))) (tm 5 (.t 16) .done)))))))))
 (.cut (.seq (.reg (tm 4 (.c (.bool true)) .done))
 .ret)))))
theorem e4q:a1g Try.prog Try.f104 = some (e4p.erase,[.mov (.t 4)],27):=by kernel_rfl
def a4g (b_2:(List a0c)):List a0c → Nat → Option (Fl Bool Unit)
  | [],i_25 =>
    some (.go ())
  | x_43 :: xs,i_25 =>
    (idx b_2 (i_25:Int)).bind fun x_46 =>
    (b2c x_43 x_46).bind fun r_48 =>
    if (!r_48) then
    some (.ret false)
    else
    a4g b_2 xs (i_25 + 1)

def b1d (a_1:(List a0c)) (b_2:(List a0c)):Option Bool :=
    if ((a_1.length:Int) != (b_2.length:Int)) then
    some false
    else
    (a4g b_2 a_1 0).bind fun q => (match q with
    | .ret r => some r
    | .go _ =>
    some true)
theorem c5c (a_1:(List a0c)) (b_2:(List a0c)) (r:Bool) (hf:b1d a_1 b_2 = some r):a0b Try.prog 104 .flat [(.lst 3 (a_1.map l7)),(.lst 3 (b_2.map l7))] (.bool r):=by
 refine a0b.of_awp mixed Try.func104 e4q nle ?_;rw [a0q];unfold b1d at hf;unfold e4p;refine (show awp Try.prog false 0 _ (ofL [(0,(.lst 3 (a_1.map l7))),(1,(.lst 3 (b_2.map l7)))]) [] _ from ?_);refine sr<|l9 (.bool false) rfl<|dk<|o6<|sr<|l9 (.lst 3 (a_1.map l7)) rfl<|a0w (a1b (enc:=l7) rfl) fun hl3 => l9 (.lst 3 (b_2.map l7)) rfl<|a0w (a1b (enc:=l7) rfl) fun hl4 => y5 (.bool ((a_1.length:Int) != (b_2.length:Int))) rfl rfl rfl<|dk<|?_
 rcases oi hf with ⟨c5,hf⟩ | ⟨c5,hf⟩
 ·refine y8 rfl c5<|sr<|l9 (.bool false) rfl<|dk<|a0f<|?_;obtain rfl:=os hf;exact a0k ⟨trivial,trivial⟩ rfl (.refl _)
 ·refine y7 rfl (bf c5)<|a0e<|a0h<|o6<|sr<|l9 (.int .i64 0) rfl<|dk<|?_
  obtain ⟨p36,hb1,hf⟩:=ob hf
  refine a2q (X:={q:Unit // p36 = .go q}) (fun q => ([],[])) ?_ ?_
  ·refine a1d (X:={q:Nat // a4g b_2 (a_1.drop q) q = some p36}) (fun q => ([(0,(.lst 3 (a_1.map l7))),(1,(.lst 3 (b_2.map l7))),(5,(.int .i64 (q.1:Int)))],[])) (fun q => a_1.length - q.1) ⟨0,hb1⟩ ⟨[],[],_,_,rfl,rfl,⟨.refl _,⟨.refl _,⟨.refl _,trivial⟩⟩⟩,(.refl _)⟩ ?_
   rintro ⟨i_25,hc1⟩
   have hc1:a4g b_2 (a_1.drop i_25) i_25 = some p36:=hc1
   refine (show awp Try.prog false 0 _ (ofL [(0,(.lst 3 (a_1.map l7))),(1,(.lst 3 (b_2.map l7))),(5,(.int .i64 (i_25:Int)))]) [] _ from ?_)
   rcases a4u a_1 i_25 with ⟨hie39,hd42⟩ | ⟨hlt37,x_43,hx38,hd42⟩
   ·rw [hd42,a4g.eq_1] at hc1
    have hq41:=dlf hie39
    refine o6<|sr<|l9 (.int .i64 (i_25:Int)) rfl<|l9 (.lst 3 (a_1.map l7)) rfl<|a0w (a1b (enc:=l7) rfl) fun hl44 => y5 (.bool (decide ((i_25:Int) < (a_1.length:Int)))) rfl rfl rfl<|dk<|y7 rfl hq41<|a2e<|a2d<|a1l<|a2c<|?_;obtain rfl:=os hc1;exact a5g ⟨_,rfl⟩ ⟨[],[],_,_,rfl,rfl,trivial,(.refl _)⟩
   ·rw [hd42,a4g.eq_2] at hc1
    have hq41:=dlt hlt37
    refine o6<|sr<|l9 (.int .i64 (i_25:Int)) rfl<|l9 (.lst 3 (a_1.map l7)) rfl<|a0w (a1b (enc:=l7) rfl) fun hl45 => y5 (.bool (decide ((i_25:Int) < (a_1.length:Int)))) rfl rfl rfl<|dk<|y8 rfl hq41<|a0e<|a0h<|o6<|a2u<|sr<|?_
    obtain ⟨x_46,ex47,hc1⟩:=ob hc1
    obtain ⟨r_48,er49,hc1⟩:=ob hc1
    refine l9 (.lst 3 (a_1.map l7)) rfl<|l9 (.int .i64 (i_25:Int)) rfl<|a0a (a1h (enc:=l7) rfl rfl hx38)<|y5 (l7 x_43) rfl nle rfl<|l9 (.lst 3 (b_2.map l7)) rfl<|l9 (.int .i64 (i_25:Int)) rfl<|a0a (a5k (enc:=l7) rfl rfl (b5j ex47) (b5k ex47))<|y5 (l7 x_46) rfl nle rfl<|a5c (a1o (c6i _ _ _ er49) rfl (.refl _) rfl) a6y trivial<|y5 (.bool (!r_48)) rfl trivial rfl<|dk<|?_
    rcases oi hc1 with ⟨c50,hc1⟩ | ⟨c50,hc1⟩
    ·refine y8 rfl c50<|sr<|l9 (.bool false) rfl<|dk<|a0f<|?_;obtain rfl:=os hc1;obtain rfl:=os hf;exact a0k ⟨trivial,trivial⟩ rfl (.refl _)
    ·refine y7 rfl (bf c50)<|a0e<|a2r<|a0h<|a0y<|l9 (.int .i64 (i_25:Int)) rfl<|y5 (.int .i64 (w64 ((i_25:Int) + 1))) rfl rfl rfl<|l9 (.int .i64 (w64 ((i_25:Int) + 1))) rfl<|a0n<|?_;exact a1j ⟨(i_25 + 1),hc1⟩ (mul hlt37) ⟨[],[],_,_,rfl,rfl,⟨.refl _,⟨.refl _,⟨.of_eq (congrArg (AV.int _) (a1k hlt37 hl45)),trivial⟩⟩⟩,(.refl _)⟩
  ·rintro ⟨_,rfl⟩
   refine sr<|l9 (.bool true) rfl<|dk<|a0f<|?_;obtain rfl:=os hf;exact a0k ⟨trivial,trivial⟩ rfl (.refl _)

/- laws.eqAtomSS -/
def c82:a0r :=
 (.seq (.reg (tm 4 (.c (.bool false)) .done))
 (.seq (.seq (.reg (tm 6 (.t 0) (tq 7 (.len (.t 6)) (tm 8 (.t 1) (tq 9 (.len (.t 8)) (tq 10 (.bin .neq (.t 7) (.t 9)) .done))))))
 (.cond (.t 10) (.seq (.reg (tm 4 (.c (.bool false)) .done))
 .ret)
 .skip))
 (.seq (.seq (.reg (tm 5 (.c (.int .i64 0)) .done))
 (.block 0 (.loop (.seq (.seq (.reg (tm 11 (.t 5) (tm 12 (.t 0) (tq 13 (.len (.t 12)) (tq 14 (.bin .lss (.t 11) (.t 13)) .done)))))
 (.cond (.t 14) .skip
 (.exit 0)))
 (.seq (.block 1 (.seq (.reg (tm 17 (.t 0) (tm 18 (.t 5) (tq 19 (.iaddr 1 (.t 17) (.t 18)) (tq 20 (.load 1 false (.t 19)) (tm 21 (.t 1) (tm 22 (.t 5) (tq 23 (.iaddr 1 (.t 21) (.t 22)) (tq 24 (.load 1 false (.t 23)) (.l ⟨(some 25),none,.call 104 [(.t 20),(.t 24)]⟩ []
 (tq 26 (.not (.t 25)) .done) .non))))))))))
 (.cond (.t 26) (.seq (.reg (tm 4 (.c (.bool false)) .done))
 .ret)
 .skip)))
 (.reg (tm 15 (.t 5) (tq 16 (.bin .add (.t 15) (.c (.int .i64 1))) (tm 5 (.t 16) .done)))))))))
 (.cut (.seq (.reg (tm 4 (.c (.bool true)) .done))
 .ret)))))
theorem e6o:a1g Try.prog Try.f82 = some (c82.erase,[.mov (.t 4)],27):=by kernel_rfl
def a3s (b_2:(List (List a0c))):List (List a0c) → Nat → Option (Fl Bool Unit)
  | [],i_25 =>
    some (.go ())
  | x_43 :: xs,i_25 =>
    (idx b_2 (i_25:Int)).bind fun x_46 =>
    (b1d x_43 x_46).bind fun r_48 =>
    if (!r_48) then
    some (.ret false)
    else
    a3s b_2 xs (i_25 + 1)

def a9w (a_1:(List (List a0c))) (b_2:(List (List a0c))):Option Bool :=
    if ((a_1.length:Int) != (b_2.length:Int)) then
    some false
    else
    (a3s b_2 a_1 0).bind fun q => (match q with
    | .ret r => some r
    | .go _ =>
    some true)
theorem c2x (a_1:(List (List a0c))) (b_2:(List (List a0c))) (r:Bool) (hf:a9w a_1 b_2 = some r):a0b Try.prog 82 .flat [(.lst 1 (a_1.map (o7 3 l7))),(.lst 1 (b_2.map (o7 3 l7)))] (.bool r):=by
 refine a0b.of_awp mixed Try.func82 e6o nle ?_;rw [a0q];unfold a9w at hf;unfold c82;refine (show awp Try.prog false 0 _ (ofL [(0,(.lst 1 (a_1.map (o7 3 l7)))),(1,(.lst 1 (b_2.map (o7 3 l7))))]) [] _ from ?_);refine sr<|l9 (.bool false) rfl<|dk<|o6<|sr<|l9 (.lst 1 (a_1.map (o7 3 l7))) rfl<|a0w (a1b (enc:=(o7 3 l7)) rfl) fun hl3 => l9 (.lst 1 (b_2.map (o7 3 l7))) rfl<|a0w (a1b (enc:=(o7 3 l7)) rfl) fun hl4 => y5 (.bool ((a_1.length:Int) != (b_2.length:Int))) rfl rfl rfl<|dk<|?_
 rcases oi hf with ⟨c5,hf⟩ | ⟨c5,hf⟩
 ·refine y8 rfl c5<|sr<|l9 (.bool false) rfl<|dk<|a0f<|?_;obtain rfl:=os hf;exact a0k ⟨trivial,trivial⟩ rfl (.refl _)
 ·refine y7 rfl (bf c5)<|a0e<|a0h<|o6<|sr<|l9 (.int .i64 0) rfl<|dk<|?_
  obtain ⟨p36,hb1,hf⟩:=ob hf
  refine a2q (X:={q:Unit // p36 = .go q}) (fun q => ([],[])) ?_ ?_
  ·refine a1d (X:={q:Nat // a3s b_2 (a_1.drop q) q = some p36}) (fun q => ([(0,(.lst 1 (a_1.map (o7 3 l7)))),(1,(.lst 1 (b_2.map (o7 3 l7)))),(5,(.int .i64 (q.1:Int)))],[])) (fun q => a_1.length - q.1) ⟨0,hb1⟩ ⟨[],[],_,_,rfl,rfl,⟨.refl _,⟨.refl _,⟨.refl _,trivial⟩⟩⟩,(.refl _)⟩ ?_
   rintro ⟨i_25,hc1⟩
   have hc1:a3s b_2 (a_1.drop i_25) i_25 = some p36:=hc1
   refine (show awp Try.prog false 0 _ (ofL [(0,(.lst 1 (a_1.map (o7 3 l7)))),(1,(.lst 1 (b_2.map (o7 3 l7)))),(5,(.int .i64 (i_25:Int)))]) [] _ from ?_)
   rcases a4u a_1 i_25 with ⟨hie39,hd42⟩ | ⟨hlt37,x_43,hx38,hd42⟩
   ·rw [hd42,a3s.eq_1] at hc1
    have hq41:=dlf hie39
    refine o6<|sr<|l9 (.int .i64 (i_25:Int)) rfl<|l9 (.lst 1 (a_1.map (o7 3 l7))) rfl<|a0w (a1b (enc:=(o7 3 l7)) rfl) fun hl44 => y5 (.bool (decide ((i_25:Int) < (a_1.length:Int)))) rfl rfl rfl<|dk<|y7 rfl hq41<|a2e<|a2d<|a1l<|a2c<|?_;obtain rfl:=os hc1;exact a5g ⟨_,rfl⟩ ⟨[],[],_,_,rfl,rfl,trivial,(.refl _)⟩
   ·rw [hd42,a3s.eq_2] at hc1
    have hq41:=dlt hlt37
    refine o6<|sr<|l9 (.int .i64 (i_25:Int)) rfl<|l9 (.lst 1 (a_1.map (o7 3 l7))) rfl<|a0w (a1b (enc:=(o7 3 l7)) rfl) fun hl45 => y5 (.bool (decide ((i_25:Int) < (a_1.length:Int)))) rfl rfl rfl<|dk<|y8 rfl hq41<|a0e<|a0h<|o6<|a2u<|sr<|?_
    obtain ⟨x_46,ex47,hc1⟩:=ob hc1
    obtain ⟨r_48,er49,hc1⟩:=ob hc1
    refine l9 (.lst 1 (a_1.map (o7 3 l7))) rfl<|l9 (.int .i64 (i_25:Int)) rfl<|a0a (a1h (enc:=(o7 3 l7)) rfl rfl hx38)<|y5 (.lst 3 (x_43.map l7)) rfl ⟨rfl,rfl⟩ rfl<|l9 (.lst 1 (b_2.map (o7 3 l7))) rfl<|l9 (.int .i64 (i_25:Int)) rfl<|a0a (a5k (enc:=(o7 3 l7)) rfl rfl (b5j ex47) (b5k ex47))<|y5 (.lst 3 (x_46.map l7)) rfl ⟨rfl,rfl⟩ rfl<|a5c (a1o (c5c _ _ _ er49) rfl (.refl _) rfl) a6y trivial<|y5 (.bool (!r_48)) rfl trivial rfl<|dk<|?_
    rcases oi hc1 with ⟨c50,hc1⟩ | ⟨c50,hc1⟩
    ·refine y8 rfl c50<|sr<|l9 (.bool false) rfl<|dk<|a0f<|?_;obtain rfl:=os hc1;obtain rfl:=os hf;exact a0k ⟨trivial,trivial⟩ rfl (.refl _)
    ·refine y7 rfl (bf c50)<|a0e<|a2r<|a0h<|a0y<|l9 (.int .i64 (i_25:Int)) rfl<|y5 (.int .i64 (w64 ((i_25:Int) + 1))) rfl rfl rfl<|l9 (.int .i64 (w64 ((i_25:Int) + 1))) rfl<|a0n<|?_;exact a1j ⟨(i_25 + 1),hc1⟩ (mul hlt37) ⟨[],[],_,_,rfl,rfl,⟨.refl _,⟨.refl _,⟨.of_eq (congrArg (AV.int _) (a1k hlt37 hl45)),trivial⟩⟩⟩,(.refl _)⟩
  ·rintro ⟨_,rfl⟩
   refine sr<|l9 (.bool true) rfl<|dk<|a0f<|?_;obtain rfl:=os hf;exact a0k ⟨trivial,trivial⟩ rfl (.refl _)

/- laws.eqRow -/
def c51:a0r :=
 (.seq (.reg (tq 2 (.box 2 (.t 0)) (tq 3 (.box 2 (.t 1)) (tm 4 (.c (.bool false)) .done))))
 (.seq (.seq (.reg (tq 5 (.faddr 0 (.t 2)) (tq 6 (.load 1 false (.t 5)) (tq 7 (.faddr 0 (.t 3)) (tq 8 (.load 1 false (.t 7)) (tq 9 (.bin .neq (.t 6) (.t 8)) .done))))))
 (.cond (.t 9) (.seq (.reg (tm 4 (.c (.bool false)) .done))
 .ret)
 .skip))
 (.seq (.seq (.reg (tq 10 (.faddr 1 (.t 2)) (tq 11 (.load 1 false (.t 10)) (tq 12 (.faddr 1 (.t 3)) (tq 13 (.load 1 false (.t 12)) (tq 14 (.call 82 [(.t 11),(.t 13)]) (tq 15 (.not (.t 14)) .done)))))))
 (.cond (.t 15) (.seq (.reg (tm 4 (.c (.bool false)) .done))
 .ret)
 .skip))
 (.seq (.reg (tm 4 (.c (.bool true)) .done))
 .ret))))
theorem e6p:a1g Try.prog Try.f51 = some (c51.erase,[.mov (.t 4)],16):=by kernel_rfl
def b0i (a_1:x8) (b_2:x8):Option Bool :=
    if (a_1.Id != b_2.Id) then
    some false
    else
    (a9w a_1.Cells b_2.Cells).bind fun r_4 =>
    if (!r_4) then
    some false
    else
    some true
theorem b4o (a_1:x8) (b_2:x8) (r:Bool) (hf:b0i a_1 b_2 = some r):a0b Try.prog 51 .flat [(o5 a_1),(o5 b_2)] (.bool r):=by
 refine a0b.of_awp mixed Try.func51 e6p nle ?_;rw [a0q];unfold b0i at hf;unfold c51;refine (show awp Try.prog false 0 _ (ofL [(0,(o5 a_1)),(1,(o5 b_2))]) [] _ from ?_);refine sr<|a0a (a1m (j:=0) (c:=(.agg [(.int .i64 a_1.Id),(.lst 1 (a_1.Cells.map (o7 3 l7)))])) rfl trivial rfl rfl)<|a0a (a1m (j:=1) (c:=(.agg [(.int .i64 b_2.Id),(.lst 1 (b_2.Cells.map (o7 3 l7)))])) rfl trivial rfl rfl)<|l9 (.bool false) rfl<|dk<|o6<|sr<|y5 (.ptr 0 0 0) rfl trivial rfl<|y5 (.int .i64 a_1.Id) rfl nle rfl<|y5 (.ptr 1 0 0) rfl trivial rfl<|y5 (.int .i64 b_2.Id) rfl nle rfl<|y5 (.bool (a_1.Id != b_2.Id)) rfl rfl rfl<|?_
 refine dk<|?_
 rcases oi hf with ⟨c3,hf⟩ | ⟨c3,hf⟩
 ·refine y8 rfl c3<|sr<|l9 (.bool false) rfl<|dk<|a0f<|?_;obtain rfl:=os hf;exact a0k ⟨trivial,trivial⟩ rfl (.refl _)
 ·refine y7 rfl (bf c3)<|a0e<|a0h<|o6<|sr<|?_
  obtain ⟨r_4,er5,hf⟩:=ob hf
  refine y5 (.ptr 0 0 1) rfl trivial rfl<|y5 (.lst 1 (a_1.Cells.map (o7 3 l7))) rfl nle rfl<|y5 (.ptr 1 0 1) rfl trivial rfl<|y5 (.lst 1 (b_2.Cells.map (o7 3 l7))) rfl nle rfl<|a0a (a1o (c2x _ _ _ er5) rfl (.refl _) rfl)<|y5 (.bool (!r_4)) rfl trivial rfl<|dk<|?_
  rcases oi hf with ⟨c6,hf⟩ | ⟨c6,hf⟩
  ·refine y8 rfl c6<|sr<|l9 (.bool false) rfl<|dk<|a0f<|?_;obtain rfl:=os hf;exact a0k ⟨trivial,trivial⟩ rfl (.refl _)
  ·refine y7 rfl (bf c6)<|a0e<|a0h<|sr<|l9 (.bool true) rfl<|dk<|a0f<|?_;obtain rfl:=os hf;exact a0k ⟨trivial,trivial⟩ rfl (.refl _)

/- laws.eqRowS -/
def c13:a0r :=
 (.seq (.reg (tm 4 (.c (.bool false)) .done))
 (.seq (.seq (.reg (tm 6 (.t 0) (tq 7 (.len (.t 6)) (tm 8 (.t 1) (tq 9 (.len (.t 8)) (tq 10 (.bin .neq (.t 7) (.t 9)) .done))))))
 (.cond (.t 10) (.seq (.reg (tm 4 (.c (.bool false)) .done))
 .ret)
 .skip))
 (.seq (.seq (.reg (tm 5 (.c (.int .i64 0)) .done))
 (.block 0 (.loop (.seq (.seq (.reg (tm 11 (.t 5) (tm 12 (.t 0) (tq 13 (.len (.t 12)) (tq 14 (.bin .lss (.t 11) (.t 13)) .done)))))
 (.cond (.t 14) .skip
 (.exit 0)))
 (.seq (.block 1 (.seq (.reg (tm 17 (.t 0) (tm 18 (.t 5) (tq 19 (.iaddr 2 (.t 17) (.t 18)) (tq 20 (.load 2 true (.t 19)) (tm 21 (.t 1) (tm 22 (.t 5) (tq 23 (.iaddr 2 (.t 21) (.t 22)) (tq 24 (.load 2 true (.t 23)) (.l ⟨(some 25),none,.call 51 [(.t 20),(.t 24)]⟩ []
 (tq 26 (.not (.t 25)) .done) .non))))))))))
 (.cond (.t 26) (.seq (.reg (tm 4 (.c (.bool false)) .done))
 .ret)
 .skip)))
 (.reg (tm 15 (.t 5) (tq 16 (.bin .add (.t 15) (.c (.int .i64 1))) (tm 5 (.t 16) .done)))))))))
 (.cut (.seq (.reg (tm 4 (.c (.bool true)) .done))
 .ret)))))
theorem e6q:a1g Try.prog Try.f13 = some (c13.erase,[.mov (.t 4)],27):=by kernel_rfl
def a4r (b_2:(List x8)):List x8 → Nat → Option (Fl Bool Unit)
  | [],i_25 =>
    some (.go ())
  | x_43 :: xs,i_25 =>
    (idx b_2 (i_25:Int)).bind fun x_46 =>
    (b0i x_43 x_46).bind fun r_48 =>
    if (!r_48) then
    some (.ret false)
    else
    a4r b_2 xs (i_25 + 1)

def b2d (a_1:(List x8)) (b_2:(List x8)):Option Bool :=
    if ((a_1.length:Int) != (b_2.length:Int)) then
    some false
    else
    (a4r b_2 a_1 0).bind fun q => (match q with
    | .ret r => some r
    | .go _ =>
    some true)
theorem c6j (a_1:(List x8)) (b_2:(List x8)) (r:Bool) (hf:b2d a_1 b_2 = some r):a0b Try.prog 13 .flat [(.lst 2 (a_1.map o5)),(.lst 2 (b_2.map o5))] (.bool r):=by
 refine a0b.of_awp mixed Try.func13 e6q nle ?_;rw [a0q];unfold b2d at hf;unfold c13;refine (show awp Try.prog false 0 _ (ofL [(0,(.lst 2 (a_1.map o5))),(1,(.lst 2 (b_2.map o5)))]) [] _ from ?_);refine sr<|l9 (.bool false) rfl<|dk<|o6<|sr<|l9 (.lst 2 (a_1.map o5)) rfl<|a0w (a1b (enc:=o5) rfl) fun hl3 => l9 (.lst 2 (b_2.map o5)) rfl<|a0w (a1b (enc:=o5) rfl) fun hl4 => y5 (.bool ((a_1.length:Int) != (b_2.length:Int))) rfl rfl rfl<|dk<|?_
 rcases oi hf with ⟨c5,hf⟩ | ⟨c5,hf⟩
 ·refine y8 rfl c5<|sr<|l9 (.bool false) rfl<|dk<|a0f<|?_;obtain rfl:=os hf;exact a0k ⟨trivial,trivial⟩ rfl (.refl _)
 ·refine y7 rfl (bf c5)<|a0e<|a0h<|o6<|sr<|l9 (.int .i64 0) rfl<|dk<|?_
  obtain ⟨p36,hb1,hf⟩:=ob hf
  refine a2q (X:={q:Unit // p36 = .go q}) (fun q => ([],[])) ?_ ?_
  ·refine a1d (X:={q:Nat // a4r b_2 (a_1.drop q) q = some p36}) (fun q => ([(0,(.lst 2 (a_1.map o5))),(1,(.lst 2 (b_2.map o5))),(5,(.int .i64 (q.1:Int)))],[])) (fun q => a_1.length - q.1) ⟨0,hb1⟩ ⟨[],[],_,_,rfl,rfl,⟨.refl _,⟨.refl _,⟨.refl _,trivial⟩⟩⟩,(.refl _)⟩ ?_
   rintro ⟨i_25,hc1⟩
   have hc1:a4r b_2 (a_1.drop i_25) i_25 = some p36:=hc1
   refine (show awp Try.prog false 0 _ (ofL [(0,(.lst 2 (a_1.map o5))),(1,(.lst 2 (b_2.map o5))),(5,(.int .i64 (i_25:Int)))]) [] _ from ?_)
   rcases a4u a_1 i_25 with ⟨hie39,hd42⟩ | ⟨hlt37,x_43,hx38,hd42⟩
   ·rw [hd42,a4r.eq_1] at hc1
    have hq41:=dlf hie39
    refine o6<|sr<|l9 (.int .i64 (i_25:Int)) rfl<|l9 (.lst 2 (a_1.map o5)) rfl<|a0w (a1b (enc:=o5) rfl) fun hl44 => y5 (.bool (decide ((i_25:Int) < (a_1.length:Int)))) rfl rfl rfl<|dk<|y7 rfl hq41<|a2e<|a2d<|a1l<|a2c<|?_;obtain rfl:=os hc1;exact a5g ⟨_,rfl⟩ ⟨[],[],_,_,rfl,rfl,trivial,(.refl _)⟩
   ·rw [hd42,a4r.eq_2] at hc1
    have hq41:=dlt hlt37
    refine o6<|sr<|l9 (.int .i64 (i_25:Int)) rfl<|l9 (.lst 2 (a_1.map o5)) rfl<|a0w (a1b (enc:=o5) rfl) fun hl45 => y5 (.bool (decide ((i_25:Int) < (a_1.length:Int)))) rfl rfl rfl<|dk<|y8 rfl hq41<|a0e<|a0h<|o6<|a2u<|sr<|?_
    obtain ⟨x_46,ex47,hc1⟩:=ob hc1
    obtain ⟨r_48,er49,hc1⟩:=ob hc1
    refine l9 (.lst 2 (a_1.map o5)) rfl<|l9 (.int .i64 (i_25:Int)) rfl<|a0a (a1h (enc:=o5) rfl rfl hx38)<|y5 (o5 x_43) rfl nle rfl<|l9 (.lst 2 (b_2.map o5)) rfl<|l9 (.int .i64 (i_25:Int)) rfl<|a0a (a5k (enc:=o5) rfl rfl (b5j ex47) (b5k ex47))<|y5 (o5 x_46) rfl nle rfl<|a5c (a1o (b4o _ _ _ er49) rfl (.refl _) rfl) a6y trivial<|y5 (.bool (!r_48)) rfl trivial rfl<|dk<|?_
    rcases oi hc1 with ⟨c50,hc1⟩ | ⟨c50,hc1⟩
    ·refine y8 rfl c50<|sr<|l9 (.bool false) rfl<|dk<|a0f<|?_;obtain rfl:=os hc1;obtain rfl:=os hf;exact a0k ⟨trivial,trivial⟩ rfl (.refl _)
    ·refine y7 rfl (bf c50)<|a0e<|a2r<|a0h<|a0y<|l9 (.int .i64 (i_25:Int)) rfl<|y5 (.int .i64 (w64 ((i_25:Int) + 1))) rfl rfl rfl<|l9 (.int .i64 (w64 ((i_25:Int) + 1))) rfl<|a0n<|?_;exact a1j ⟨(i_25 + 1),hc1⟩ (mul hlt37) ⟨[],[],_,_,rfl,rfl,⟨.refl _,⟨.refl _,⟨.of_eq (congrArg (AV.int _) (a1k hlt37 hl45)),trivial⟩⟩⟩,(.refl _)⟩
  ·rintro ⟨_,rfl⟩
   refine sr<|l9 (.bool true) rfl<|dk<|a0f<|?_;obtain rfl:=os hf;exact a0k ⟨trivial,trivial⟩ rfl (.refl _)

/- laws.eqRowSS -/
def c63:a0r :=
 (.seq (.reg (tm 4 (.c (.bool false)) .done))
 (.seq (.seq (.reg (tm 6 (.t 0) (tq 7 (.len (.t 6)) (tm 8 (.t 1) (tq 9 (.len (.t 8)) (tq 10 (.bin .neq (.t 7) (.t 9)) .done))))))
 (.cond (.t 10) (.seq (.reg (tm 4 (.c (.bool false)) .done))
 .ret)
 .skip))
 (.seq (.seq (.reg (tm 5 (.c (.int .i64 0)) .done))
 (.block 0 (.loop (.seq (.seq (.reg (tm 11 (.t 5) (tm 12 (.t 0) (tq 13 (.len (.t 12)) (tq 14 (.bin .lss (.t 11) (.t 13)) .done)))))
 (.cond (.t 14) .skip
 (.exit 0)))
 (.seq (.block 1 (.seq (.reg (tm 17 (.t 0) (tm 18 (.t 5) (tq 19 (.iaddr 1 (.t 17) (.t 18)) (tq 20 (.load 1 false (.t 19)) (tm 21 (.t 1) (tm 22 (.t 5) (tq 23 (.iaddr 1 (.t 21) (.t 22)) (tq 24 (.load 1 false (.t 23)) (.l ⟨(some 25),none,.call 13 [(.t 20),(.t 24)]⟩ []
 (tq 26 (.not (.t 25)) .done) .non))))))))))
 (.cond (.t 26) (.seq (.reg (tm 4 (.c (.bool false)) .done))
 .ret)
 .skip)))
 (.reg (tm 15 (.t 5) (tq 16 (.bin .add (.t 15) (.c (.int .i64 1))) (tm 5 (.t 16) .done)))))))))
 (.cut (.seq (.reg (tm 4 (.c (.bool true)) .done))
 .ret)))))
theorem e6r:a1g Try.prog Try.f63 = some (c63.erase,[.mov (.t 4)],27):=by kernel_rfl
def a4h (b_2:(List (List x8))):List (List x8) → Nat → Option (Fl Bool Unit)
  | [],i_25 =>
    some (.go ())
  | x_43 :: xs,i_25 =>
    (idx b_2 (i_25:Int)).bind fun x_46 =>
    (b2d x_43 x_46).bind fun r_48 =>
    if (!r_48) then
    some (.ret false)
    else
    a4h b_2 xs (i_25 + 1)

def b1e (a_1:(List (List x8))) (b_2:(List (List x8))):Option Bool :=
    if ((a_1.length:Int) != (b_2.length:Int)) then
    some false
    else
    (a4h b_2 a_1 0).bind fun q => (match q with
    | .ret r => some r
    | .go _ =>
    some true)
theorem c5d (a_1:(List (List x8))) (b_2:(List (List x8))) (r:Bool) (hf:b1e a_1 b_2 = some r):a0b Try.prog 63 .flat [(.lst 1 (a_1.map (o7 2 o5))),(.lst 1 (b_2.map (o7 2 o5)))] (.bool r):=by
 refine a0b.of_awp mixed Try.func63 e6r nle ?_;rw [a0q];unfold b1e at hf;unfold c63;refine (show awp Try.prog false 0 _ (ofL [(0,(.lst 1 (a_1.map (o7 2 o5)))),(1,(.lst 1 (b_2.map (o7 2 o5))))]) [] _ from ?_);refine sr<|l9 (.bool false) rfl<|dk<|o6<|sr<|l9 (.lst 1 (a_1.map (o7 2 o5))) rfl<|a0w (a1b (enc:=(o7 2 o5)) rfl) fun hl3 => l9 (.lst 1 (b_2.map (o7 2 o5))) rfl<|a0w (a1b (enc:=(o7 2 o5)) rfl) fun hl4 => y5 (.bool ((a_1.length:Int) != (b_2.length:Int))) rfl rfl rfl<|dk<|?_
 rcases oi hf with ⟨c5,hf⟩ | ⟨c5,hf⟩
 ·refine y8 rfl c5<|sr<|l9 (.bool false) rfl<|dk<|a0f<|?_;obtain rfl:=os hf;exact a0k ⟨trivial,trivial⟩ rfl (.refl _)
 ·refine y7 rfl (bf c5)<|a0e<|a0h<|o6<|sr<|l9 (.int .i64 0) rfl<|dk<|?_
  obtain ⟨p36,hb1,hf⟩:=ob hf
  refine a2q (X:={q:Unit // p36 = .go q}) (fun q => ([],[])) ?_ ?_
  ·refine a1d (X:={q:Nat // a4h b_2 (a_1.drop q) q = some p36}) (fun q => ([(0,(.lst 1 (a_1.map (o7 2 o5)))),(1,(.lst 1 (b_2.map (o7 2 o5)))),(5,(.int .i64 (q.1:Int)))],[])) (fun q => a_1.length - q.1) ⟨0,hb1⟩ ⟨[],[],_,_,rfl,rfl,⟨.refl _,⟨.refl _,⟨.refl _,trivial⟩⟩⟩,(.refl _)⟩ ?_
   rintro ⟨i_25,hc1⟩
   have hc1:a4h b_2 (a_1.drop i_25) i_25 = some p36:=hc1
   refine (show awp Try.prog false 0 _ (ofL [(0,(.lst 1 (a_1.map (o7 2 o5)))),(1,(.lst 1 (b_2.map (o7 2 o5)))),(5,(.int .i64 (i_25:Int)))]) [] _ from ?_)
   rcases a4u a_1 i_25 with ⟨hie39,hd42⟩ | ⟨hlt37,x_43,hx38,hd42⟩
   ·rw [hd42,a4h.eq_1] at hc1
    have hq41:=dlf hie39
    refine o6<|sr<|l9 (.int .i64 (i_25:Int)) rfl<|l9 (.lst 1 (a_1.map (o7 2 o5))) rfl<|a0w (a1b (enc:=(o7 2 o5)) rfl) fun hl44 => y5 (.bool (decide ((i_25:Int) < (a_1.length:Int)))) rfl rfl rfl<|dk<|y7 rfl hq41<|a2e<|a2d<|a1l<|a2c<|?_;obtain rfl:=os hc1;exact a5g ⟨_,rfl⟩ ⟨[],[],_,_,rfl,rfl,trivial,(.refl _)⟩
   ·rw [hd42,a4h.eq_2] at hc1
    have hq41:=dlt hlt37
    refine o6<|sr<|l9 (.int .i64 (i_25:Int)) rfl<|l9 (.lst 1 (a_1.map (o7 2 o5))) rfl<|a0w (a1b (enc:=(o7 2 o5)) rfl) fun hl45 => y5 (.bool (decide ((i_25:Int) < (a_1.length:Int)))) rfl rfl rfl<|dk<|y8 rfl hq41<|a0e<|a0h<|o6<|a2u<|sr<|?_
    obtain ⟨x_46,ex47,hc1⟩:=ob hc1
    obtain ⟨r_48,er49,hc1⟩:=ob hc1
    refine l9 (.lst 1 (a_1.map (o7 2 o5))) rfl<|l9 (.int .i64 (i_25:Int)) rfl<|a0a (a1h (enc:=(o7 2 o5)) rfl rfl hx38)<|y5 (.lst 2 (x_43.map o5)) rfl ⟨rfl,rfl⟩ rfl<|l9 (.lst 1 (b_2.map (o7 2 o5))) rfl<|l9 (.int .i64 (i_25:Int)) rfl<|a0a (a5k (enc:=(o7 2 o5)) rfl rfl (b5j ex47) (b5k ex47))<|y5 (.lst 2 (x_46.map o5)) rfl ⟨rfl,rfl⟩ rfl<|a5c (a1o (c6j _ _ _ er49) rfl (.refl _) rfl) a6y trivial<|y5 (.bool (!r_48)) rfl trivial rfl<|dk<|?_
    rcases oi hc1 with ⟨c50,hc1⟩ | ⟨c50,hc1⟩
    ·refine y8 rfl c50<|sr<|l9 (.bool false) rfl<|dk<|a0f<|?_;obtain rfl:=os hc1;obtain rfl:=os hf;exact a0k ⟨trivial,trivial⟩ rfl (.refl _)
    ·refine y7 rfl (bf c50)<|a0e<|a2r<|a0h<|a0y<|l9 (.int .i64 (i_25:Int)) rfl<|y5 (.int .i64 (w64 ((i_25:Int) + 1))) rfl rfl rfl<|l9 (.int .i64 (w64 ((i_25:Int) + 1))) rfl<|a0n<|?_;exact a1j ⟨(i_25 + 1),hc1⟩ (mul hlt37) ⟨[],[],_,_,rfl,rfl,⟨.refl _,⟨.refl _,⟨.of_eq (congrArg (AV.int _) (a1k hlt37 hl45)),trivial⟩⟩⟩,(.refl _)⟩
  ·rintro ⟨_,rfl⟩
   refine sr<|l9 (.bool true) rfl<|dk<|a0f<|?_;obtain rfl:=os hf;exact a0k ⟨trivial,trivial⟩ rfl (.refl _)

/- laws.eqStore -/
def c24:a0r :=
 (.seq (.reg (tq 2 (.box 2 (.t 0)) (tq 3 (.box 2 (.t 1)) (tm 4 (.c (.bool false)) .done))))
 (.seq (.seq (.reg (tq 5 (.faddr 0 (.t 2)) (tq 6 (.load 1 false (.t 5)) (tq 7 (.faddr 0 (.t 3)) (tq 8 (.load 1 false (.t 7)) (tq 9 (.call 63 [(.t 6),(.t 8)]) (tq 10 (.not (.t 9)) .done)))))))
 (.cond (.t 10) (.seq (.reg (tm 4 (.c (.bool false)) .done))
 .ret)
 .skip))
 (.seq (.seq (.reg (tq 11 (.faddr 1 (.t 2)) (tq 12 (.load 1 false (.t 11)) (tq 13 (.faddr 1 (.t 3)) (tq 14 (.load 1 false (.t 13)) (tq 15 (.bin .neq (.t 12) (.t 14)) .done))))))
 (.cond (.t 15) (.seq (.reg (tm 4 (.c (.bool false)) .done))
 .ret)
 .skip))
 (.seq (.reg (tm 4 (.c (.bool true)) .done))
 .ret))))
theorem e6s:a1g Try.prog Try.f24 = some (c24.erase,[.mov (.t 4)],16):=by kernel_rfl
def a6m (a_1:a0l) (b_2:a0l):Option Bool :=
    (b1e a_1.Tables b_2.Tables).bind fun r_3 =>
    if (!r_3) then
    some false
    else
    if (a_1.Next != b_2.Next) then
    some false
    else
    some true
theorem a7d (a_1:a0l) (b_2:a0l) (r:Bool) (hf:a6m a_1 b_2 = some r):a0b Try.prog 24 .flat [(a0z a_1),(a0z b_2)] (.bool r):=by
 refine a0b.of_awp mixed Try.func24 e6s nle ?_;rw [a0q];unfold a6m at hf;unfold c24;refine (show awp Try.prog false 0 _ (ofL [(0,(a0z a_1)),(1,(a0z b_2))]) [] _ from ?_);refine sr<|a0a (a1m (j:=0) (c:=(.agg [(.lst 1 (a_1.Tables.map (o7 2 o5))),(.int .i64 a_1.Next)])) rfl trivial rfl rfl)<|a0a (a1m (j:=1) (c:=(.agg [(.lst 1 (b_2.Tables.map (o7 2 o5))),(.int .i64 b_2.Next)])) rfl trivial rfl rfl)<|l9 (.bool false) rfl<|dk<|o6<|sr<|?_
 obtain ⟨r_3,er4,hf⟩:=ob hf
 refine y5 (.ptr 0 0 0) rfl trivial rfl<|y5 (.lst 1 (a_1.Tables.map (o7 2 o5))) rfl nle rfl<|y5 (.ptr 1 0 0) rfl trivial rfl<|y5 (.lst 1 (b_2.Tables.map (o7 2 o5))) rfl nle rfl<|a0a (a1o (c5d _ _ _ er4) rfl (.refl _) rfl)<|y5 (.bool (!r_3)) rfl trivial rfl<|dk<|?_
 rcases oi hf with ⟨c5,hf⟩ | ⟨c5,hf⟩
 ·refine y8 rfl c5<|sr<|l9 (.bool false) rfl<|dk<|a0f<|?_;obtain rfl:=os hf;exact a0k ⟨trivial,trivial⟩ rfl (.refl _)
 ·refine y7 rfl (bf c5)<|a0e<|a0h<|o6<|sr<|y5 (.ptr 0 0 1) rfl trivial rfl<|y5 (.int .i64 a_1.Next) rfl nle rfl<|y5 (.ptr 1 0 1) rfl trivial rfl<|y5 (.int .i64 b_2.Next) rfl nle rfl<|y5 (.bool (a_1.Next != b_2.Next)) rfl rfl rfl<|dk<|?_
  rcases oi hf with ⟨c6,hf⟩ | ⟨c6,hf⟩
  ·refine y8 rfl c6<|sr<|l9 (.bool false) rfl<|dk<|a0f<|?_;obtain rfl:=os hf;exact a0k ⟨trivial,trivial⟩ rfl (.refl _)
  ·refine y7 rfl (bf c6)<|a0e<|a0h<|sr<|l9 (.bool true) rfl<|dk<|a0f<|?_;obtain rfl:=os hf;exact a0k ⟨trivial,trivial⟩ rfl (.refl _)

/- laws.eqChange -/
def c64:a0r :=
 (.seq (.reg (tq 2 (.box 6 (.t 0)) (tq 3 (.box 6 (.t 1)) (tm 4 (.c (.bool false)) .done))))
 (.seq (.seq (.reg (tq 5 (.faddr 0 (.t 2)) (tq 6 (.load 1 false (.t 5)) (tq 7 (.faddr 0 (.t 3)) (tq 8 (.load 1 false (.t 7)) (tq 9 (.bin .neq (.t 6) (.t 8)) .done))))))
 (.cond (.t 9) (.seq (.reg (tm 4 (.c (.bool false)) .done))
 .ret)
 .skip))
 (.seq (.seq (.reg (tq 10 (.faddr 1 (.t 2)) (tq 11 (.load 1 false (.t 10)) (tq 12 (.faddr 1 (.t 3)) (tq 13 (.load 1 false (.t 12)) (tq 14 (.bin .neq (.t 11) (.t 13)) .done))))))
 (.cond (.t 14) (.seq (.reg (tm 4 (.c (.bool false)) .done))
 .ret)
 .skip))
 (.seq (.seq (.reg (tq 15 (.faddr 2 (.t 2)) (tq 16 (.load 2 true (.t 15)) (tq 17 (.faddr 2 (.t 3)) (tq 18 (.load 2 true (.t 17)) (tq 19 (.call 51 [(.t 16),(.t 18)]) (tq 20 (.not (.t 19)) .done)))))))
 (.cond (.t 20) (.seq (.reg (tm 4 (.c (.bool false)) .done))
 .ret)
 .skip))
 (.seq (.seq (.reg (tq 21 (.faddr 4 (.t 2)) (tq 22 (.load 2 true (.t 21)) (tq 23 (.faddr 4 (.t 3)) (tq 24 (.load 2 true (.t 23)) (tq 25 (.call 51 [(.t 22),(.t 24)]) (tq 26 (.not (.t 25)) .done)))))))
 (.cond (.t 26) (.seq (.reg (tm 4 (.c (.bool false)) .done))
 .ret)
 .skip))
 (.seq (.reg (tm 4 (.c (.bool true)) .done))
 .ret))))))
theorem e6t:a1g Try.prog Try.f64 = some (c64.erase,[.mov (.t 4)],27):=by kernel_rfl
def a9x (a_1:y9) (b_2:y9):Option Bool :=
    if (a_1.Table != b_2.Table) then
    some false
    else
    if (a_1.Id != b_2.Id) then
    some false
    else
    (b0i a_1.Old b_2.Old).bind fun r_5 =>
    if (!r_5) then
    some false
    else
    (b0i a_1.New b_2.New).bind fun r_8 =>
    if (!r_8) then
    some false
    else
    some true
theorem c2y (a_1:y9) (b_2:y9) (r:Bool) (hf:a9x a_1 b_2 = some r):a0b Try.prog 64 .flat [(o8 a_1),(o8 b_2)] (.bool r):=by
 refine a0b.of_awp mixed Try.func64 e6t nle ?_;rw [a0q];unfold a9x at hf;unfold c64;refine (show awp Try.prog false 0 _ (ofL [(0,(o8 a_1)),(1,(o8 b_2))]) [] _ from ?_);refine sr<|a0a (a1m (j:=0) (c:=(.agg [(.int .i64 a_1.Table),(.int .i64 a_1.Id),(.int .i64 a_1.Old.Id),(.lst 1 (a_1.Old.Cells.map (o7 3 l7))),(.int .i64 a_1.New.Id),(.lst 1 (a_1.New.Cells.map (o7 3 l7)))])) rfl trivial rfl rfl)<|a0a (a1m (j:=1) (c:=(.agg [(.int .i64 b_2.Table),(.int .i64 b_2.Id),(.int .i64 b_2.Old.Id),(.lst 1 (b_2.Old.Cells.map (o7 3 l7))),(.int .i64 b_2.New.Id),(.lst 1 (b_2.New.Cells.map (o7 3 l7)))])) rfl trivial rfl rfl)<|l9 (.bool false) rfl<|?_
 refine dk<|o6<|sr<|y5 (.ptr 0 0 0) rfl trivial rfl<|y5 (.int .i64 a_1.Table) rfl nle rfl<|y5 (.ptr 1 0 0) rfl trivial rfl<|y5 (.int .i64 b_2.Table) rfl nle rfl<|y5 (.bool (a_1.Table != b_2.Table)) rfl rfl rfl<|dk<|?_
 rcases oi hf with ⟨c3,hf⟩ | ⟨c3,hf⟩
 ·refine y8 rfl c3<|sr<|l9 (.bool false) rfl<|dk<|a0f<|?_;obtain rfl:=os hf;exact a0k ⟨trivial,trivial⟩ rfl (.refl _)
 ·refine y7 rfl (bf c3)<|a0e<|a0h<|o6<|sr<|y5 (.ptr 0 0 1) rfl trivial rfl<|y5 (.int .i64 a_1.Id) rfl nle rfl<|y5 (.ptr 1 0 1) rfl trivial rfl<|y5 (.int .i64 b_2.Id) rfl nle rfl<|y5 (.bool (a_1.Id != b_2.Id)) rfl rfl rfl<|dk<|?_
  rcases oi hf with ⟨c4,hf⟩ | ⟨c4,hf⟩
  ·refine y8 rfl c4<|sr<|l9 (.bool false) rfl<|dk<|a0f<|?_;obtain rfl:=os hf;exact a0k ⟨trivial,trivial⟩ rfl (.refl _)
  ·refine y7 rfl (bf c4)<|a0e<|a0h<|o6<|sr<|?_
   obtain ⟨r_5,er6,hf⟩:=ob hf
   refine y5 (.ptr 0 0 2) rfl trivial rfl<|y5 (.agg [(.int .i64 a_1.Old.Id),(.lst 1 (a_1.Old.Cells.map (o7 3 l7)))]) rfl nle rfl<|y5 (.ptr 1 0 2) rfl trivial rfl<|y5 (.agg [(.int .i64 b_2.Old.Id),(.lst 1 (b_2.Old.Cells.map (o7 3 l7)))]) rfl nle rfl<|a0a (a1o (b4o _ _ _ er6) rfl (.refl _) rfl)<|y5 (.bool (!r_5)) rfl trivial rfl<|dk<|?_
   rcases oi hf with ⟨c7,hf⟩ | ⟨c7,hf⟩
   ·refine y8 rfl c7<|sr<|l9 (.bool false) rfl<|dk<|a0f<|?_;obtain rfl:=os hf;exact a0k ⟨trivial,trivial⟩ rfl (.refl _)
   ·refine y7 rfl (bf c7)<|a0e<|a0h<|o6<|sr<|?_
    obtain ⟨r_8,er9,hf⟩:=ob hf
    refine y5 (.ptr 0 0 4) rfl trivial rfl<|y5 (.agg [(.int .i64 a_1.New.Id),(.lst 1 (a_1.New.Cells.map (o7 3 l7)))]) rfl nle rfl<|y5 (.ptr 1 0 4) rfl trivial rfl<|y5 (.agg [(.int .i64 b_2.New.Id),(.lst 1 (b_2.New.Cells.map (o7 3 l7)))]) rfl nle rfl<|a0a (a1o (b4o _ _ _ er9) rfl (.refl _) rfl)<|y5 (.bool (!r_8)) rfl trivial rfl<|dk<|?_
    rcases oi hf with ⟨c10,hf⟩ | ⟨c10,hf⟩
    ·refine y8 rfl c10<|sr<|l9 (.bool false) rfl<|dk<|a0f<|?_;obtain rfl:=os hf;exact a0k ⟨trivial,trivial⟩ rfl (.refl _)
    ·refine y7 rfl (bf c10)<|a0e<|a0h<|sr<|l9 (.bool true) rfl<|dk<|a0f<|?_;obtain rfl:=os hf;exact a0k ⟨trivial,trivial⟩ rfl (.refl _)

/- laws.eqChangeS -/
def c25:a0r :=
 (.seq (.reg (tm 4 (.c (.bool false)) .done))
 (.seq (.seq (.reg (tm 6 (.t 0) (tq 7 (.len (.t 6)) (tm 8 (.t 1) (tq 9 (.len (.t 8)) (tq 10 (.bin .neq (.t 7) (.t 9)) .done))))))
 (.cond (.t 10) (.seq (.reg (tm 4 (.c (.bool false)) .done))
 .ret)
 .skip))
 (.seq (.seq (.reg (tm 5 (.c (.int .i64 0)) .done))
 (.block 0 (.loop (.seq (.seq (.reg (tm 11 (.t 5) (tm 12 (.t 0) (tq 13 (.len (.t 12)) (tq 14 (.bin .lss (.t 11) (.t 13)) .done)))))
 (.cond (.t 14) .skip
 (.exit 0)))
 (.seq (.block 1 (.seq (.reg (tm 17 (.t 0) (tm 18 (.t 5) (tq 19 (.iaddr 6 (.t 17) (.t 18)) (tq 20 (.load 6 true (.t 19)) (tm 21 (.t 1) (tm 22 (.t 5) (tq 23 (.iaddr 6 (.t 21) (.t 22)) (tq 24 (.load 6 true (.t 23)) (.l ⟨(some 25),none,.call 64 [(.t 20),(.t 24)]⟩ []
 (tq 26 (.not (.t 25)) .done) .non))))))))))
 (.cond (.t 26) (.seq (.reg (tm 4 (.c (.bool false)) .done))
 .ret)
 .skip)))
 (.reg (tm 15 (.t 5) (tq 16 (.bin .add (.t 15) (.c (.int .i64 1))) (tm 5 (.t 16) .done)))))))))
 (.cut (.seq (.reg (tm 4 (.c (.bool true)) .done))
 .ret)))))
theorem e6u:a1g Try.prog Try.f25 = some (c25.erase,[.mov (.t 4)],27):=by kernel_rfl
def a3c (b_2:(List y9)):List y9 → Nat → Option (Fl Bool Unit)
  | [],i_25 =>
    some (.go ())
  | x_43 :: xs,i_25 =>
    (idx b_2 (i_25:Int)).bind fun x_46 =>
    (a9x x_43 x_46).bind fun r_48 =>
    if (!r_48) then
    some (.ret false)
    else
    a3c b_2 xs (i_25 + 1)

def a8l (a_1:(List y9)) (b_2:(List y9)):Option Bool :=
    if ((a_1.length:Int) != (b_2.length:Int)) then
    some false
    else
    (a3c b_2 a_1 0).bind fun q => (match q with
    | .ret r => some r
    | .go _ =>
    some true)
theorem c1f (a_1:(List y9)) (b_2:(List y9)) (r:Bool) (hf:a8l a_1 b_2 = some r):a0b Try.prog 25 .flat [(.lst 6 (a_1.map o8)),(.lst 6 (b_2.map o8))] (.bool r):=by
 refine a0b.of_awp mixed Try.func25 e6u nle ?_;rw [a0q];unfold a8l at hf;unfold c25;refine (show awp Try.prog false 0 _ (ofL [(0,(.lst 6 (a_1.map o8))),(1,(.lst 6 (b_2.map o8)))]) [] _ from ?_);refine sr<|l9 (.bool false) rfl<|dk<|o6<|sr<|l9 (.lst 6 (a_1.map o8)) rfl<|a0w (a1b (enc:=o8) rfl) fun hl3 => l9 (.lst 6 (b_2.map o8)) rfl<|a0w (a1b (enc:=o8) rfl) fun hl4 => y5 (.bool ((a_1.length:Int) != (b_2.length:Int))) rfl rfl rfl<|dk<|?_
 rcases oi hf with ⟨c5,hf⟩ | ⟨c5,hf⟩
 ·refine y8 rfl c5<|sr<|l9 (.bool false) rfl<|dk<|a0f<|?_;obtain rfl:=os hf;exact a0k ⟨trivial,trivial⟩ rfl (.refl _)
 ·refine y7 rfl (bf c5)<|a0e<|a0h<|o6<|sr<|l9 (.int .i64 0) rfl<|dk<|?_
  obtain ⟨p36,hb1,hf⟩:=ob hf
  refine a2q (X:={q:Unit // p36 = .go q}) (fun q => ([],[])) ?_ ?_
  ·refine a1d (X:={q:Nat // a3c b_2 (a_1.drop q) q = some p36}) (fun q => ([(0,(.lst 6 (a_1.map o8))),(1,(.lst 6 (b_2.map o8))),(5,(.int .i64 (q.1:Int)))],[])) (fun q => a_1.length - q.1) ⟨0,hb1⟩ ⟨[],[],_,_,rfl,rfl,⟨.refl _,⟨.refl _,⟨.refl _,trivial⟩⟩⟩,(.refl _)⟩ ?_
   rintro ⟨i_25,hc1⟩
   have hc1:a3c b_2 (a_1.drop i_25) i_25 = some p36:=hc1
   refine (show awp Try.prog false 0 _ (ofL [(0,(.lst 6 (a_1.map o8))),(1,(.lst 6 (b_2.map o8))),(5,(.int .i64 (i_25:Int)))]) [] _ from ?_)
   rcases a4u a_1 i_25 with ⟨hie39,hd42⟩ | ⟨hlt37,x_43,hx38,hd42⟩
   ·rw [hd42,a3c.eq_1] at hc1
    have hq41:=dlf hie39
    refine o6<|sr<|l9 (.int .i64 (i_25:Int)) rfl<|l9 (.lst 6 (a_1.map o8)) rfl<|a0w (a1b (enc:=o8) rfl) fun hl44 => y5 (.bool (decide ((i_25:Int) < (a_1.length:Int)))) rfl rfl rfl<|dk<|y7 rfl hq41<|a2e<|a2d<|a1l<|a2c<|?_;obtain rfl:=os hc1;exact a5g ⟨_,rfl⟩ ⟨[],[],_,_,rfl,rfl,trivial,(.refl _)⟩
   ·rw [hd42,a3c.eq_2] at hc1
    have hq41:=dlt hlt37
    refine o6<|sr<|l9 (.int .i64 (i_25:Int)) rfl<|l9 (.lst 6 (a_1.map o8)) rfl<|a0w (a1b (enc:=o8) rfl) fun hl45 => y5 (.bool (decide ((i_25:Int) < (a_1.length:Int)))) rfl rfl rfl<|dk<|y8 rfl hq41<|a0e<|a0h<|o6<|a2u<|sr<|?_
    obtain ⟨x_46,ex47,hc1⟩:=ob hc1
    obtain ⟨r_48,er49,hc1⟩:=ob hc1
    refine l9 (.lst 6 (a_1.map o8)) rfl<|l9 (.int .i64 (i_25:Int)) rfl<|a0a (a1h (enc:=o8) rfl rfl hx38)<|y5 (o8 x_43) rfl nle rfl<|l9 (.lst 6 (b_2.map o8)) rfl<|l9 (.int .i64 (i_25:Int)) rfl<|a0a (a5k (enc:=o8) rfl rfl (b5j ex47) (b5k ex47))<|y5 (o8 x_46) rfl nle rfl<|a5c (a1o (c2y _ _ _ er49) rfl (.refl _) rfl) a6y trivial<|y5 (.bool (!r_48)) rfl trivial rfl<|dk<|?_
    rcases oi hc1 with ⟨c50,hc1⟩ | ⟨c50,hc1⟩
    ·refine y8 rfl c50<|sr<|l9 (.bool false) rfl<|dk<|a0f<|?_;obtain rfl:=os hc1;obtain rfl:=os hf;exact a0k ⟨trivial,trivial⟩ rfl (.refl _)
    ·refine y7 rfl (bf c50)<|a0e<|a2r<|a0h<|a0y<|l9 (.int .i64 (i_25:Int)) rfl<|y5 (.int .i64 (w64 ((i_25:Int) + 1))) rfl rfl rfl<|l9 (.int .i64 (w64 ((i_25:Int) + 1))) rfl<|a0n<|?_;exact a1j ⟨(i_25 + 1),hc1⟩ (mul hlt37) ⟨[],[],_,_,rfl,rfl,⟨.refl _,⟨.refl _,⟨.of_eq (congrArg (AV.int _) (a1k hlt37 hl45)),trivial⟩⟩⟩,(.refl _)⟩
  ·rintro ⟨_,rfl⟩
   refine sr<|l9 (.bool true) rfl<|dk<|a0f<|?_;obtain rfl:=os hf;exact a0k ⟨trivial,trivial⟩ rfl (.refl _)

/- laws.markText -/
def c105:a0r :=
 (.seq (.reg (tm 2 (.c (.str [])) .done))
 (.seq (.seq (.reg (tm 4 (.t 0) (tq 5 (.bin .leq (.t 4) (.c (.int .i64 0))) .done)))
 (.cond (.t 5) (.seq (.reg (tm 2 (.c (.str [109,48])) .done))
 .ret)
 .skip))
 (.seq (.reg (tm 3 (.c (.str [])) .done))
 (.seq (.block 0 (.loop (.seq (.seq (.reg (tm 6 (.t 0) (tq 7 (.bin .gtr (.t 6) (.c (.int .i64 0))) .done)))
 (.cond (.t 7) .skip
 (.exit 0)))
 (.block 1 (.seq (.reg (tm 8 (.t 0) (tq 9 (.bin .rem (.t 8) (.c (.int .i64 10))) (tq 10 (.bin .add (.c (.int .i64 48)) (.t 9)) (tq 11 (.convI .u8 (.t 10)) (tq 12 (.bslice 1 [(.t 11)]) (tq 13 (.convBS (.t 12)) (tm 14 (.t 3) (tq 15 (.bin .add (.t 13) (.t 14)) (tm 3 (.t 15) .done))))))))))
 (.reg (tm 16 (.t 0) (tq 17 (.bin .quo (.t 16) (.c (.int .i64 10))) (tm 0 (.t 17) .done)))))))))
 (.cut (.seq (.reg (tm 18 (.t 3) (tq 19 (.bin .add (.c (.str [109])) (.t 18)) (tm 2 (.t 19) .done))))
 .ret))))))
theorem e4r:a1g Try.prog Try.f105 = some (c105.erase,[.mov (.t 2)],20):=by kernel_rfl
def a3t :Nat → Int → Str → Option Str
  | 0,_,_ => none
  | k + 1,k_9,out_10 =>
    if (decide (k_9 > 0)) then
    if (d0y [IntKind.u8.wrap (w64 (48 + (k_9.tmod 10)))]).length + out_10.length ≤ maxLen then
    a3t k (w64 (k_9.tdiv 10)) ((d0y [IntKind.u8.wrap (w64 (48 + (k_9.tmod 10)))]) ++ out_10)
    else none
    else
    some out_10

def a5y (k_1:Int):Option Str :=
    if (decide (k_1 ≤ 0)) then
    some [109,48]
    else
    (a3t FUEL k_1 []).bind fun out_13 =>
    if [109].length + out_13.length ≤ maxLen then
    some ([109] ++ out_13)
    else none
theorem b5d (k_1:Int) (r:Str) (hf:a5y k_1 = some r):a0b Try.prog 105 .flat [(.int .i64 k_1)] (.str r):=by
 refine a0b.of_awp mixed Try.func105 e4r nle ?_;rw [a0q];unfold a5y at hf;unfold c105;refine (show awp Try.prog false 0 _ (ofL [(0,(.int .i64 k_1))]) [] _ from ?_);refine sr<|l9 (.str []) rfl<|dk<|o6<|sr<|l9 (.int .i64 k_1) rfl<|y5 (.bool (decide (k_1 ≤ 0))) rfl rfl rfl<|dk<|?_
 rcases oi hf with ⟨c2,hf⟩ | ⟨c2,hf⟩
 ·refine y8 rfl c2<|sr<|l9 (.str [109,48]) rfl<|dk<|a0f<|?_;obtain rfl:=os hf;exact a0k ⟨trivial,trivial⟩ rfl (.refl _)
 ·refine y7 rfl (bf c2)<|a0e<|a0h<|sr<|l9 (.str []) rfl<|dk<|o6<|?_
  obtain ⟨out_13,hb1,hf⟩:=ob hf
  refine a1v ([(3,(.str out_13))],[]) ?_ ?_
  ·refine a1d (X:={q:(Nat × Int × Str) // a3t q.1 q.2.1 q.2.2 = some out_13}) (fun q => ([(0,(.int .i64 q.1.2.1)),(3,(.str q.1.2.2))],[])) (fun q => q.1.1) ⟨(FUEL,k_1,[]),hb1⟩ ⟨[],[],_,_,rfl,rfl,⟨.refl _,⟨.refl _,trivial⟩⟩,(.refl _)⟩ ?_
   rintro ⟨⟨k,k_9,out_10⟩,hc1⟩
   have hc1:a3t k k_9 out_10 = some out_13:=hc1
   refine (show awp Try.prog false 0 _ (ofL [(0,(.int .i64 k_9)),(3,(.str out_10))]) [] _ from ?_)
   rcases k with _ | k
   ·rw [a3t.eq_1] at hc1
    cases hc1
   ·rw [a3t.eq_2] at hc1;refine o6<|sr<|l9 (.int .i64 k_9) rfl<|y5 (.bool (decide (k_9 > 0))) rfl rfl rfl<|dk<|?_
    rcases oi hc1 with ⟨c15,hc1⟩ | ⟨c15,hc1⟩
    ·refine y8 rfl c15<|a0e<|a0h<|a2u<|sr<|?_
     obtain ⟨g16,hc1⟩:=og hc1
     refine l9 (.int .i64 k_9) rfl<|y5 (.int .i64 (k_9.tmod 10)) rfl ⟨rfl,by decide⟩ rfl<|y5 (.int .i64 (w64 (48 + (k_9.tmod 10)))) rfl rfl rfl<|y5 (.int .u8 (IntKind.u8.wrap (w64 (48 + (k_9.tmod 10))))) rfl trivial rfl<|?_;refine a0a (a3k (j:=0) (as':=[(.int .u8 (IntKind.u8.wrap (w64 (48 + (k_9.tmod 10)))))]) rfl (fun _ => by decide) ⟨rfl,trivial⟩ (.refl _) rfl rfl rfl) ?_;refine a0a (d4x (l:=[IntKind.u8.wrap (w64 (48 + (k_9.tmod 10)))]) rfl rfl (by simp))<|l9 (.str out_10) rfl<|y5 (.str ((d0y [IntKind.u8.wrap (w64 (48 + (k_9.tmod 10)))]) ++ out_10)) rfl g16 rfl<|l9 (.str ((d0y [IntKind.u8.wrap (w64 (48 + (k_9.tmod 10)))]) ++ out_10)) rfl<|dk<|a0y<|l9 (.int .i64 k_9) rfl<|?_
     refine y5 (.int .i64 (w64 (k_9.tdiv 10))) rfl ⟨rfl,by decide⟩ rfl<|l9 (.int .i64 (w64 (k_9.tdiv 10))) rfl<|a0n<|a2r<|?_;exact a1j ⟨(k,w64 (k_9.tdiv 10),(d0y [IntKind.u8.wrap (w64 (48 + (k_9.tmod 10)))]) ++ out_10),hc1⟩ (Nat.lt_succ_self _) ⟨[],[],_,_,rfl,rfl,⟨.refl _,⟨.refl _,trivial⟩⟩,(.refl _)⟩
    ·refine y7 rfl (bf c15)<|a2e<|a2d<|a1l<|a2c<|?_;obtain rfl:=os hc1;exact ⟨[],[],_,_,rfl,rfl,⟨.refl _,trivial⟩,(.refl _)⟩
  ·refine sr<|?_
   obtain ⟨g17,hf⟩:=og hf
   refine l9 (.str out_13) rfl<|y5 (.str ([109] ++ out_13)) rfl g17 rfl<|l9 (.str ([109] ++ out_13)) rfl<|dk<|a0f<|?_;obtain rfl:=os hf;exact a0k ⟨trivial,trivial⟩ rfl (.refl _)

/- laws.markAtomS -/
def d7y:a0r :=
 (.seq (.reg (tm 4 (.c (.int .i64 0)) .done))
 (.seq (.seq (.reg (tm 5 (.c (.int .i64 0)) .done))
 (.block 0 (.loop (.seq (.seq (.reg (tm 6 (.t 5) (tm 7 (.t 0) (tq 8 (.len (.t 7)) (tq 9 (.bin .lss (.t 6) (.t 8)) .done)))))
 (.cond (.t 9) .skip
 (.exit 0)))
 (.seq (.block 1 (.seq (.reg (tm 12 (.t 0) (tm 13 (.t 5) (tm 14 (.t 1) (tq 15 (.iaddr 3 (.t 12) (.t 13)) (tq 16 (.faddr 0 (.t 15)) (.q ⟨none,none,.store 1 (.t 16) (.t 14)⟩
 .done)))))))
 (.seq (.reg (tm 17 (.t 1) (tq 18 (.bin .add (.t 17) (.c (.int .i64 1))) (tm 1 (.t 18) .done))))
 (.seq (.reg (tm 19 (.t 0) (tm 20 (.t 5) (tm 21 (.t 1) (tq 22 (.iaddr 3 (.t 19) (.t 20)) (tq 23 (.faddr 1 (.t 22)) (.q ⟨none,none,.store 1 (.t 23) (.t 21)⟩
 .done)))))))
 (.seq (.reg (tm 24 (.t 1) (tq 25 (.bin .add (.t 24) (.c (.int .i64 1))) (tm 1 (.t 25) .done))))
 (.seq (.reg (tm 26 (.t 0) (tm 27 (.t 5) (tm 28 (.t 1) (tq 29 (.call 105 [(.t 28)]) (tq 30 (.iaddr 3 (.t 26) (.t 27)) (tq 31 (.faddr 2 (.t 30)) (.q ⟨none,none,.store 1 (.t 31) (.t 29)⟩
 .done))))))))
 (.reg (tm 32 (.t 1) (tq 33 (.bin .add (.t 32) (.c (.int .i64 1))) (tm 1 (.t 33) .done))))))))))
 (.reg (tm 10 (.t 5) (tq 11 (.bin .add (.t 10) (.c (.int .i64 1))) (tm 5 (.t 11) .done)))))))))
 (.cut (.seq (.reg (tm 34 (.t 1) (tm 4 (.t 34) .done)))
 .ret))))
theorem e0u:a1g Try.prog Try.f83 = some (d7y.erase,[.mov (.t 4)],35):=by kernel_rfl
def a3d :Nat → Int → Int → (List a0c) → Option (Int × (List a0c))
  | 0,_,_,_ => none
  | k + 1,k_58,i_59,a_60 =>
    if (decide (i_59 < (a_60.length:Int))) then
    if (0:Int) ≤ i_59 ∧ i_59 < (a_60.length:Int) then
    (a_60[(0 + i_59.toNat)]?).bind fun x_76 =>
    if (0:Int) ≤ i_59 ∧ i_59 < (a_60.length:Int) then
    (a5y (w64 ((w64 (k_58 + 1)) + 1))).bind fun r_79 =>
    if (0:Int) ≤ i_59 ∧ i_59 < (a_60.length:Int) then
    a3d k (w64 ((w64 ((w64 (k_58 + 1)) + 1)) + 1)) (w64 (i_59 + 1)) (((a_60.set (0 + i_59.toNat) (⟨k_58,x_76.N,x_76.T⟩:a0c)).set (0 + i_59.toNat) (⟨k_58,w64 (k_58 + 1),x_76.T⟩:a0c)).set (0 + i_59.toNat) (⟨k_58,w64 (k_58 + 1),r_79⟩:a0c))
    else none
    else none
    else none
    else
    some (k_58,a_60)

def a8m (a_1:(List a0c)) (k_2:Int):Option (Int × (List a0c)) :=
    (a3d FUEL k_2 0 a_1).bind fun p72 =>
    (match p72 with
    | (k_70,l_71) =>
    some (k_70,l_71))
theorem c1g (a_1:(List a0c)) (k_2:Int) (r:(Int × (List a0c))) (hf:a8m a_1 k_2 = some r):a0u Try.prog ⟨true,true,false⟩ 83 [(.own 0 0 a_1.length),(.int .i64 k_2)] [.row 3 (a_1.map l7)] (.int .i64 r.1) [.row 3 (r.2.map l7)]:=by
 refine a0u.of_awp mixed Try.func83 e0u nle ?_;rw [a0q];unfold a8m at hf;unfold d7y;refine (show awp Try.prog ⟨true,true,false⟩ 1 _ (ofL [(0,(.own 0 0 a_1.length)),(1,(.int .i64 k_2))]) [.row 3 (a_1.map l7)] _ from ?_);refine sr<|l9 (.int .i64 0) rfl<|dk<|o6<|sr<|l9 (.int .i64 0) rfl<|dk<|?_
 obtain ⟨p72,hb1,hf⟩:=ob hf
 refine a1v ([(1,(.int .i64 p72.1))],[.row 3 (p72.2.map l7)]) ?_ ?_
 ·refine a1d (X:={q:(Nat × Int × Int × (List a0c)) // a3d q.1 q.2.1 q.2.2.1 q.2.2.2 = some p72}) (fun q => ([(0,(.own 0 0 q.1.2.2.2.length)),(1,(.int .i64 q.1.2.1)),(5,(.int .i64 q.1.2.2.1))],[.row 3 (q.1.2.2.2.map l7)])) (fun q => q.1.1) ⟨(FUEL,k_2,0,a_1),hb1⟩ ⟨[],[0],_,_,rfl,rfl,⟨.refl _,⟨.refl _,⟨.refl _,trivial⟩⟩⟩,(.refl _)⟩ ?_
  rintro ⟨⟨k,k_58,i_59,a_60⟩,hc1⟩
  have hc1:a3d k k_58 i_59 a_60 = some p72:=hc1
  refine (show awp Try.prog ⟨true,true,false⟩ 1 _ (ofL [(0,(.own 0 0 a_60.length)),(1,(.int .i64 k_58)),(5,(.int .i64 i_59))]) [.row 3 (a_60.map l7)] _ from ?_)
  rcases k with _ | k
  ·rw [a3d.eq_1] at hc1
   cases hc1
  ·rw [a3d.eq_2] at hc1;refine o6<|sr<|l9 (.int .i64 i_59) rfl<|l9 (.own 0 0 a_60.length) rfl<|a0w (a6c rfl rfl) fun hl73 => y5 (.bool (decide (i_59 < (a_60.length:Int)))) rfl (.of rfl trivial) rfl<|dk<|?_
   rcases oi hc1 with ⟨c74,hc1⟩ | ⟨c74,hc1⟩
   ·refine y8 rfl c74<|a0e<|a0h<|o6<|a2u<|sr<|?_
    obtain ⟨g75,hc1⟩:=og hc1
    obtain ⟨x_76,ex77,hc1⟩:=ob hc1
    refine l9 (.own 0 0 a_60.length) rfl<|l9 (.int .i64 i_59) rfl<|l9 (.int .i64 k_58) rfl<|a0a (a2g rfl rfl g75.1 g75.2 rfl rfl)<|y5 (.ptr 0 (0 + i_59.toNat) 0) rfl (.of trivial trivial) rfl<|?_;refine a1p (a4j (v':=(.int .i64 k_58)) (e':=(⟨k_58,x_76.N,x_76.T⟩:a0c)) rfl rfl ex77 rfl rfl rfl (by decide) (fun _ => by decide) ⟨rfl,nle⟩ (.refl _) rfl) ?_;refine dk<|sr<|l9 (.int .i64 k_58) rfl<|y5 (.int .i64 (w64 (k_58 + 1))) rfl (.of rfl trivial) rfl<|l9 (.int .i64 (w64 (k_58 + 1))) rfl<|dk<|sr<|?_
    obtain ⟨g78,hc1⟩:=og hc1
    refine l9 (.own 0 0 a_60.length) rfl<|l9 (.int .i64 i_59) rfl<|l9 (.int .i64 (w64 (k_58 + 1))) rfl<|a0a (a2g rfl rfl g78.1 g78.2 rfl rfl)<|y5 (.ptr 0 (0 + i_59.toNat) 1) rfl (.of trivial trivial) rfl<|?_;refine a1p (a4j (v':=(.int .i64 (w64 (k_58 + 1)))) (e':=(⟨k_58,w64 (k_58 + 1),x_76.T⟩:a0c)) rfl rfl (a2v ex77) rfl rfl rfl (by decide) (fun _ => by decide) ⟨rfl,nle⟩ (.refl _) rfl) ?_;refine dk<|sr<|l9 (.int .i64 (w64 (k_58 + 1))) rfl<|y5 (.int .i64 (w64 ((w64 (k_58 + 1)) + 1))) rfl (.of rfl trivial) rfl<|l9 (.int .i64 (w64 ((w64 (k_58 + 1)) + 1))) rfl<|dk<|sr<|?_
    obtain ⟨r_79,er80,hc1⟩:=ob hc1
    obtain ⟨g81,hc1⟩:=og hc1
    refine l9 (.own 0 0 a_60.length) rfl<|l9 (.int .i64 i_59) rfl<|l9 (.int .i64 (w64 ((w64 (k_58 + 1)) + 1))) rfl<|a0a (a1o (b5d _ _ er80) rfl (.refl _) rfl)<|a0a (a2g rfl rfl g81.1 g81.2 rfl rfl)<|y5 (.ptr 0 (0 + i_59.toNat) 2) rfl (.of trivial trivial) rfl<|?_;refine a1p (a4j (v':=(.str r_79)) (e':=(⟨k_58,w64 (k_58 + 1),r_79⟩:a0c)) rfl rfl (a2v (a2v ex77)) rfl rfl rfl (by decide) (fun _ => by decide) ⟨rfl,nle⟩ (.refl _) rfl) ?_;refine dk<|a0y<|l9 (.int .i64 (w64 ((w64 (k_58 + 1)) + 1))) rfl<|y5 (.int .i64 (w64 ((w64 ((w64 (k_58 + 1)) + 1)) + 1))) rfl (.of rfl trivial) rfl<|l9 (.int .i64 (w64 ((w64 ((w64 (k_58 + 1)) + 1)) + 1))) rfl<|?_
    refine a0n<|a2r<|a0h<|a0y<|l9 (.int .i64 i_59) rfl<|y5 (.int .i64 (w64 (i_59 + 1))) rfl (.of rfl trivial) rfl<|l9 (.int .i64 (w64 (i_59 + 1))) rfl<|a0n<|?_;exact a1j ⟨(k,w64 ((w64 ((w64 (k_58 + 1)) + 1)) + 1),w64 (i_59 + 1),((a_60.set (0 + i_59.toNat) (⟨k_58,x_76.N,x_76.T⟩:a0c)).set (0 + i_59.toNat) (⟨k_58,w64 (k_58 + 1),x_76.T⟩:a0c)).set (0 + i_59.toNat) (⟨k_58,w64 (k_58 + 1),r_79⟩:a0c)),hc1⟩ (Nat.lt_succ_self _) ⟨[],[0],_,_,rfl,rfl,⟨.of_eq (congrArg (AV.own _ 0) (by simp)),⟨.refl _,⟨.refl _,trivial⟩⟩⟩,(.refl _)⟩
   ·refine y7 rfl (bf c74)<|a2e<|a2d<|a1l<|a2c<|?_;obtain rfl:=os hc1;exact ⟨[],[0],_,_,rfl,rfl,⟨.refl _,trivial⟩,(.refl _)⟩
 ·obtain ⟨k_70,l_71⟩:=p72
  refine sr<|l9 (.int .i64 k_70) rfl<|l9 (.int .i64 k_70) rfl<|dk<|a0f<|?_;obtain rfl:=os hf;exact a2s [] [0] rfl ⟨.of trivial trivial,trivial⟩ rfl (.refl _) (.refl _)

/- laws.markAtomSS -/
def d7z:a0r :=
 (.seq (.reg (tm 4 (.c (.int .i64 0)) .done))
 (.seq (.seq (.reg (tm 5 (.c (.int .i64 0)) .done))
 (.block 0 (.loop (.seq (.seq (.reg (tm 6 (.t 5) (tm 7 (.t 0) (tq 8 (.len (.t 7)) (tq 9 (.bin .lss (.t 6) (.t 8)) .done)))))
 (.cond (.t 9) .skip
 (.exit 0)))
 (.seq (.block 1 (.rev (.reg (tm 12 (.t 0) (tm 13 (.t 5) (tq 14 (.iaddr 1 (.t 12) (.t 13)) (tq 15 (.load 1 false (.t 14)) (tm 16 (.t 1) (tq 17 (.call 83 [(.t 15),(.t 16)]) (tm 1 (.t 17) .done))))))))))
 (.reg (tm 10 (.t 5) (tq 11 (.bin .add (.t 10) (.c (.int .i64 1))) (tm 5 (.t 11) .done)))))))))
 (.cut (.seq (.reg (tm 18 (.t 1) (tm 4 (.t 18) .done)))
 .ret))))
theorem e0v:a1g Try.prog Try.f53 = some (d7z.erase,[.mov (.t 4)],19):=by kernel_rfl
def a2o :Nat → Int → Int → (List (List a0c)) → Option (Int × (List (List a0c)))
  | 0,_,_,_ => none
  | k + 1,k_58,i_59,a_60 =>
    if (decide (i_59 < (a_60.length:Int))) then
    ((a_60[(0 + i_59.toNat)]?)).bind fun x_76 =>
    if (0:Int) ≤ i_59 ∧ i_59 < (a_60.length:Int) then
    (a8m x_76 k_58).bind fun r_80 =>
    a2o k r_80.1 (w64 (i_59 + 1)) (a_60.set (0 + i_59.toNat) r_80.2)
    else none
    else
    some (k_58,a_60)

def a5r (a_1:(List (List a0c))) (k_2:Int):Option (Int × (List (List a0c))) :=
    (a2o FUEL k_2 0 a_1).bind fun p72 =>
    (match p72 with
    | (k_70,l_71) =>
    some (k_70,l_71))
theorem b1f (a_1:(List (List a0c))) (k_2:Int) (r:(Int × (List (List a0c)))) (hf:a5r a_1 k_2 = some r):a0u Try.prog ⟨true,true,false⟩ 53 [(.own 0 0 a_1.length),(.int .i64 k_2)] [.row 1 (a_1.map (o7 3 l7))] (.int .i64 r.1) [.row 1 (r.2.map (o7 3 l7))]:=by
 refine a0u.of_awp mixed Try.func53 e0v nle ?_;rw [a0q];unfold a5r at hf;unfold d7z;refine (show awp Try.prog ⟨true,true,false⟩ 1 _ (ofL [(0,(.own 0 0 a_1.length)),(1,(.int .i64 k_2))]) [.row 1 (a_1.map (o7 3 l7))] _ from ?_);refine sr<|l9 (.int .i64 0) rfl<|dk<|o6<|sr<|l9 (.int .i64 0) rfl<|dk<|?_
 obtain ⟨p72,hb1,hf⟩:=ob hf
 refine a1v ([(1,(.int .i64 p72.1))],[.row 1 (p72.2.map (o7 3 l7))]) ?_ ?_
 ·refine a1d (X:={q:(Nat × Int × Int × (List (List a0c))) // a2o q.1 q.2.1 q.2.2.1 q.2.2.2 = some p72}) (fun q => ([(0,(.own 0 0 q.1.2.2.2.length)),(1,(.int .i64 q.1.2.1)),(5,(.int .i64 q.1.2.2.1))],[.row 1 (q.1.2.2.2.map (o7 3 l7))])) (fun q => q.1.1) ⟨(FUEL,k_2,0,a_1),hb1⟩ ⟨[],[0],_,_,rfl,rfl,⟨.refl _,⟨.refl _,⟨.refl _,trivial⟩⟩⟩,(.refl _)⟩ ?_
  rintro ⟨⟨k,k_58,i_59,a_60⟩,hc1⟩
  have hc1:a2o k k_58 i_59 a_60 = some p72:=hc1
  refine (show awp Try.prog ⟨true,true,false⟩ 1 _ (ofL [(0,(.own 0 0 a_60.length)),(1,(.int .i64 k_58)),(5,(.int .i64 i_59))]) [.row 1 (a_60.map (o7 3 l7))] _ from ?_)
  rcases k with _ | k
  ·rw [a2o.eq_1] at hc1
   cases hc1
  ·rw [a2o.eq_2] at hc1;refine o6<|sr<|l9 (.int .i64 i_59) rfl<|l9 (.own 0 0 a_60.length) rfl<|a0w (a6c rfl rfl) fun hl73 => y5 (.bool (decide (i_59 < (a_60.length:Int)))) rfl (.of rfl trivial) rfl<|dk<|?_
   rcases oi hc1 with ⟨c74,hc1⟩ | ⟨c74,hc1⟩
   ·refine y8 rfl c74<|a0e<|a0h<|o6<|a2u<|?_
    obtain ⟨x_76,ex77,hc1⟩:=ob hc1
    refine d0t (o:=0) (f:=0) (l':=x_76) (enc':=l7) (el:=(.lst 3 (x_76.map l7))) rfl ex77 rfl rfl fun v_78 => ?_;refine a0y ?_
    obtain ⟨g79,hc1⟩:=og hc1
    obtain ⟨r_80,er81,hc1⟩:=ob hc1
    refine l9 (.own 0 0 a_60.length) rfl<|l9 (.int .i64 i_59) rfl<|a0a (a2g rfl rfl g79.1 g79.2 rfl rfl)<|a0a (b3w rfl rfl (c0w ex77) ⟨rfl,rfl⟩ rfl)<|l9 (.int .i64 k_58) rfl<|a0a (b9m (o:=0) (l:=a_60) (enc:=(o7 3 l7)) (enc':=l7) (l'':=r_80.2) (y:=r_80.2) (j:=0) (el:=(.hdr v_78 3 (x_76.map l7))) rfl rfl (c1g _ _ _ er81) rfl rfl ex77 rfl (by decide) rfl)<|l9 (.int .i64 r_80.1) rfl<|a0n<|a2r<|a0h<|a0y<|l9 (.int .i64 i_59) rfl<|y5 (.int .i64 (w64 (i_59 + 1))) rfl (.of rfl trivial) rfl<|l9 (.int .i64 (w64 (i_59 + 1))) rfl<|a0n<|?_;exact a1j ⟨(k,r_80.1,w64 (i_59 + 1),a_60.set (0 + i_59.toNat) r_80.2),hc1⟩ (Nat.lt_succ_self _) ⟨[],[0],_,_,rfl,rfl,⟨.of_eq (congrArg (AV.own _ 0) (by simp)),⟨.refl _,⟨.refl _,trivial⟩⟩⟩,(.refl _)⟩
   ·refine y7 rfl (bf c74)<|a2e<|a2d<|a1l<|a2c<|?_;obtain rfl:=os hc1;exact ⟨[],[0],_,_,rfl,rfl,⟨.refl _,trivial⟩,(.refl _)⟩
 ·obtain ⟨k_70,l_71⟩:=p72
  refine sr<|l9 (.int .i64 k_70) rfl<|l9 (.int .i64 k_70) rfl<|dk<|a0f<|?_;obtain rfl:=os hf;exact a2s [] [0] rfl ⟨.of trivial trivial,trivial⟩ rfl (.refl _) (.refl _)

/- laws.markRowS -/
def d8a:a0r :=
 (.seq (.reg (tm 4 (.c (.int .i64 0)) .done))
 (.seq (.seq (.reg (tm 5 (.c (.int .i64 0)) .done))
 (.block 0 (.loop (.seq (.seq (.reg (tm 6 (.t 5) (tm 7 (.t 0) (tq 8 (.len (.t 7)) (tq 9 (.bin .lss (.t 6) (.t 8)) .done)))))
 (.cond (.t 9) .skip
 (.exit 0)))
 (.seq (.block 1 (.seq (.reg (tm 12 (.t 0) (tm 13 (.t 5) (tm 14 (.t 1) (tq 15 (.iaddr 2 (.t 12) (.t 13)) (tq 16 (.faddr 0 (.t 15)) (.q ⟨none,none,.store 1 (.t 16) (.t 14)⟩
 .done)))))))
 (.seq (.reg (tm 17 (.t 1) (tq 18 (.bin .add (.t 17) (.c (.int .i64 1))) (tm 1 (.t 18) .done))))
 (.rev (.reg (tm 19 (.t 0) (tm 20 (.t 5) (tq 21 (.iaddr 2 (.t 19) (.t 20)) (tq 22 (.faddr 1 (.t 21)) (tq 23 (.load 1 false (.t 22)) (tm 24 (.t 1) (tq 25 (.call 53 [(.t 23),(.t 24)]) (tm 1 (.t 25) .done)))))))))))))
 (.reg (tm 10 (.t 5) (tq 11 (.bin .add (.t 10) (.c (.int .i64 1))) (tm 5 (.t 11) .done)))))))))
 (.cut (.seq (.reg (tm 26 (.t 1) (tm 4 (.t 26) .done)))
 .ret))))
theorem e0w:a1g Try.prog Try.f15 = some (d8a.erase,[.mov (.t 4)],27):=by kernel_rfl
def a3u :Nat → Int → Int → (List x8) → Option (Int × (List x8))
  | 0,_,_,_ => none
  | k + 1,k_63,i_64,a_65 =>
    if (decide (i_64 < (a_65.length:Int))) then
    if (0:Int) ≤ i_64 ∧ i_64 < (a_65.length:Int) then
    (a_65[(0 + i_64.toNat)]?).bind fun x_82 =>
    if (0:Int) ≤ i_64 ∧ i_64 < (a_65.length:Int) then
    (a5r x_82.Cells (w64 (k_63 + 1))).bind fun r_87 =>
    a3u k r_87.1 (w64 (i_64 + 1)) ((a_65.set (0 + i_64.toNat) (⟨k_63,x_82.Cells⟩:x8)).set (0 + i_64.toNat) (⟨k_63,r_87.2⟩:x8))
    else none
    else none
    else
    some (k_63,a_65)

def a9y (a_1:(List x8)) (k_2:Int):Option (Int × (List x8)) :=
    (a3u FUEL k_2 0 a_1).bind fun p78 =>
    (match p78 with
    | (k_76,l_77) =>
    some (k_76,l_77))
theorem c2z (a_1:(List x8)) (k_2:Int) (r:(Int × (List x8))) (hf:a9y a_1 k_2 = some r):a0u Try.prog ⟨true,true,false⟩ 15 [(.own 0 0 a_1.length),(.int .i64 k_2)] [.row 2 (a_1.map o5)] (.int .i64 r.1) [.row 2 (r.2.map o5)]:=by
 refine a0u.of_awp mixed Try.func15 e0w nle ?_;rw [a0q];unfold a9y at hf;unfold d8a;refine (show awp Try.prog ⟨true,true,false⟩ 1 _ (ofL [(0,(.own 0 0 a_1.length)),(1,(.int .i64 k_2))]) [.row 2 (a_1.map o5)] _ from ?_);refine sr<|l9 (.int .i64 0) rfl<|dk<|o6<|sr<|l9 (.int .i64 0) rfl<|dk<|?_
 obtain ⟨p78,hb1,hf⟩:=ob hf
 refine a1v ([(1,(.int .i64 p78.1))],[.row 2 (p78.2.map o5)]) ?_ ?_
 ·refine a1d (X:={q:(Nat × Int × Int × (List x8)) // a3u q.1 q.2.1 q.2.2.1 q.2.2.2 = some p78}) (fun q => ([(0,(.own 0 0 q.1.2.2.2.length)),(1,(.int .i64 q.1.2.1)),(5,(.int .i64 q.1.2.2.1))],[.row 2 (q.1.2.2.2.map o5)])) (fun q => q.1.1) ⟨(FUEL,k_2,0,a_1),hb1⟩ ⟨[],[0],_,_,rfl,rfl,⟨.refl _,⟨.refl _,⟨.refl _,trivial⟩⟩⟩,(.refl _)⟩ ?_
  rintro ⟨⟨k,k_63,i_64,a_65⟩,hc1⟩
  have hc1:a3u k k_63 i_64 a_65 = some p78:=hc1
  refine (show awp Try.prog ⟨true,true,false⟩ 1 _ (ofL [(0,(.own 0 0 a_65.length)),(1,(.int .i64 k_63)),(5,(.int .i64 i_64))]) [.row 2 (a_65.map o5)] _ from ?_)
  rcases k with _ | k
  ·rw [a3u.eq_1] at hc1
   cases hc1
  ·rw [a3u.eq_2] at hc1;refine o6<|sr<|l9 (.int .i64 i_64) rfl<|l9 (.own 0 0 a_65.length) rfl<|a0w (a6c rfl rfl) fun hl79 => y5 (.bool (decide (i_64 < (a_65.length:Int)))) rfl (.of rfl trivial) rfl<|dk<|?_
   rcases oi hc1 with ⟨c80,hc1⟩ | ⟨c80,hc1⟩
   ·refine y8 rfl c80<|a0e<|a0h<|o6<|a2u<|sr<|?_
    obtain ⟨g81,hc1⟩:=og hc1
    obtain ⟨x_82,ex83,hc1⟩:=ob hc1
    refine l9 (.own 0 0 a_65.length) rfl<|l9 (.int .i64 i_64) rfl<|l9 (.int .i64 k_63) rfl<|a0a (a2g rfl rfl g81.1 g81.2 rfl rfl)<|y5 (.ptr 0 (0 + i_64.toNat) 0) rfl (.of trivial trivial) rfl<|?_;refine a1p (a4j (v':=(.int .i64 k_63)) (e':=(⟨k_63,x_82.Cells⟩:x8)) rfl rfl ex83 rfl rfl rfl (by decide) (fun _ => by decide) ⟨rfl,nle⟩ (.refl _) rfl) ?_;refine dk<|sr<|l9 (.int .i64 k_63) rfl<|y5 (.int .i64 (w64 (k_63 + 1))) rfl (.of rfl trivial) rfl<|l9 (.int .i64 (w64 (k_63 + 1))) rfl<|dk<|?_;refine d0t (o:=0) (f:=1) (l':=x_82.Cells) (enc':=(o7 3 l7)) (el:=(.agg [(.int .i64 k_63),(.lst 1 (x_82.Cells.map (o7 3 l7)))])) rfl (a2v ex83) rfl rfl fun v_85 => ?_
    refine a0y ?_
    obtain ⟨g86,hc1⟩:=og hc1
    obtain ⟨r_87,er88,hc1⟩:=ob hc1
    refine l9 (.own 0 0 a_65.length) rfl<|l9 (.int .i64 i_64) rfl<|a0a (a2g rfl rfl g86.1 g86.2 rfl rfl)<|y5 (.ptr 0 (0 + i_64.toNat) 1) rfl (.of trivial trivial) rfl<|a0a (b3w rfl rfl (c0w (a2v ex83)) nle rfl)<|l9 (.int .i64 (w64 (k_63 + 1))) rfl<|a0a (b9m (o:=0) (l:=(a_65.set (0 + i_64.toNat) (⟨k_63,x_82.Cells⟩:x8))) (enc:=o5) (enc':=(o7 3 l7)) (l'':=r_87.2) (y:=(⟨k_63,r_87.2⟩:x8)) (j:=1) (el:=(.agg [(.int .i64 k_63),(.hdr v_85 1 (x_82.Cells.map (o7 3 l7)))])) rfl rfl (b1f _ _ _ er88) rfl rfl (a2v ex83) rfl (by decide) rfl)<|l9 (.int .i64 r_87.1) rfl<|a0n<|a2r<|a0h<|a0y<|?_
    refine l9 (.int .i64 i_64) rfl<|y5 (.int .i64 (w64 (i_64 + 1))) rfl (.of rfl trivial) rfl<|l9 (.int .i64 (w64 (i_64 + 1))) rfl<|a0n<|?_;exact a1j ⟨(k,r_87.1,w64 (i_64 + 1),(a_65.set (0 + i_64.toNat) (⟨k_63,x_82.Cells⟩:x8)).set (0 + i_64.toNat) (⟨k_63,r_87.2⟩:x8)),hc1⟩ (Nat.lt_succ_self _) ⟨[],[0],_,_,rfl,rfl,⟨.of_eq (congrArg (AV.own _ 0) (by simp)),⟨.refl _,⟨.refl _,trivial⟩⟩⟩,(.refl _)⟩
   ·refine y7 rfl (bf c80)<|a2e<|a2d<|a1l<|a2c<|?_;obtain rfl:=os hc1;exact ⟨[],[0],_,_,rfl,rfl,⟨.refl _,trivial⟩,(.refl _)⟩
 ·obtain ⟨k_76,l_77⟩:=p78
  refine sr<|l9 (.int .i64 k_76) rfl<|l9 (.int .i64 k_76) rfl<|dk<|a0f<|?_;obtain rfl:=os hf;exact a2s [] [0] rfl ⟨.of trivial trivial,trivial⟩ rfl (.refl _) (.refl _)

/- laws.markRowSS -/
def d8b:a0r :=
 (.seq (.reg (tm 4 (.c (.int .i64 0)) .done))
 (.seq (.seq (.reg (tm 5 (.c (.int .i64 0)) .done))
 (.block 0 (.loop (.seq (.seq (.reg (tm 6 (.t 5) (tm 7 (.t 0) (tq 8 (.len (.t 7)) (tq 9 (.bin .lss (.t 6) (.t 8)) .done)))))
 (.cond (.t 9) .skip
 (.exit 0)))
 (.seq (.block 1 (.rev (.reg (tm 12 (.t 0) (tm 13 (.t 5) (tq 14 (.iaddr 1 (.t 12) (.t 13)) (tq 15 (.load 1 false (.t 14)) (tm 16 (.t 1) (tq 17 (.call 15 [(.t 15),(.t 16)]) (tm 1 (.t 17) .done))))))))))
 (.reg (tm 10 (.t 5) (tq 11 (.bin .add (.t 10) (.c (.int .i64 1))) (tm 5 (.t 11) .done)))))))))
 (.cut (.seq (.reg (tm 18 (.t 1) (tm 4 (.t 18) .done)))
 .ret))))
theorem e0x:a1g Try.prog Try.f65 = some (d8b.erase,[.mov (.t 4)],19):=by kernel_rfl
def a3e :Nat → Int → Int → (List (List x8)) → Option (Int × (List (List x8)))
  | 0,_,_,_ => none
  | k + 1,k_58,i_59,a_60 =>
    if (decide (i_59 < (a_60.length:Int))) then
    ((a_60[(0 + i_59.toNat)]?)).bind fun x_76 =>
    if (0:Int) ≤ i_59 ∧ i_59 < (a_60.length:Int) then
    (a9y x_76 k_58).bind fun r_80 =>
    a3e k r_80.1 (w64 (i_59 + 1)) (a_60.set (0 + i_59.toNat) r_80.2)
    else none
    else
    some (k_58,a_60)

def a8n (a_1:(List (List x8))) (k_2:Int):Option (Int × (List (List x8))) :=
    (a3e FUEL k_2 0 a_1).bind fun p72 =>
    (match p72 with
    | (k_70,l_71) =>
    some (k_70,l_71))
theorem c1h (a_1:(List (List x8))) (k_2:Int) (r:(Int × (List (List x8)))) (hf:a8n a_1 k_2 = some r):a0u Try.prog ⟨true,true,false⟩ 65 [(.own 0 0 a_1.length),(.int .i64 k_2)] [.row 1 (a_1.map (o7 2 o5))] (.int .i64 r.1) [.row 1 (r.2.map (o7 2 o5))]:=by
 refine a0u.of_awp mixed Try.func65 e0x nle ?_;rw [a0q];unfold a8n at hf;unfold d8b;refine (show awp Try.prog ⟨true,true,false⟩ 1 _ (ofL [(0,(.own 0 0 a_1.length)),(1,(.int .i64 k_2))]) [.row 1 (a_1.map (o7 2 o5))] _ from ?_);refine sr<|l9 (.int .i64 0) rfl<|dk<|o6<|sr<|l9 (.int .i64 0) rfl<|dk<|?_
 obtain ⟨p72,hb1,hf⟩:=ob hf
 refine a1v ([(1,(.int .i64 p72.1))],[.row 1 (p72.2.map (o7 2 o5))]) ?_ ?_
 ·refine a1d (X:={q:(Nat × Int × Int × (List (List x8))) // a3e q.1 q.2.1 q.2.2.1 q.2.2.2 = some p72}) (fun q => ([(0,(.own 0 0 q.1.2.2.2.length)),(1,(.int .i64 q.1.2.1)),(5,(.int .i64 q.1.2.2.1))],[.row 1 (q.1.2.2.2.map (o7 2 o5))])) (fun q => q.1.1) ⟨(FUEL,k_2,0,a_1),hb1⟩ ⟨[],[0],_,_,rfl,rfl,⟨.refl _,⟨.refl _,⟨.refl _,trivial⟩⟩⟩,(.refl _)⟩ ?_
  rintro ⟨⟨k,k_58,i_59,a_60⟩,hc1⟩
  have hc1:a3e k k_58 i_59 a_60 = some p72:=hc1
  refine (show awp Try.prog ⟨true,true,false⟩ 1 _ (ofL [(0,(.own 0 0 a_60.length)),(1,(.int .i64 k_58)),(5,(.int .i64 i_59))]) [.row 1 (a_60.map (o7 2 o5))] _ from ?_)
  rcases k with _ | k
  ·rw [a3e.eq_1] at hc1
   cases hc1
  ·rw [a3e.eq_2] at hc1;refine o6<|sr<|l9 (.int .i64 i_59) rfl<|l9 (.own 0 0 a_60.length) rfl<|a0w (a6c rfl rfl) fun hl73 => y5 (.bool (decide (i_59 < (a_60.length:Int)))) rfl (.of rfl trivial) rfl<|dk<|?_
   rcases oi hc1 with ⟨c74,hc1⟩ | ⟨c74,hc1⟩
   ·refine y8 rfl c74<|a0e<|a0h<|o6<|a2u<|?_
    obtain ⟨x_76,ex77,hc1⟩:=ob hc1
    refine d0t (o:=0) (f:=0) (l':=x_76) (enc':=o5) (el:=(.lst 2 (x_76.map o5))) rfl ex77 rfl rfl fun v_78 => ?_;refine a0y ?_
    obtain ⟨g79,hc1⟩:=og hc1
    obtain ⟨r_80,er81,hc1⟩:=ob hc1
    refine l9 (.own 0 0 a_60.length) rfl<|l9 (.int .i64 i_59) rfl<|a0a (a2g rfl rfl g79.1 g79.2 rfl rfl)<|a0a (b3w rfl rfl (c0w ex77) ⟨rfl,rfl⟩ rfl)<|l9 (.int .i64 k_58) rfl<|a0a (b9m (o:=0) (l:=a_60) (enc:=(o7 2 o5)) (enc':=o5) (l'':=r_80.2) (y:=r_80.2) (j:=0) (el:=(.hdr v_78 2 (x_76.map o5))) rfl rfl (c2z _ _ _ er81) rfl rfl ex77 rfl (by decide) rfl)<|l9 (.int .i64 r_80.1) rfl<|a0n<|a2r<|a0h<|a0y<|l9 (.int .i64 i_59) rfl<|y5 (.int .i64 (w64 (i_59 + 1))) rfl (.of rfl trivial) rfl<|l9 (.int .i64 (w64 (i_59 + 1))) rfl<|a0n<|?_;exact a1j ⟨(k,r_80.1,w64 (i_59 + 1),a_60.set (0 + i_59.toNat) r_80.2),hc1⟩ (Nat.lt_succ_self _) ⟨[],[0],_,_,rfl,rfl,⟨.of_eq (congrArg (AV.own _ 0) (by simp)),⟨.refl _,⟨.refl _,trivial⟩⟩⟩,(.refl _)⟩
   ·refine y7 rfl (bf c74)<|a2e<|a2d<|a1l<|a2c<|?_;obtain rfl:=os hc1;exact ⟨[],[0],_,_,rfl,rfl,⟨.refl _,trivial⟩,(.refl _)⟩
 ·obtain ⟨k_70,l_71⟩:=p72
  refine sr<|l9 (.int .i64 k_70) rfl<|l9 (.int .i64 k_70) rfl<|dk<|a0f<|?_;obtain rfl:=os hf;exact a2s [] [0] rfl ⟨.of trivial trivial,trivial⟩ rfl (.refl _) (.refl _)

/- laws.markStore -/
def d8c:a0r :=
 (.seq (.reg (tq 2 (.box 2 (.t 0)) (tm 4 (.c (.int .i64 0)) .done)))
 (.seq (.reg (tq 5 (.faddr 0 (.t 2)) (tq 6 (.load 1 false (.t 5)) (tm 7 (.t 1) (tq 8 (.call 65 [(.t 6),(.t 7)]) (tm 1 (.t 8) .done))))))
 (.seq (.reg (tm 9 (.t 1) (tm 4 (.t 9) .done)))
 .ret)))
theorem e0y:a1g Try.prog Try.f26 = some (d8c.erase,[.mov (.t 4)],10):=by kernel_rfl
def a7e (a_1:a0l) (k_2:Int):Option (Int × a0l) :=
    (a8n a_1.Tables k_2).bind fun r_3 =>
    some (r_3.1,(⟨r_3.2,a_1.Next⟩:a0l))
theorem b3y (a_1:a0l) (k_2:Int) (r:(Int × a0l)) (hf:a7e a_1 k_2 = some r):a0u Try.prog ⟨true,true,false⟩ 26 [(.agg [(.own 0 0 a_1.Tables.length),(.int .i64 a_1.Next)]),(.int .i64 k_2)] [.row 1 (a_1.Tables.map (o7 2 o5))] (.int .i64 r.1) [.row 1 (r.2.Tables.map (o7 2 o5))]:=by
 refine a0u.of_awp mixed Try.func26 e0y nle ?_;rw [a0q];unfold a7e at hf;unfold d8c;refine (show awp Try.prog ⟨true,true,false⟩ 1 _ (ofL [(0,(.agg [(.own 0 0 a_1.Tables.length),(.int .i64 a_1.Next)])),(1,(.int .i64 k_2))]) [.row 1 (a_1.Tables.map (o7 2 o5))] _ from ?_);refine sr<|a0a (a1m (j:=1) (c:=(.agg [(.own 0 0 a_1.Tables.length),(.int .i64 a_1.Next)])) rfl trivial rfl rfl)<|l9 (.int .i64 0) rfl<|dk<|sr<|?_
 obtain ⟨r_3,er4,hf⟩:=ob hf
 refine y5 (.ptr 1 0 0) rfl (.of trivial trivial) rfl<|y5 (.own 0 0 a_1.Tables.length) rfl (.of nle trivial) rfl<|l9 (.int .i64 k_2) rfl<|?_;refine a0w (b9l (v:=(.int .i64 r_3.1)) (h2:=[.row 1 (r_3.2.map (o7 2 o5)),.box 2 (.agg [(.own 0 0 a_1.Tables.length),(.int .i64 a_1.Next)])]) [] [0] (fun _ => rfl) (c1h _ _ _ er4) rfl (.refl _) (.refl _) rfl rfl) fun hl5 => ?_;refine l9 (.int .i64 r_3.1) rfl<|dk<|sr<|l9 (.int .i64 r_3.1) rfl<|l9 (.int .i64 r_3.1) rfl<|dk<|a0f<|?_;obtain rfl:=os hf;exact a2s [] [0] rfl ⟨.of trivial trivial,trivial⟩ rfl (.refl _) (.refl _)

/- laws.markChangeS -/
def d8d:a0r :=
 (.seq (.reg (tm 4 (.c (.int .i64 0)) .done))
 (.seq (.seq (.reg (tm 5 (.c (.int .i64 0)) .done))
 (.block 0 (.loop (.seq (.seq (.reg (tm 6 (.t 5) (tm 7 (.t 0) (tq 8 (.len (.t 7)) (tq 9 (.bin .lss (.t 6) (.t 8)) .done)))))
 (.cond (.t 9) .skip
 (.exit 0)))
 (.seq (.block 1 (.seq (.reg (tm 12 (.t 0) (tm 13 (.t 5) (tm 14 (.t 1) (tq 15 (.iaddr 6 (.t 12) (.t 13)) (tq 16 (.faddr 0 (.t 15)) (.q ⟨none,none,.store 1 (.t 16) (.t 14)⟩
 .done)))))))
 (.seq (.reg (tm 17 (.t 1) (tq 18 (.bin .add (.t 17) (.c (.int .i64 1))) (tm 1 (.t 18) .done))))
 (.seq (.reg (tm 19 (.t 0) (tm 20 (.t 5) (tm 21 (.t 1) (tq 22 (.iaddr 6 (.t 19) (.t 20)) (tq 23 (.faddr 1 (.t 22)) (.q ⟨none,none,.store 1 (.t 23) (.t 21)⟩
 .done)))))))
 (.seq (.reg (tm 24 (.t 1) (tq 25 (.bin .add (.t 24) (.c (.int .i64 1))) (tm 1 (.t 25) .done))))
 (.seq (.reg (tm 26 (.t 0) (tm 27 (.t 5) (tm 28 (.t 1) (tq 29 (.iaddr 6 (.t 26) (.t 27)) (tq 30 (.faddr 2 (.t 29)) (tq 31 (.faddr 0 (.t 30)) (.q ⟨none,none,.store 1 (.t 31) (.t 28)⟩
 .done))))))))
 (.seq (.reg (tm 32 (.t 1) (tq 33 (.bin .add (.t 32) (.c (.int .i64 1))) (tm 1 (.t 33) .done))))
 (.seq (.rev (.reg (tm 34 (.t 0) (tm 35 (.t 5) (tq 36 (.iaddr 6 (.t 34) (.t 35)) (tq 37 (.faddr 2 (.t 36)) (tq 38 (.faddr 1 (.t 37)) (tq 39 (.load 1 false (.t 38)) (tm 40 (.t 1) (tq 41 (.call 53 [(.t 39),(.t 40)]) (tm 1 (.t 41) .done)))))))))))
 (.seq (.reg (tm 42 (.t 0) (tm 43 (.t 5) (tm 44 (.t 1) (tq 45 (.iaddr 6 (.t 42) (.t 43)) (tq 46 (.faddr 4 (.t 45)) (tq 47 (.faddr 0 (.t 46)) (.q ⟨none,none,.store 1 (.t 47) (.t 44)⟩
 .done))))))))
 (.seq (.reg (tm 48 (.t 1) (tq 49 (.bin .add (.t 48) (.c (.int .i64 1))) (tm 1 (.t 49) .done))))
 (.rev (.reg (tm 50 (.t 0) (tm 51 (.t 5) (tq 52 (.iaddr 6 (.t 50) (.t 51)) (tq 53 (.faddr 4 (.t 52)) (tq 54 (.faddr 1 (.t 53)) (tq 55 (.load 1 false (.t 54)) (tm 56 (.t 1) (tq 57 (.call 53 [(.t 55),(.t 56)]) (tm 1 (.t 57) .done)))))))))))))))))))))
 (.reg (tm 10 (.t 5) (tq 11 (.bin .add (.t 10) (.c (.int .i64 1))) (tm 5 (.t 11) .done)))))))))
 (.cut (.seq (.reg (tm 58 (.t 1) (tm 4 (.t 58) .done)))
 .ret))))
theorem e0z:a1g Try.prog Try.f27 = some (d8d.erase,[.mov (.t 4)],59):=by kernel_rfl
def a2h :Nat → Int → Int → (List y9) → Option (Int × (List y9))
  | 0,_,_,_ => none
  | k + 1,k_103,i_104,a_105 =>
    if (decide (i_104 < (a_105.length:Int))) then
    if (0:Int) ≤ i_104 ∧ i_104 < (a_105.length:Int) then
    (a_105[(0 + i_104.toNat)]?).bind fun x_130 =>
    if (0:Int) ≤ i_104 ∧ i_104 < (a_105.length:Int) then
    if (0:Int) ≤ i_104 ∧ i_104 < (a_105.length:Int) then
    if (0:Int) ≤ i_104 ∧ i_104 < (a_105.length:Int) then
    (a5r x_130.Old.Cells (w64 ((w64 ((w64 (k_103 + 1)) + 1)) + 1))).bind fun r_137 =>
    if (0:Int) ≤ i_104 ∧ i_104 < (a_105.length:Int) then
    if (0:Int) ≤ i_104 ∧ i_104 < (a_105.length:Int) then
    (a5r x_130.New.Cells (w64 (r_137.1 + 1))).bind fun r_143 =>
    a2h k r_143.1 (w64 (i_104 + 1)) ((((((a_105.set (0 + i_104.toNat) (⟨k_103,x_130.Id,x_130.Old,x_130.New⟩:y9)).set (0 + i_104.toNat) (⟨k_103,w64 (k_103 + 1),x_130.Old,x_130.New⟩:y9)).set (0 + i_104.toNat) (⟨k_103,w64 (k_103 + 1),(⟨w64 ((w64 (k_103 + 1)) + 1),x_130.Old.Cells⟩:x8),x_130.New⟩:y9)).set (0 + i_104.toNat) (⟨k_103,w64 (k_103 + 1),(⟨w64 ((w64 (k_103 + 1)) + 1),r_137.2⟩:x8),x_130.New⟩:y9)).set (0 + i_104.toNat) (⟨k_103,w64 (k_103 + 1),(⟨w64 ((w64 (k_103 + 1)) + 1),r_137.2⟩:x8),(⟨r_137.1,x_130.New.Cells⟩:x8)⟩:y9)).set (0 + i_104.toNat) (⟨k_103,w64 (k_103 + 1),(⟨w64 ((w64 (k_103 + 1)) + 1),r_137.2⟩:x8),(⟨r_137.1,r_143.2⟩:x8)⟩:y9))
    else none
    else none
    else none
    else none
    else none
    else none
    else
    some (k_103,a_105)

def a7f (a_1:(List y9)) (k_2:Int):Option (Int × (List y9)) :=
    (a2h FUEL k_2 0 a_1).bind fun p126 =>
    (match p126 with
    | (k_124,l_125) =>
    some (k_124,l_125))
theorem b8r (a_1:(List y9)) (k_2:Int) (r:(Int × (List y9))) (hf:a7f a_1 k_2 = some r):a0u Try.prog ⟨true,true,false⟩ 27 [(.own 0 0 a_1.length),(.int .i64 k_2)] [.row 6 (a_1.map o8)] (.int .i64 r.1) [.row 6 (r.2.map o8)]:=by
 refine a0u.of_awp mixed Try.func27 e0z nle ?_;rw [a0q];unfold a7f at hf;unfold d8d;refine (show awp Try.prog ⟨true,true,false⟩ 1 _ (ofL [(0,(.own 0 0 a_1.length)),(1,(.int .i64 k_2))]) [.row 6 (a_1.map o8)] _ from ?_);refine sr<|l9 (.int .i64 0) rfl<|dk<|o6<|sr<|l9 (.int .i64 0) rfl<|dk<|?_
 obtain ⟨p126,hb1,hf⟩:=ob hf
 refine a1v ([(1,(.int .i64 p126.1))],[.row 6 (p126.2.map o8)]) ?_ ?_
 ·refine a1d (X:={q:(Nat × Int × Int × (List y9)) // a2h q.1 q.2.1 q.2.2.1 q.2.2.2 = some p126}) (fun q => ([(0,(.own 0 0 q.1.2.2.2.length)),(1,(.int .i64 q.1.2.1)),(5,(.int .i64 q.1.2.2.1))],[.row 6 (q.1.2.2.2.map o8)])) (fun q => q.1.1) ⟨(FUEL,k_2,0,a_1),hb1⟩ ⟨[],[0],_,_,rfl,rfl,⟨.refl _,⟨.refl _,⟨.refl _,trivial⟩⟩⟩,(.refl _)⟩ ?_
  rintro ⟨⟨k,k_103,i_104,a_105⟩,hc1⟩
  have hc1:a2h k k_103 i_104 a_105 = some p126:=hc1
  refine (show awp Try.prog ⟨true,true,false⟩ 1 _ (ofL [(0,(.own 0 0 a_105.length)),(1,(.int .i64 k_103)),(5,(.int .i64 i_104))]) [.row 6 (a_105.map o8)] _ from ?_)
  rcases k with _ | k
  ·rw [a2h.eq_1] at hc1
   cases hc1
  ·rw [a2h.eq_2] at hc1;refine o6<|sr<|l9 (.int .i64 i_104) rfl<|l9 (.own 0 0 a_105.length) rfl<|a0w (a6c rfl rfl) fun hl127 => y5 (.bool (decide (i_104 < (a_105.length:Int)))) rfl (.of rfl trivial) rfl<|dk<|?_
   rcases oi hc1 with ⟨c128,hc1⟩ | ⟨c128,hc1⟩
   ·refine y8 rfl c128<|a0e<|a0h<|o6<|a2u<|sr<|?_
    obtain ⟨g129,hc1⟩:=og hc1
    obtain ⟨x_130,ex131,hc1⟩:=ob hc1
    refine l9 (.own 0 0 a_105.length) rfl<|l9 (.int .i64 i_104) rfl<|l9 (.int .i64 k_103) rfl<|a0a (a2g rfl rfl g129.1 g129.2 rfl rfl)<|y5 (.ptr 0 (0 + i_104.toNat) 0) rfl (.of trivial trivial) rfl<|?_;refine a1p (a4j (v':=(.int .i64 k_103)) (e':=(⟨k_103,x_130.Id,x_130.Old,x_130.New⟩:y9)) rfl rfl ex131 rfl rfl rfl (by decide) (fun _ => by decide) ⟨rfl,nle⟩ (.refl _) rfl) ?_;refine dk<|sr<|l9 (.int .i64 k_103) rfl<|y5 (.int .i64 (w64 (k_103 + 1))) rfl (.of rfl trivial) rfl<|l9 (.int .i64 (w64 (k_103 + 1))) rfl<|dk<|sr<|?_
    obtain ⟨g132,hc1⟩:=og hc1
    refine l9 (.own 0 0 a_105.length) rfl<|l9 (.int .i64 i_104) rfl<|l9 (.int .i64 (w64 (k_103 + 1))) rfl<|a0a (a2g rfl rfl g132.1 g132.2 rfl rfl)<|y5 (.ptr 0 (0 + i_104.toNat) 1) rfl (.of trivial trivial) rfl<|?_;refine a1p (a4j (v':=(.int .i64 (w64 (k_103 + 1)))) (e':=(⟨k_103,w64 (k_103 + 1),x_130.Old,x_130.New⟩:y9)) rfl rfl (a2v ex131) rfl rfl rfl (by decide) (fun _ => by decide) ⟨rfl,nle⟩ (.refl _) rfl) ?_;refine dk<|sr<|l9 (.int .i64 (w64 (k_103 + 1))) rfl<|y5 (.int .i64 (w64 ((w64 (k_103 + 1)) + 1))) rfl (.of rfl trivial) rfl<|l9 (.int .i64 (w64 ((w64 (k_103 + 1)) + 1))) rfl<|dk<|sr<|?_
    obtain ⟨g133,hc1⟩:=og hc1
    refine l9 (.own 0 0 a_105.length) rfl<|l9 (.int .i64 i_104) rfl<|l9 (.int .i64 (w64 ((w64 (k_103 + 1)) + 1))) rfl<|a0a (a2g rfl rfl g133.1 g133.2 rfl rfl)<|y5 (.ptr 0 (0 + i_104.toNat) 2) rfl (.of trivial trivial) rfl<|y5 (.ptr 0 (0 + i_104.toNat) 2) rfl (.of trivial trivial) rfl<|?_;refine a1p (a4j (v':=(.int .i64 (w64 ((w64 (k_103 + 1)) + 1)))) (e':=(⟨k_103,w64 (k_103 + 1),(⟨w64 ((w64 (k_103 + 1)) + 1),x_130.Old.Cells⟩:x8),x_130.New⟩:y9)) rfl rfl (a2v (a2v ex131)) rfl rfl rfl (by decide) (fun _ => by decide) ⟨rfl,nle⟩ (.refl _) rfl) ?_;refine dk<|sr<|l9 (.int .i64 (w64 ((w64 (k_103 + 1)) + 1))) rfl<|y5 (.int .i64 (w64 ((w64 ((w64 (k_103 + 1)) + 1)) + 1))) rfl (.of rfl trivial) rfl<|?_
    refine l9 (.int .i64 (w64 ((w64 ((w64 (k_103 + 1)) + 1)) + 1))) rfl<|dk<|o6<|?_;refine d0t (o:=0) (f:=3) (l':=x_130.Old.Cells) (enc':=(o7 3 l7)) (el:=(.agg [(.int .i64 k_103),(.int .i64 (w64 (k_103 + 1))),(.int .i64 (w64 ((w64 (k_103 + 1)) + 1))),(.lst 1 (x_130.Old.Cells.map (o7 3 l7))),(.int .i64 x_130.New.Id),(.lst 1 (x_130.New.Cells.map (o7 3 l7)))])) rfl (a2v (a2v (a2v ex131))) rfl rfl fun v_135 => ?_;refine a0y ?_
    obtain ⟨g136,hc1⟩:=og hc1
    obtain ⟨r_137,er138,hc1⟩:=ob hc1
    refine l9 (.own 0 0 a_105.length) rfl<|l9 (.int .i64 i_104) rfl<|a0a (a2g rfl rfl g136.1 g136.2 rfl rfl)<|y5 (.ptr 0 (0 + i_104.toNat) 2) rfl (.of trivial trivial) rfl<|y5 (.ptr 0 (0 + i_104.toNat) 3) rfl (.of trivial trivial) rfl<|a0a (b3w rfl rfl (c0w (a2v (a2v (a2v ex131)))) nle rfl)<|l9 (.int .i64 (w64 ((w64 ((w64 (k_103 + 1)) + 1)) + 1))) rfl<|a0a (b9m (o:=0) (l:=(((a_105.set (0 + i_104.toNat) (⟨k_103,x_130.Id,x_130.Old,x_130.New⟩:y9)).set (0 + i_104.toNat) (⟨k_103,w64 (k_103 + 1),x_130.Old,x_130.New⟩:y9)).set (0 + i_104.toNat) (⟨k_103,w64 (k_103 + 1),(⟨w64 ((w64 (k_103 + 1)) + 1),x_130.Old.Cells⟩:x8),x_130.New⟩:y9))) (enc:=o8) (enc':=(o7 3 l7)) (l'':=r_137.2) (y:=(⟨k_103,w64 (k_103 + 1),(⟨w64 ((w64 (k_103 + 1)) + 1),r_137.2⟩:x8),x_130.New⟩:y9)) (j:=3) (el:=(.agg [(.int .i64 k_103),(.int .i64 (w64 (k_103 + 1))),(.int .i64 (w64 ((w64 (k_103 + 1)) + 1))),(.hdr v_135 1 (x_130.Old.Cells.map (o7 3 l7))),(.int .i64 x_130.New.Id),(.lst 1 (x_130.New.Cells.map (o7 3 l7)))])) rfl rfl (b1f _ _ _ er138) rfl rfl (a2v (a2v (a2v ex131))) rfl (by decide) rfl)<|?_
    refine l9 (.int .i64 r_137.1) rfl<|dk<|sr<|?_
    obtain ⟨g139,hc1⟩:=og hc1
    refine l9 (.own 0 0 a_105.length) rfl<|l9 (.int .i64 i_104) rfl<|l9 (.int .i64 r_137.1) rfl<|a0a (a2g rfl rfl g139.1 g139.2 rfl rfl)<|y5 (.ptr 0 (0 + i_104.toNat) 4) rfl (.of trivial trivial) rfl<|y5 (.ptr 0 (0 + i_104.toNat) 4) rfl (.of trivial trivial) rfl<|?_;refine a1p (a4j (v':=(.int .i64 r_137.1)) (e':=(⟨k_103,w64 (k_103 + 1),(⟨w64 ((w64 (k_103 + 1)) + 1),r_137.2⟩:x8),(⟨r_137.1,x_130.New.Cells⟩:x8)⟩:y9)) rfl rfl (a2v (a2v (a2v (a2v ex131)))) rfl rfl rfl (by decide) (fun _ => by decide) ⟨rfl,nle⟩ (.refl _) rfl) ?_;refine dk<|sr<|l9 (.int .i64 r_137.1) rfl<|y5 (.int .i64 (w64 (r_137.1 + 1))) rfl (.of rfl trivial) rfl<|?_
    refine l9 (.int .i64 (w64 (r_137.1 + 1))) rfl<|dk<|?_;refine d0t (o:=0) (f:=5) (l':=x_130.New.Cells) (enc':=(o7 3 l7)) (el:=(.agg [(.int .i64 k_103),(.int .i64 (w64 (k_103 + 1))),(.int .i64 (w64 ((w64 (k_103 + 1)) + 1))),(.lst 1 (r_137.2.map (o7 3 l7))),(.int .i64 r_137.1),(.lst 1 (x_130.New.Cells.map (o7 3 l7)))])) rfl (a2v (a2v (a2v (a2v (a2v ex131))))) rfl rfl fun v_141 => ?_;refine a0y ?_
    obtain ⟨g142,hc1⟩:=og hc1
    obtain ⟨r_143,er144,hc1⟩:=ob hc1
    refine l9 (.own 0 0 a_105.length) rfl<|l9 (.int .i64 i_104) rfl<|a0a (a2g rfl rfl g142.1 g142.2 rfl rfl)<|y5 (.ptr 0 (0 + i_104.toNat) 4) rfl (.of trivial trivial) rfl<|y5 (.ptr 0 (0 + i_104.toNat) 5) rfl (.of trivial trivial) rfl<|a0a (b3w rfl rfl (c0w (a2v (a2v (a2v (a2v (a2v ex131)))))) nle rfl)<|l9 (.int .i64 (w64 (r_137.1 + 1))) rfl<|a0a (b9m (o:=0) (l:=(((((a_105.set (0 + i_104.toNat) (⟨k_103,x_130.Id,x_130.Old,x_130.New⟩:y9)).set (0 + i_104.toNat) (⟨k_103,w64 (k_103 + 1),x_130.Old,x_130.New⟩:y9)).set (0 + i_104.toNat) (⟨k_103,w64 (k_103 + 1),(⟨w64 ((w64 (k_103 + 1)) + 1),x_130.Old.Cells⟩:x8),x_130.New⟩:y9)).set (0 + i_104.toNat) (⟨k_103,w64 (k_103 + 1),(⟨w64 ((w64 (k_103 + 1)) + 1),r_137.2⟩:x8),x_130.New⟩:y9)).set (0 + i_104.toNat) (⟨k_103,w64 (k_103 + 1),(⟨w64 ((w64 (k_103 + 1)) + 1),r_137.2⟩:x8),(⟨r_137.1,x_130.New.Cells⟩:x8)⟩:y9))) (enc:=o8) (enc':=(o7 3 l7)) (l'':=r_143.2) (y:=(⟨k_103,w64 (k_103 + 1),(⟨w64 ((w64 (k_103 + 1)) + 1),r_137.2⟩:x8),(⟨r_137.1,r_143.2⟩:x8)⟩:y9)) (j:=5) (el:=(.agg [(.int .i64 k_103),(.int .i64 (w64 (k_103 + 1))),(.int .i64 (w64 ((w64 (k_103 + 1)) + 1))),(.lst 1 (r_137.2.map (o7 3 l7))),(.int .i64 r_137.1),(.hdr v_141 1 (x_130.New.Cells.map (o7 3 l7)))])) rfl rfl (b1f _ _ _ er144) rfl rfl (a2v (a2v (a2v (a2v (a2v ex131))))) rfl (by decide) rfl)<|?_
    refine l9 (.int .i64 r_143.1) rfl<|a0n<|a2r<|a0h<|a0y<|l9 (.int .i64 i_104) rfl<|y5 (.int .i64 (w64 (i_104 + 1))) rfl (.of rfl trivial) rfl<|l9 (.int .i64 (w64 (i_104 + 1))) rfl<|a0n<|?_;exact a1j ⟨(k,r_143.1,w64 (i_104 + 1),(((((a_105.set (0 + i_104.toNat) (⟨k_103,x_130.Id,x_130.Old,x_130.New⟩:y9)).set (0 + i_104.toNat) (⟨k_103,w64 (k_103 + 1),x_130.Old,x_130.New⟩:y9)).set (0 + i_104.toNat) (⟨k_103,w64 (k_103 + 1),(⟨w64 ((w64 (k_103 + 1)) + 1),x_130.Old.Cells⟩:x8),x_130.New⟩:y9)).set (0 + i_104.toNat) (⟨k_103,w64 (k_103 + 1),(⟨w64 ((w64 (k_103 + 1)) + 1),r_137.2⟩:x8),x_130.New⟩:y9)).set (0 + i_104.toNat) (⟨k_103,w64 (k_103 + 1),(⟨w64 ((w64 (k_103 + 1)) + 1),r_137.2⟩:x8),(⟨r_137.1,x_130.New.Cells⟩:x8)⟩:y9)).set (0 + i_104.toNat) (⟨k_103,w64 (k_103 + 1),(⟨w64 ((w64 (k_103 + 1)) + 1),r_137.2⟩:x8),(⟨r_137.1,r_143.2⟩:x8)⟩:y9)),hc1⟩ (Nat.lt_succ_self _) ⟨[],[0],_,_,rfl,rfl,⟨.of_eq (congrArg (AV.own _ 0) (by simp)),⟨.refl _,⟨.refl _,trivial⟩⟩⟩,(.refl _)⟩
   ·refine y7 rfl (bf c128)<|a2e<|a2d<|a1l<|a2c<|?_;obtain rfl:=os hc1;exact ⟨[],[0],_,_,rfl,rfl,⟨.refl _,trivial⟩,(.refl _)⟩
 ·obtain ⟨k_124,l_125⟩:=p126
  refine sr<|l9 (.int .i64 k_124) rfl<|l9 (.int .i64 k_124) rfl<|dk<|a0f<|?_;obtain rfl:=os hf;exact a2s [] [0] rfl ⟨.of trivial trivial,trivial⟩ rfl (.refl _) (.refl _)

/- laws.heldAtomS -/
def c84:a0r :=
 (.seq (.reg (tm 4 (.c (.int .i64 0)) .done))
 (.seq (.seq (.reg (tm 5 (.c (.int .i64 0)) .done))
 (.block 0 (.loop (.seq (.seq (.reg (tm 6 (.t 5) (tm 7 (.t 0) (tq 8 (.len (.t 7)) (tq 9 (.bin .lss (.t 6) (.t 8)) .done)))))
 (.cond (.t 9) .skip
 (.exit 0)))
 (.seq (.block 1 (.seq (.seq (.reg (tm 12 (.t 0) (tm 13 (.t 5) (tq 14 (.iaddr 3 (.t 12) (.t 13)) (tq 15 (.faddr 0 (.t 14)) (tq 16 (.load 1 false (.t 15)) (tm 17 (.t 1) (tq 18 (.bin .neq (.t 16) (.t 17)) .done))))))))
 (.cond (.t 18) (.seq (.reg (tq 4 (.mov (.c (.int .i64 (-1)))) .done))
 .ret)
 .skip))
 (.seq (.reg (tm 19 (.t 1) (tq 20 (.bin .add (.t 19) (.c (.int .i64 1))) (tm 1 (.t 20) .done))))
 (.seq (.seq (.reg (tm 21 (.t 0) (tm 22 (.t 5) (tq 23 (.iaddr 3 (.t 21) (.t 22)) (tq 24 (.faddr 1 (.t 23)) (tq 25 (.load 1 false (.t 24)) (tm 26 (.t 1) (tq 27 (.bin .neq (.t 25) (.t 26)) .done))))))))
 (.cond (.t 27) (.seq (.reg (tq 4 (.mov (.c (.int .i64 (-1)))) .done))
 .ret)
 .skip))
 (.seq (.reg (tm 28 (.t 1) (tq 29 (.bin .add (.t 28) (.c (.int .i64 1))) (tm 1 (.t 29) .done))))
 (.seq (.seq (.reg (tm 30 (.t 0) (tm 31 (.t 5) (tq 32 (.iaddr 3 (.t 30) (.t 31)) (tq 33 (.faddr 2 (.t 32)) (tq 34 (.load 1 false (.t 33)) (tm 35 (.t 1) (.l ⟨(some 36),none,.call 105 [(.t 35)]⟩ [⟨(some 34),none,.load 1 false (.t 33)⟩,⟨(some 33),none,.faddr 2 (.t 32)⟩,⟨(some 32),none,.iaddr 3 (.t 30) (.t 31)⟩]
 (tq 37 (.bin .neq (.t 34) (.t 36)) .done) .non))))))))
 (.cond (.t 37) (.seq (.reg (tq 4 (.mov (.c (.int .i64 (-1)))) .done))
 .ret)
 .skip))
 (.reg (tm 38 (.t 1) (tq 39 (.bin .add (.t 38) (.c (.int .i64 1))) (tm 1 (.t 39) .done))))))))))
 (.reg (tm 10 (.t 5) (tq 11 (.bin .add (.t 10) (.c (.int .i64 1))) (tm 5 (.t 11) .done)))))))))
 (.cut (.seq (.reg (tm 40 (.t 1) (tm 4 (.t 40) .done)))
 .ret))))
theorem e6v:a1g Try.prog Try.f84 = some (c84.erase,[.mov (.t 4)],41):=by kernel_rfl
def a3f :List a0c → Int → Option (Fl Int Int)
  | [],k_31 =>
    some (.go k_31)
  | x_55 :: xs,k_31 =>
    if (x_55.Kind != k_31) then
    some (.ret (-1))
    else
    if (x_55.N != w64 (k_31 + 1)) then
    some (.ret (-1))
    else
    (a5y (w64 ((w64 (k_31 + 1)) + 1))).bind fun r_60 =>
    if (!(x_55.T == r_60)) then
    some (.ret (-1))
    else
    a3f xs (w64 ((w64 ((w64 (k_31 + 1)) + 1)) + 1)) 

def a8o (a_1:(List a0c)) (k_2:Int):Option Int :=
    (a3f a_1 k_2).bind fun q => (match q with
    | .ret r => some r
    | .go k_47 =>
    some k_47)
theorem c1i (a_1:(List a0c)) (k_2:Int) (r:Int) (hf:a8o a_1 k_2 = some r):a0b Try.prog 84 .flat [(.lst 3 (a_1.map l7)),(.int .i64 k_2)] (.int .i64 r):=by
 refine a0b.of_awp mixed Try.func84 e6v nle ?_;rw [a0q];unfold a8o at hf;unfold c84;refine (show awp Try.prog false 0 _ (ofL [(0,(.lst 3 (a_1.map l7))),(1,(.int .i64 k_2))]) [] _ from ?_);refine sr<|l9 (.int .i64 0) rfl<|dk<|o6<|sr<|l9 (.int .i64 0) rfl<|dk<|?_
 obtain ⟨p48,hb1,hf⟩:=ob hf
 refine a2q (X:={q:Int // p48 = .go q}) (fun q => ([(1,(.int .i64 q.1))],[])) ?_ ?_
 ·refine a1d (X:={q:(Int × Nat) // a3f (a_1.drop q.2) q.1 = some p48}) (fun q => ([(0,(.lst 3 (a_1.map l7))),(1,(.int .i64 q.1.1)),(5,(.int .i64 (q.1.2:Int)))],[])) (fun q => a_1.length - q.1.2) ⟨(k_2,0),hb1⟩ ⟨[],[],_,_,rfl,rfl,⟨.refl _,⟨.refl _,⟨.refl _,trivial⟩⟩⟩,(.refl _)⟩ ?_
  rintro ⟨⟨k_31,i_32⟩,hc1⟩
  have hc1:a3f (a_1.drop i_32) k_31 = some p48:=hc1
  refine (show awp Try.prog false 0 _ (ofL [(0,(.lst 3 (a_1.map l7))),(1,(.int .i64 k_31)),(5,(.int .i64 (i_32:Int)))]) [] _ from ?_)
  rcases a4u a_1 i_32 with ⟨hie51,hd54⟩ | ⟨hlt49,x_55,hx50,hd54⟩
  ·rw [hd54,a3f.eq_1] at hc1
   have hq53:=dlf hie51
   refine o6<|sr<|l9 (.int .i64 (i_32:Int)) rfl<|l9 (.lst 3 (a_1.map l7)) rfl<|a0w (a1b (enc:=l7) rfl) fun hl56 => y5 (.bool (decide ((i_32:Int) < (a_1.length:Int)))) rfl rfl rfl<|dk<|y7 rfl hq53<|a2e<|a2d<|a1l<|a2c<|?_;obtain rfl:=os hc1;exact a5g ⟨_,rfl⟩ ⟨[],[],_,_,rfl,rfl,⟨.refl _,trivial⟩,(.refl _)⟩
  ·rw [hd54,a3f.eq_2] at hc1
   have hq53:=dlt hlt49
   refine o6<|sr<|l9 (.int .i64 (i_32:Int)) rfl<|l9 (.lst 3 (a_1.map l7)) rfl<|a0w (a1b (enc:=l7) rfl) fun hl57 => y5 (.bool (decide ((i_32:Int) < (a_1.length:Int)))) rfl rfl rfl<|dk<|y8 rfl hq53<|a0e<|a0h<|o6<|a2u<|o6<|sr<|l9 (.lst 3 (a_1.map l7)) rfl<|l9 (.int .i64 (i_32:Int)) rfl<|a0a (a1h (enc:=l7) rfl rfl hx50)<|y5 (.iptr (l7 x_55) 0) rfl trivial rfl<|y5 (.int .i64 x_55.Kind) rfl nle rfl<|l9 (.int .i64 k_31) rfl<|y5 (.bool (x_55.Kind != k_31)) rfl rfl rfl<|dk<|?_
   rcases oi hc1 with ⟨c58,hc1⟩ | ⟨c58,hc1⟩
   ·refine y8 rfl c58<|sr<|l9 (.int .i64 (-1)) rfl<|dk<|a0f<|?_;obtain rfl:=os hc1;obtain rfl:=os hf;exact a0k ⟨trivial,trivial⟩ rfl (.refl _)
   ·refine y7 rfl (bf c58)<|a0e<|a0h<|sr<|l9 (.int .i64 k_31) rfl<|y5 (.int .i64 (w64 (k_31 + 1))) rfl rfl rfl<|l9 (.int .i64 (w64 (k_31 + 1))) rfl<|dk<|o6<|sr<|l9 (.lst 3 (a_1.map l7)) rfl<|l9 (.int .i64 (i_32:Int)) rfl<|a0a (a1h (enc:=l7) rfl rfl hx50)<|y5 (.iptr (l7 x_55) 1) rfl trivial rfl<|y5 (.int .i64 x_55.N) rfl nle rfl<|l9 (.int .i64 (w64 (k_31 + 1))) rfl<|y5 (.bool (x_55.N != w64 (k_31 + 1))) rfl rfl rfl<|dk<|?_
    rcases oi hc1 with ⟨c59,hc1⟩ | ⟨c59,hc1⟩
    ·refine y8 rfl c59<|sr<|l9 (.int .i64 (-1)) rfl<|dk<|a0f<|?_;obtain rfl:=os hc1;obtain rfl:=os hf;exact a0k ⟨trivial,trivial⟩ rfl (.refl _)
    ·refine y7 rfl (bf c59)<|a0e<|a0h<|sr<|l9 (.int .i64 (w64 (k_31 + 1))) rfl<|y5 (.int .i64 (w64 ((w64 (k_31 + 1)) + 1))) rfl rfl rfl<|l9 (.int .i64 (w64 ((w64 (k_31 + 1)) + 1))) rfl<|dk<|o6<|sr<|?_
     obtain ⟨r_60,er61,hc1⟩:=ob hc1
     refine l9 (.lst 3 (a_1.map l7)) rfl<|l9 (.int .i64 (i_32:Int)) rfl<|a0a (a1h (enc:=l7) rfl rfl hx50)<|y5 (.iptr (l7 x_55) 2) rfl trivial rfl<|y5 (.str x_55.T) rfl nle rfl<|l9 (.int .i64 (w64 ((w64 (k_31 + 1)) + 1))) rfl<|a5c (a1o (b5d _ _ er61) rfl (.refl _) rfl) a6y trivial<|y5 (.bool (!(x_55.T == r_60))) rfl trivial rfl<|dk<|?_
     rcases oi hc1 with ⟨c62,hc1⟩ | ⟨c62,hc1⟩
     ·refine y8 rfl c62<|sr<|l9 (.int .i64 (-1)) rfl<|dk<|a0f<|?_;obtain rfl:=os hc1;obtain rfl:=os hf;exact a0k ⟨trivial,trivial⟩ rfl (.refl _)
     ·refine y7 rfl (bf c62)<|a0e<|a0h<|a0y<|l9 (.int .i64 (w64 ((w64 (k_31 + 1)) + 1))) rfl<|y5 (.int .i64 (w64 ((w64 ((w64 (k_31 + 1)) + 1)) + 1))) rfl rfl rfl<|l9 (.int .i64 (w64 ((w64 ((w64 (k_31 + 1)) + 1)) + 1))) rfl<|a0n<|a2r<|a0h<|a0y<|l9 (.int .i64 (i_32:Int)) rfl<|y5 (.int .i64 (w64 ((i_32:Int) + 1))) rfl rfl rfl<|l9 (.int .i64 (w64 ((i_32:Int) + 1))) rfl<|a0n<|?_;exact a1j ⟨(w64 ((w64 ((w64 (k_31 + 1)) + 1)) + 1),(i_32 + 1)),hc1⟩ (mul hlt49) ⟨[],[],_,_,rfl,rfl,⟨.refl _,⟨.refl _,⟨.of_eq (congrArg (AV.int _) (a1k hlt49 hl57)),trivial⟩⟩⟩,(.refl _)⟩
 ·rintro ⟨k_47,rfl⟩
  refine sr<|l9 (.int .i64 k_47) rfl<|l9 (.int .i64 k_47) rfl<|dk<|a0f<|?_;obtain rfl:=os hf;exact a0k ⟨trivial,trivial⟩ rfl (.refl _)

/- laws.heldAtomSS -/
def c54:a0r :=
 (.seq (.reg (tm 4 (.c (.int .i64 0)) .done))
 (.seq (.seq (.reg (tm 5 (.c (.int .i64 0)) .done))
 (.block 0 (.loop (.seq (.seq (.reg (tm 6 (.t 5) (tm 7 (.t 0) (tq 8 (.len (.t 7)) (tq 9 (.bin .lss (.t 6) (.t 8)) .done)))))
 (.cond (.t 9) .skip
 (.exit 0)))
 (.seq (.block 1 (.seq (.reg (tm 12 (.t 0) (tm 13 (.t 5) (tq 14 (.iaddr 1 (.t 12) (.t 13)) (tq 15 (.load 1 false (.t 14)) (tm 16 (.t 1) (tq 17 (.call 84 [(.t 15),(.t 16)]) (tm 1 (.t 17) .done))))))))
 (.seq (.reg (tm 18 (.t 1) (tq 19 (.bin .lss (.t 18) (.c (.int .i64 0))) .done)))
 (.cond (.t 19) (.seq (.reg (tq 4 (.mov (.c (.int .i64 (-1)))) .done))
 .ret)
 .skip))))
 (.reg (tm 10 (.t 5) (tq 11 (.bin .add (.t 10) (.c (.int .i64 1))) (tm 5 (.t 11) .done)))))))))
 (.cut (.seq (.reg (tm 20 (.t 1) (tm 4 (.t 20) .done)))
 .ret))))
theorem e6w:a1g Try.prog Try.f54 = some (c54.erase,[.mov (.t 4)],21):=by kernel_rfl
def a2p :List (List a0c) → Int → Option (Fl Int Int)
  | [],k_19 =>
    some (.go k_19)
  | x_37 :: xs,k_19 =>
    (a8o x_37 k_19).bind fun r_40 =>
    if (decide (r_40 < 0)) then
    some (.ret (-1))
    else
    a2p xs r_40 

def a7r (a_1:(List (List a0c))) (k_2:Int):Option Int :=
    (a2p a_1 k_2).bind fun q => (match q with
    | .ret r => some r
    | .go k_29 =>
    some k_29)
theorem b9t (a_1:(List (List a0c))) (k_2:Int) (r:Int) (hf:a7r a_1 k_2 = some r):a0b Try.prog 54 .flat [(.lst 1 (a_1.map (o7 3 l7))),(.int .i64 k_2)] (.int .i64 r):=by
 refine a0b.of_awp mixed Try.func54 e6w nle ?_;rw [a0q];unfold a7r at hf;unfold c54;refine (show awp Try.prog false 0 _ (ofL [(0,(.lst 1 (a_1.map (o7 3 l7)))),(1,(.int .i64 k_2))]) [] _ from ?_);refine sr<|l9 (.int .i64 0) rfl<|dk<|o6<|sr<|l9 (.int .i64 0) rfl<|dk<|?_
 obtain ⟨p30,hb1,hf⟩:=ob hf
 refine a2q (X:={q:Int // p30 = .go q}) (fun q => ([(1,(.int .i64 q.1))],[])) ?_ ?_
 ·refine a1d (X:={q:(Int × Nat) // a2p (a_1.drop q.2) q.1 = some p30}) (fun q => ([(0,(.lst 1 (a_1.map (o7 3 l7)))),(1,(.int .i64 q.1.1)),(5,(.int .i64 (q.1.2:Int)))],[])) (fun q => a_1.length - q.1.2) ⟨(k_2,0),hb1⟩ ⟨[],[],_,_,rfl,rfl,⟨.refl _,⟨.refl _,⟨.refl _,trivial⟩⟩⟩,(.refl _)⟩ ?_
  rintro ⟨⟨k_19,i_20⟩,hc1⟩
  have hc1:a2p (a_1.drop i_20) k_19 = some p30:=hc1
  refine (show awp Try.prog false 0 _ (ofL [(0,(.lst 1 (a_1.map (o7 3 l7)))),(1,(.int .i64 k_19)),(5,(.int .i64 (i_20:Int)))]) [] _ from ?_)
  rcases a4u a_1 i_20 with ⟨hie33,hd36⟩ | ⟨hlt31,x_37,hx32,hd36⟩
  ·rw [hd36,a2p.eq_1] at hc1
   have hq35:=dlf hie33
   refine o6<|sr<|l9 (.int .i64 (i_20:Int)) rfl<|l9 (.lst 1 (a_1.map (o7 3 l7))) rfl<|a0w (a1b (enc:=(o7 3 l7)) rfl) fun hl38 => y5 (.bool (decide ((i_20:Int) < (a_1.length:Int)))) rfl rfl rfl<|dk<|y7 rfl hq35<|a2e<|a2d<|a1l<|a2c<|?_;obtain rfl:=os hc1;exact a5g ⟨_,rfl⟩ ⟨[],[],_,_,rfl,rfl,⟨.refl _,trivial⟩,(.refl _)⟩
  ·rw [hd36,a2p.eq_2] at hc1
   have hq35:=dlt hlt31
   refine o6<|sr<|l9 (.int .i64 (i_20:Int)) rfl<|l9 (.lst 1 (a_1.map (o7 3 l7))) rfl<|a0w (a1b (enc:=(o7 3 l7)) rfl) fun hl39 => y5 (.bool (decide ((i_20:Int) < (a_1.length:Int)))) rfl rfl rfl<|dk<|y8 rfl hq35<|a0e<|a0h<|o6<|a2u<|sr<|?_
   obtain ⟨r_40,er41,hc1⟩:=ob hc1
   refine l9 (.lst 1 (a_1.map (o7 3 l7))) rfl<|l9 (.int .i64 (i_20:Int)) rfl<|a0a (a1h (enc:=(o7 3 l7)) rfl rfl hx32)<|y5 (.lst 3 (x_37.map l7)) rfl ⟨rfl,rfl⟩ rfl<|l9 (.int .i64 k_19) rfl<|a0a (a1o (c1i _ _ _ er41) rfl (.refl _) rfl)<|l9 (.int .i64 r_40) rfl<|dk<|sr<|l9 (.int .i64 r_40) rfl<|y5 (.bool (decide (r_40 < 0))) rfl rfl rfl<|dk<|?_
   rcases oi hc1 with ⟨c42,hc1⟩ | ⟨c42,hc1⟩
   ·refine y8 rfl c42<|sr<|l9 (.int .i64 (-1)) rfl<|dk<|a0f<|?_;obtain rfl:=os hc1;obtain rfl:=os hf;exact a0k ⟨trivial,trivial⟩ rfl (.refl _)
   ·refine y7 rfl (bf c42)<|a0e<|a2r<|a0h<|a0y<|l9 (.int .i64 (i_20:Int)) rfl<|y5 (.int .i64 (w64 ((i_20:Int) + 1))) rfl rfl rfl<|l9 (.int .i64 (w64 ((i_20:Int) + 1))) rfl<|a0n<|?_;exact a1j ⟨(r_40,(i_20 + 1)),hc1⟩ (mul hlt31) ⟨[],[],_,_,rfl,rfl,⟨.refl _,⟨.refl _,⟨.of_eq (congrArg (AV.int _) (a1k hlt31 hl39)),trivial⟩⟩⟩,(.refl _)⟩
 ·rintro ⟨k_29,rfl⟩
  refine sr<|l9 (.int .i64 k_29) rfl<|l9 (.int .i64 k_29) rfl<|dk<|a0f<|?_;obtain rfl:=os hf;exact a0k ⟨trivial,trivial⟩ rfl (.refl _)

/- laws.heldRowS -/
def c17:a0r :=
 (.seq (.reg (tm 4 (.c (.int .i64 0)) .done))
 (.seq (.seq (.reg (tm 5 (.c (.int .i64 0)) .done))
 (.block 0 (.loop (.seq (.seq (.reg (tm 6 (.t 5) (tm 7 (.t 0) (tq 8 (.len (.t 7)) (tq 9 (.bin .lss (.t 6) (.t 8)) .done)))))
 (.cond (.t 9) .skip
 (.exit 0)))
 (.seq (.block 1 (.seq (.seq (.reg (tm 12 (.t 0) (tm 13 (.t 5) (tq 14 (.iaddr 2 (.t 12) (.t 13)) (tq 15 (.faddr 0 (.t 14)) (tq 16 (.load 1 false (.t 15)) (tm 17 (.t 1) (tq 18 (.bin .neq (.t 16) (.t 17)) .done))))))))
 (.cond (.t 18) (.seq (.reg (tq 4 (.mov (.c (.int .i64 (-1)))) .done))
 .ret)
 .skip))
 (.seq (.reg (tm 19 (.t 1) (tq 20 (.bin .add (.t 19) (.c (.int .i64 1))) (tm 1 (.t 20) .done))))
 (.seq (.reg (tm 21 (.t 0) (tm 22 (.t 5) (tq 23 (.iaddr 2 (.t 21) (.t 22)) (tq 24 (.faddr 1 (.t 23)) (tq 25 (.load 1 false (.t 24)) (tm 26 (.t 1) (tq 27 (.call 54 [(.t 25),(.t 26)]) (tm 1 (.t 27) .done)))))))))
 (.seq (.reg (tm 28 (.t 1) (tq 29 (.bin .lss (.t 28) (.c (.int .i64 0))) .done)))
 (.cond (.t 29) (.seq (.reg (tq 4 (.mov (.c (.int .i64 (-1)))) .done))
 .ret)
 .skip))))))
 (.reg (tm 10 (.t 5) (tq 11 (.bin .add (.t 10) (.c (.int .i64 1))) (tm 5 (.t 11) .done)))))))))
 (.cut (.seq (.reg (tm 30 (.t 1) (tm 4 (.t 30) .done)))
 .ret))))
theorem e6x:a1g Try.prog Try.f17 = some (c17.erase,[.mov (.t 4)],31):=by kernel_rfl
def a3v :List x8 → Int → Option (Fl Int Int)
  | [],k_25 =>
    some (.go k_25)
  | x_46 :: xs,k_25 =>
    if (x_46.Id != k_25) then
    some (.ret (-1))
    else
    (a7r x_46.Cells (w64 (k_25 + 1))).bind fun r_50 =>
    if (decide (r_50 < 0)) then
    some (.ret (-1))
    else
    a3v xs r_50 

def a9z (a_1:(List x8)) (k_2:Int):Option Int :=
    (a3v a_1 k_2).bind fun q => (match q with
    | .ret r => some r
    | .go k_38 =>
    some k_38)
theorem c3a (a_1:(List x8)) (k_2:Int) (r:Int) (hf:a9z a_1 k_2 = some r):a0b Try.prog 17 .flat [(.lst 2 (a_1.map o5)),(.int .i64 k_2)] (.int .i64 r):=by
 refine a0b.of_awp mixed Try.func17 e6x nle ?_;rw [a0q];unfold a9z at hf;unfold c17;refine (show awp Try.prog false 0 _ (ofL [(0,(.lst 2 (a_1.map o5))),(1,(.int .i64 k_2))]) [] _ from ?_);refine sr<|l9 (.int .i64 0) rfl<|dk<|o6<|sr<|l9 (.int .i64 0) rfl<|dk<|?_
 obtain ⟨p39,hb1,hf⟩:=ob hf
 refine a2q (X:={q:Int // p39 = .go q}) (fun q => ([(1,(.int .i64 q.1))],[])) ?_ ?_
 ·refine a1d (X:={q:(Int × Nat) // a3v (a_1.drop q.2) q.1 = some p39}) (fun q => ([(0,(.lst 2 (a_1.map o5))),(1,(.int .i64 q.1.1)),(5,(.int .i64 (q.1.2:Int)))],[])) (fun q => a_1.length - q.1.2) ⟨(k_2,0),hb1⟩ ⟨[],[],_,_,rfl,rfl,⟨.refl _,⟨.refl _,⟨.refl _,trivial⟩⟩⟩,(.refl _)⟩ ?_
  rintro ⟨⟨k_25,i_26⟩,hc1⟩
  have hc1:a3v (a_1.drop i_26) k_25 = some p39:=hc1
  refine (show awp Try.prog false 0 _ (ofL [(0,(.lst 2 (a_1.map o5))),(1,(.int .i64 k_25)),(5,(.int .i64 (i_26:Int)))]) [] _ from ?_)
  rcases a4u a_1 i_26 with ⟨hie42,hd45⟩ | ⟨hlt40,x_46,hx41,hd45⟩
  ·rw [hd45,a3v.eq_1] at hc1
   have hq44:=dlf hie42
   refine o6<|sr<|l9 (.int .i64 (i_26:Int)) rfl<|l9 (.lst 2 (a_1.map o5)) rfl<|a0w (a1b (enc:=o5) rfl) fun hl47 => y5 (.bool (decide ((i_26:Int) < (a_1.length:Int)))) rfl rfl rfl<|dk<|y7 rfl hq44<|a2e<|a2d<|a1l<|a2c<|?_;obtain rfl:=os hc1;exact a5g ⟨_,rfl⟩ ⟨[],[],_,_,rfl,rfl,⟨.refl _,trivial⟩,(.refl _)⟩
  ·rw [hd45,a3v.eq_2] at hc1
   have hq44:=dlt hlt40
   refine o6<|sr<|l9 (.int .i64 (i_26:Int)) rfl<|l9 (.lst 2 (a_1.map o5)) rfl<|a0w (a1b (enc:=o5) rfl) fun hl48 => y5 (.bool (decide ((i_26:Int) < (a_1.length:Int)))) rfl rfl rfl<|dk<|y8 rfl hq44<|a0e<|a0h<|o6<|a2u<|o6<|sr<|l9 (.lst 2 (a_1.map o5)) rfl<|l9 (.int .i64 (i_26:Int)) rfl<|a0a (a1h (enc:=o5) rfl rfl hx41)<|y5 (.iptr (o5 x_46) 0) rfl trivial rfl<|y5 (.int .i64 x_46.Id) rfl nle rfl<|l9 (.int .i64 k_25) rfl<|y5 (.bool (x_46.Id != k_25)) rfl rfl rfl<|dk<|?_
   rcases oi hc1 with ⟨c49,hc1⟩ | ⟨c49,hc1⟩
   ·refine y8 rfl c49<|sr<|l9 (.int .i64 (-1)) rfl<|dk<|a0f<|?_;obtain rfl:=os hc1;obtain rfl:=os hf;exact a0k ⟨trivial,trivial⟩ rfl (.refl _)
   ·refine y7 rfl (bf c49)<|a0e<|a0h<|sr<|l9 (.int .i64 k_25) rfl<|y5 (.int .i64 (w64 (k_25 + 1))) rfl rfl rfl<|l9 (.int .i64 (w64 (k_25 + 1))) rfl<|dk<|sr<|?_
    obtain ⟨r_50,er51,hc1⟩:=ob hc1
    refine l9 (.lst 2 (a_1.map o5)) rfl<|l9 (.int .i64 (i_26:Int)) rfl<|a0a (a1h (enc:=o5) rfl rfl hx41)<|y5 (.iptr (o5 x_46) 1) rfl trivial rfl<|y5 (.lst 1 (x_46.Cells.map (o7 3 l7))) rfl nle rfl<|l9 (.int .i64 (w64 (k_25 + 1))) rfl<|a0a (a1o (b9t _ _ _ er51) rfl (.refl _) rfl)<|l9 (.int .i64 r_50) rfl<|dk<|sr<|l9 (.int .i64 r_50) rfl<|y5 (.bool (decide (r_50 < 0))) rfl rfl rfl<|dk<|?_
    rcases oi hc1 with ⟨c52,hc1⟩ | ⟨c52,hc1⟩
    ·refine y8 rfl c52<|sr<|l9 (.int .i64 (-1)) rfl<|dk<|a0f<|?_;obtain rfl:=os hc1;obtain rfl:=os hf;exact a0k ⟨trivial,trivial⟩ rfl (.refl _)
    ·refine y7 rfl (bf c52)<|a0e<|a2r<|a0h<|a0y<|l9 (.int .i64 (i_26:Int)) rfl<|y5 (.int .i64 (w64 ((i_26:Int) + 1))) rfl rfl rfl<|l9 (.int .i64 (w64 ((i_26:Int) + 1))) rfl<|a0n<|?_;exact a1j ⟨(r_50,(i_26 + 1)),hc1⟩ (mul hlt40) ⟨[],[],_,_,rfl,rfl,⟨.refl _,⟨.refl _,⟨.of_eq (congrArg (AV.int _) (a1k hlt40 hl48)),trivial⟩⟩⟩,(.refl _)⟩
 ·rintro ⟨k_38,rfl⟩
  refine sr<|l9 (.int .i64 k_38) rfl<|l9 (.int .i64 k_38) rfl<|dk<|a0f<|?_;obtain rfl:=os hf;exact a0k ⟨trivial,trivial⟩ rfl (.refl _)

/- laws.heldRowSS -/
def c66:a0r :=
 (.seq (.reg (tm 4 (.c (.int .i64 0)) .done))
 (.seq (.seq (.reg (tm 5 (.c (.int .i64 0)) .done))
 (.block 0 (.loop (.seq (.seq (.reg (tm 6 (.t 5) (tm 7 (.t 0) (tq 8 (.len (.t 7)) (tq 9 (.bin .lss (.t 6) (.t 8)) .done)))))
 (.cond (.t 9) .skip
 (.exit 0)))
 (.seq (.block 1 (.seq (.reg (tm 12 (.t 0) (tm 13 (.t 5) (tq 14 (.iaddr 1 (.t 12) (.t 13)) (tq 15 (.load 1 false (.t 14)) (tm 16 (.t 1) (tq 17 (.call 17 [(.t 15),(.t 16)]) (tm 1 (.t 17) .done))))))))
 (.seq (.reg (tm 18 (.t 1) (tq 19 (.bin .lss (.t 18) (.c (.int .i64 0))) .done)))
 (.cond (.t 19) (.seq (.reg (tq 4 (.mov (.c (.int .i64 (-1)))) .done))
 .ret)
 .skip))))
 (.reg (tm 10 (.t 5) (tq 11 (.bin .add (.t 10) (.c (.int .i64 1))) (tm 5 (.t 11) .done)))))))))
 (.cut (.seq (.reg (tm 20 (.t 1) (tm 4 (.t 20) .done)))
 .ret))))
theorem e6y:a1g Try.prog Try.f66 = some (c66.erase,[.mov (.t 4)],21):=by kernel_rfl
def a3g :List (List x8) → Int → Option (Fl Int Int)
  | [],k_19 =>
    some (.go k_19)
  | x_37 :: xs,k_19 =>
    (a9z x_37 k_19).bind fun r_40 =>
    if (decide (r_40 < 0)) then
    some (.ret (-1))
    else
    a3g xs r_40 

def a8p (a_1:(List (List x8))) (k_2:Int):Option Int :=
    (a3g a_1 k_2).bind fun q => (match q with
    | .ret r => some r
    | .go k_29 =>
    some k_29)
theorem c1j (a_1:(List (List x8))) (k_2:Int) (r:Int) (hf:a8p a_1 k_2 = some r):a0b Try.prog 66 .flat [(.lst 1 (a_1.map (o7 2 o5))),(.int .i64 k_2)] (.int .i64 r):=by
 refine a0b.of_awp mixed Try.func66 e6y nle ?_;rw [a0q];unfold a8p at hf;unfold c66;refine (show awp Try.prog false 0 _ (ofL [(0,(.lst 1 (a_1.map (o7 2 o5)))),(1,(.int .i64 k_2))]) [] _ from ?_);refine sr<|l9 (.int .i64 0) rfl<|dk<|o6<|sr<|l9 (.int .i64 0) rfl<|dk<|?_
 obtain ⟨p30,hb1,hf⟩:=ob hf
 refine a2q (X:={q:Int // p30 = .go q}) (fun q => ([(1,(.int .i64 q.1))],[])) ?_ ?_
 ·refine a1d (X:={q:(Int × Nat) // a3g (a_1.drop q.2) q.1 = some p30}) (fun q => ([(0,(.lst 1 (a_1.map (o7 2 o5)))),(1,(.int .i64 q.1.1)),(5,(.int .i64 (q.1.2:Int)))],[])) (fun q => a_1.length - q.1.2) ⟨(k_2,0),hb1⟩ ⟨[],[],_,_,rfl,rfl,⟨.refl _,⟨.refl _,⟨.refl _,trivial⟩⟩⟩,(.refl _)⟩ ?_
  rintro ⟨⟨k_19,i_20⟩,hc1⟩
  have hc1:a3g (a_1.drop i_20) k_19 = some p30:=hc1
  refine (show awp Try.prog false 0 _ (ofL [(0,(.lst 1 (a_1.map (o7 2 o5)))),(1,(.int .i64 k_19)),(5,(.int .i64 (i_20:Int)))]) [] _ from ?_)
  rcases a4u a_1 i_20 with ⟨hie33,hd36⟩ | ⟨hlt31,x_37,hx32,hd36⟩
  ·rw [hd36,a3g.eq_1] at hc1
   have hq35:=dlf hie33
   refine o6<|sr<|l9 (.int .i64 (i_20:Int)) rfl<|l9 (.lst 1 (a_1.map (o7 2 o5))) rfl<|a0w (a1b (enc:=(o7 2 o5)) rfl) fun hl38 => y5 (.bool (decide ((i_20:Int) < (a_1.length:Int)))) rfl rfl rfl<|dk<|y7 rfl hq35<|a2e<|a2d<|a1l<|a2c<|?_;obtain rfl:=os hc1;exact a5g ⟨_,rfl⟩ ⟨[],[],_,_,rfl,rfl,⟨.refl _,trivial⟩,(.refl _)⟩
  ·rw [hd36,a3g.eq_2] at hc1
   have hq35:=dlt hlt31
   refine o6<|sr<|l9 (.int .i64 (i_20:Int)) rfl<|l9 (.lst 1 (a_1.map (o7 2 o5))) rfl<|a0w (a1b (enc:=(o7 2 o5)) rfl) fun hl39 => y5 (.bool (decide ((i_20:Int) < (a_1.length:Int)))) rfl rfl rfl<|dk<|y8 rfl hq35<|a0e<|a0h<|o6<|a2u<|sr<|?_
   obtain ⟨r_40,er41,hc1⟩:=ob hc1
   refine l9 (.lst 1 (a_1.map (o7 2 o5))) rfl<|l9 (.int .i64 (i_20:Int)) rfl<|a0a (a1h (enc:=(o7 2 o5)) rfl rfl hx32)<|y5 (.lst 2 (x_37.map o5)) rfl ⟨rfl,rfl⟩ rfl<|l9 (.int .i64 k_19) rfl<|a0a (a1o (c3a _ _ _ er41) rfl (.refl _) rfl)<|l9 (.int .i64 r_40) rfl<|dk<|sr<|l9 (.int .i64 r_40) rfl<|y5 (.bool (decide (r_40 < 0))) rfl rfl rfl<|dk<|?_
   rcases oi hc1 with ⟨c42,hc1⟩ | ⟨c42,hc1⟩
   ·refine y8 rfl c42<|sr<|l9 (.int .i64 (-1)) rfl<|dk<|a0f<|?_;obtain rfl:=os hc1;obtain rfl:=os hf;exact a0k ⟨trivial,trivial⟩ rfl (.refl _)
   ·refine y7 rfl (bf c42)<|a0e<|a2r<|a0h<|a0y<|l9 (.int .i64 (i_20:Int)) rfl<|y5 (.int .i64 (w64 ((i_20:Int) + 1))) rfl rfl rfl<|l9 (.int .i64 (w64 ((i_20:Int) + 1))) rfl<|a0n<|?_;exact a1j ⟨(r_40,(i_20 + 1)),hc1⟩ (mul hlt31) ⟨[],[],_,_,rfl,rfl,⟨.refl _,⟨.refl _,⟨.of_eq (congrArg (AV.int _) (a1k hlt31 hl39)),trivial⟩⟩⟩,(.refl _)⟩
 ·rintro ⟨k_29,rfl⟩
  refine sr<|l9 (.int .i64 k_29) rfl<|l9 (.int .i64 k_29) rfl<|dk<|a0f<|?_;obtain rfl:=os hf;exact a0k ⟨trivial,trivial⟩ rfl (.refl _)

/- laws.heldStore -/
def c28:a0r :=
 (.seq (.reg (tq 2 (.box 2 (.t 0)) (tm 4 (.c (.int .i64 0)) .done)))
 (.seq (.reg (tq 5 (.faddr 0 (.t 2)) (tq 6 (.load 1 false (.t 5)) (tm 7 (.t 1) (tq 8 (.call 66 [(.t 6),(.t 7)]) (tm 1 (.t 8) .done))))))
 (.seq (.seq (.reg (tm 9 (.t 1) (tq 10 (.bin .lss (.t 9) (.c (.int .i64 0))) .done)))
 (.cond (.t 10) (.seq (.reg (tq 4 (.mov (.c (.int .i64 (-1)))) .done))
 .ret)
 .skip))
 (.seq (.reg (tm 11 (.t 1) (tm 4 (.t 11) .done)))
 .ret))))
theorem e6z:a1g Try.prog Try.f28 = some (c28.erase,[.mov (.t 4)],12):=by kernel_rfl
def a7g (a_1:a0l) (k_2:Int):Option Int :=
    (a8p a_1.Tables k_2).bind fun r_3 =>
    if (decide (r_3 < 0)) then
    some (-1)
    else
    some r_3
theorem b3z (a_1:a0l) (k_2:Int) (r:Int) (hf:a7g a_1 k_2 = some r):a0b Try.prog 28 .flat [(a0z a_1),(.int .i64 k_2)] (.int .i64 r):=by
 refine a0b.of_awp mixed Try.func28 e6z nle ?_;rw [a0q];unfold a7g at hf;unfold c28;refine (show awp Try.prog false 0 _ (ofL [(0,(a0z a_1)),(1,(.int .i64 k_2))]) [] _ from ?_);refine sr<|a0a (a1m (j:=0) (c:=(.agg [(.lst 1 (a_1.Tables.map (o7 2 o5))),(.int .i64 a_1.Next)])) rfl trivial rfl rfl)<|l9 (.int .i64 0) rfl<|dk<|sr<|?_
 obtain ⟨r_3,er4,hf⟩:=ob hf
 refine y5 (.ptr 0 0 0) rfl trivial rfl<|y5 (.lst 1 (a_1.Tables.map (o7 2 o5))) rfl nle rfl<|l9 (.int .i64 k_2) rfl<|a0a (a1o (c1j _ _ _ er4) rfl (.refl _) rfl)<|l9 (.int .i64 r_3) rfl<|dk<|o6<|sr<|l9 (.int .i64 r_3) rfl<|y5 (.bool (decide (r_3 < 0))) rfl rfl rfl<|dk<|?_
 rcases oi hf with ⟨c5,hf⟩ | ⟨c5,hf⟩
 ·refine y8 rfl c5<|sr<|l9 (.int .i64 (-1)) rfl<|dk<|a0f<|?_;obtain rfl:=os hf;exact a0k ⟨trivial,trivial⟩ rfl (.refl _)
 ·refine y7 rfl (bf c5)<|a0e<|a0h<|sr<|l9 (.int .i64 r_3) rfl<|l9 (.int .i64 r_3) rfl<|dk<|a0f<|?_;obtain rfl:=os hf;exact a0k ⟨trivial,trivial⟩ rfl (.refl _)

end Go.R
