/- Walks. -/
import Derived.Test.YthneidgpgfgecaaUN3
set_option linter.all false
namespace Go.R
open Go Go.Proofs
set_option linter.unusedVariables false
set_option linter.unusedSimpArgs false
set_option maxHeartbeats 8000000
/- laws.FnExactUndoChanges -/
def c5:a0r :=
 (.seq (.reg (tq 2 (.box 2 (.t 0)) (tm 4 (.c (.bool false)) .done)))
 (.seq (.reg (tm 5 (.c (.int .i64 1048576)) .done))
 (.seq (.reg (tq 17 (.load 2 true (.t 2)) (tm 18 (.t 5) (tq 19 (.call 18 [(.t 17),(.t 18)]) (tm 5 (.t 19) .done)))))
 (.seq (.seq (.reg (tm 20 (.t 5) (tq 21 (.bin .lss (.t 20) (.c (.int .i64 0))) .done)))
 (.cond (.t 21) (.seq (.reg (tm 4 (.c (.bool true)) .done))
 .ret)
 .skip))
 (.seq (.reg (tm 22 (.t 1) (tm 23 (.t 5) (tq 24 (.call 19 [(.t 22),(.t 23)]) (tm 5 (.t 24) .done)))))
 (.seq (.seq (.reg (tm 25 (.t 5) (tq 26 (.bin .lss (.t 25) (.c (.int .i64 0))) .done)))
 (.cond (.t 26) (.seq (.reg (tm 4 (.c (.bool true)) .done))
 .ret)
 .skip))
 (.seq (.reg (tq 28 (.load 2 true (.t 2)) (tq 29 (.call 21 [(.t 28)]) (tm 30 (.t 1) (tq 31 (.call 22 [(.t 30)]) (tq 32 (.call 29 [(.t 29),(.t 31)]) (tm 27 (.t 32) (tq 33 (.extract 0 (.t 27)) (tq 34 (.extract 1 (.t 27)) (tq 6 (.box 2 (.c (.agg [.nil,(.int .i64 0)]))) (.q ⟨none,none,.store 2 (.t 6) (.t 33)⟩
 (tm 7 (.t 34) .done))))))))))))
 (.seq (.reg (tq 35 (.load 2 true (.t 2)) (tq 36 (.call 21 [(.t 35)]) (tq 8 (.box 2 (.c (.agg [.nil,(.int .i64 0)]))) (.q ⟨none,none,.store 2 (.t 8) (.t 36)⟩
 .done)))))
 (.seq (.reg (tm 37 (.t 1) (tq 38 (.call 22 [(.t 37)]) (tm 9 (.t 38) .done))))
 (.seq (.reg (tq 40 (.load 2 true (.t 8)) (tm 41 (.t 9) (tq 42 (.call 30 [(.t 40),(.t 41)]) (tm 39 (.t 42) (tq 43 (.extract 0 (.t 39)) (tq 44 (.extract 1 (.t 39)) (tq 10 (.box 2 (.c (.agg [.nil,(.int .i64 0)]))) (.q ⟨none,none,.store 2 (.t 10) (.t 43)⟩
 (tm 11 (.t 44) .done))))))))))
 (.seq (.seq (.reg (tq 45 (.load 2 true (.t 10)) (tq 46 (.load 2 true (.t 6)) (tq 47 (.call 24 [(.t 45),(.t 46)]) (tq 48 (.not (.t 47)) (tm 49 (.t 48) (tg 50 49 false (.mov (.t 11)) (tg 51 49 false (.mov (.t 7)) (tg 52 49 false (.bin .neq (.t 50) (.t 51)) (tq 53 (.pick (.t 49) (.c (.bool true)) (.t 52)) .done))))))))))
 (.cut (.cond (.t 53) (.seq (.reg (tm 4 (.c (.bool false)) .done))
 .ret)
 .skip)))
 (.seq (.seq (.reg (tq 54 (.load 2 true (.t 8)) (tq 55 (.load 2 true (.t 2)) (.l ⟨(some 56),none,.call 21 [(.t 55)]⟩ [⟨(some 54),none,.load 2 true (.t 8)⟩]
 (.l ⟨(some 57),none,.call 24 [(.t 54),(.t 56)]⟩ []
 (tq 58 (.not (.t 57)) .done) .non) .non))))
 (.cond (.t 58) (.seq (.reg (tm 4 (.c (.bool false)) .done))
 .ret)
 .skip))
 (.seq (.seq (.reg (tm 59 (.t 9) (tm 60 (.t 1) (tq 61 (.call 22 [(.t 60)]) (tq 62 (.call 25 [(.t 59),(.t 61)]) (tq 63 (.not (.t 62)) .done))))))
 (.cond (.t 63) (.seq (.reg (tm 4 (.c (.bool false)) .done))
 .ret)
 .skip))
 (.seq (.reg (tm 12 (.c (.int .i64 1)) .done))
 (.seq (.reg (tq 64 (.load 2 true (.t 8)) (tm 65 (.t 12) (tq 66 (.call 26 [(.t 64),(.t 65)]) (tm 12 (.t 66) .done)))))
 (.seq (.reg (tm 67 (.t 9) (tm 68 (.t 12) (tq 69 (.call 27 [(.t 67),(.t 68)]) (tm 12 (.t 69) .done)))))
 (.seq (.seq (.reg (tm 70 (.t 12) (tq 71 (.bin .lss (.t 70) (.c (.int .i64 0))) (tm 72 (.t 71) (tg 73 72 false (.load 2 true (.t 10)) (tg 74 72 false (.load 2 true (.t 6)) (tg 75 72 false (.call 24 [(.t 73),(.t 74)]) (tg 76 72 false (.not (.t 75)) (tq 77 (.pick (.t 72) (.c (.bool true)) (.t 76)) (tm 78 (.t 77) (tg 79 78 false (.mov (.t 11)) (tg 80 78 false (.mov (.t 7)) (tg 81 78 false (.bin .neq (.t 79) (.t 80)) (tq 82 (.pick (.t 78) (.c (.bool true)) (.t 81)) .done))))))))))))))
 (.cut (.cond (.t 82) (.seq (.reg (tm 4 (.c (.bool false)) .done))
 .ret)
 .skip)))
 (.seq (.reg (tm 13 (.c (.int .i64 1)) .done))
 (.seq (.reg (tq 83 (.load 2 true (.t 10)) (tm 84 (.t 13) (tq 85 (.call 26 [(.t 83),(.t 84)]) (tm 13 (.t 85) .done)))))
 (.seq (.reg (tm 14 (.c (.int .i64 1)) .done))
 (.seq (.reg (tq 86 (.load 2 true (.t 10)) (tm 87 (.t 14) (tq 88 (.call 28 [(.t 86),(.t 87)]) (tm 14 (.t 88) .done)))))
 (.seq (.seq (.reg (tm 89 (.t 14) (tq 90 (.bin .lss (.t 89) (.c (.int .i64 0))) .done)))
 (.cond (.t 90) (.seq (.reg (tm 4 (.c (.bool false)) .done))
 .ret)
 .skip))
 (.seq (.seq (.reg (tm 91 (.t 14) (tm 92 (.t 13) (tq 93 (.bin .neq (.t 91) (.t 92)) .done))))
 (.cond (.t 93) (.seq (.reg (tm 4 (.c (.bool false)) .done))
 .ret)
 .skip))
 (.seq (.reg (tq 95 (.load 2 true (.t 2)) (tq 96 (.call 21 [(.t 95)]) (tm 97 (.t 1) (tq 98 (.call 22 [(.t 97)]) (tq 99 (.call 30 [(.t 96),(.t 98)]) (tm 94 (.t 99) (tq 100 (.extract 0 (.t 94)) (tq 101 (.extract 1 (.t 94)) (tq 15 (.box 2 (.c (.agg [.nil,(.int .i64 0)]))) (.q ⟨none,none,.store 2 (.t 15) (.t 100)⟩
 (tm 16 (.t 101) .done))))))))))))
 (.seq (.seq (.reg (tq 102 (.load 2 true (.t 15)) (tq 103 (.load 2 true (.t 6)) (tq 104 (.call 24 [(.t 102),(.t 103)]) (tq 105 (.not (.t 104)) (tm 106 (.t 105) (tg 107 106 false (.mov (.t 16)) (tg 108 106 false (.mov (.t 7)) (tg 109 106 false (.bin .neq (.t 107) (.t 108)) (tq 110 (.pick (.t 106) (.c (.bool true)) (.t 109)) .done))))))))))
 (.cut (.cond (.t 110) (.seq (.reg (tm 4 (.c (.bool false)) .done))
 .ret)
 .skip)))
 (.seq (.reg (tm 14 (.c (.int .i64 1)) .done))
 (.seq (.reg (tq 111 (.load 2 true (.t 10)) (tm 112 (.t 14) (tq 113 (.call 28 [(.t 111),(.t 112)]) (tm 14 (.t 113) .done)))))
 (.seq (.seq (.reg (tm 114 (.t 14) (tq 115 (.bin .lss (.t 114) (.c (.int .i64 0))) .done)))
 (.cond (.t 115) (.seq (.reg (tm 4 (.c (.bool false)) .done))
 .ret)
 .skip))
 (.seq (.seq (.reg (tm 116 (.t 14) (tm 117 (.t 13) (tq 118 (.bin .neq (.t 116) (.t 117)) .done))))
 (.cond (.t 118) (.seq (.reg (tm 4 (.c (.bool false)) .done))
 .ret)
 .skip))
 (.seq (.reg (tm 4 (.c (.bool true)) .done))
 .ret))))))))))))))))))))))))))))))
theorem fc5:a1g Try.prog Try.f5 = some (c5.erase,[.mov (.t 4)],119):=by kernel_rfl
def a5m (aX_1:a0l) (aList_2:(List y9)):Option Bool :=
    (b0w aX_1 1048576).bind fun r_3 =>
    if (decide (r_3 < 0)) then
    some true
    else
    (a8g aList_2 r_3).bind fun r_6 =>
    if (decide (r_6 < 0)) then
    some true
    else
    (a6k aX_1).bind fun r_9 =>
    (a5h aList_2).bind fun r_11 =>
    (a6z r_9 r_11).bind fun r_13 =>
    (a6k aX_1).bind fun r_15 =>
    (a5h aList_2).bind fun r_17 =>
    (a5z r_15 r_17).bind fun r_19 =>
    (((a6m r_19.1 r_13.1).bind fun r_26 =>
    if (!r_26) then
    some true
    else
    some (r_19.2 != r_13.2):Option Bool)).bind fun s53_24 =>
    if s53_24 then
    some false
    else
    (a6k aX_1).bind fun r_30 =>
    (a6m r_15 r_30).bind fun r_32 =>
    if (!r_32) then
    some false
    else
    (a5h aList_2).bind fun r_35 =>
    (a8l r_17 r_35).bind fun r_37 =>
    if (!r_37) then
    some false
    else
    (a7e r_15 1).bind fun r_40 =>
    (a7f r_17 r_40.1).bind fun r_43 =>
    ((if (decide (r_43.1 < 0)) then
    some true
    else
    (a6m r_19.1 r_13.1).bind fun r_52 =>
    some (bif (!r_52) then true else (r_19.2 != r_13.2)):Option Bool)).bind fun s82_49 =>
    if s82_49 then
    some false
    else
    (a7e r_19.1 1).bind fun r_55 =>
    (a7g (⟨r_55.2.Tables,r_19.1.Next⟩:a0l) 1).bind fun r_58 =>
    if (decide (r_58 < 0)) then
    some false
    else
    if (r_58 != r_55.1) then
    some false
    else
    (a6k aX_1).bind fun r_62 =>
    (a5h aList_2).bind fun r_64 =>
    (a5z r_62 r_64).bind fun r_66 =>
    (((a6m r_66.1 r_13.1).bind fun r_73 =>
    if (!r_73) then
    some true
    else
    some (r_66.2 != r_13.2):Option Bool)).bind fun s110_71 =>
    if s110_71 then
    some false
    else
    (a7g (⟨r_55.2.Tables,r_19.1.Next⟩:a0l) 1).bind fun r_77 =>
    if (decide (r_77 < 0)) then
    some false
    else
    if (r_77 != r_55.1) then
    some false
    else
    some true
theorem b3g (aX_1:a0l) (aList_2:(List y9)) (r:Bool) (hf:a5m aX_1 aList_2 = some r):a0b Try.prog 5 .flat [(a0z aX_1),(.lst 6 (aList_2.map o8))] (.bool r):=by
 refine a0b.of_awp' (md:=⟨true,true,true⟩) (fun _ => rfl) (fun _ => rfl) (fun h => by cases h) mixed Try.func5 fc5 nle ?_;rw [a0q];unfold a5m at hf;unfold c5;refine (show awp Try.prog ⟨true,true,true⟩ 0 _ (ofL [(0,(a0z aX_1)),(1,(.lst 6 (aList_2.map o8)))]) [] _ from ?_);refine sr<|a0a (a1m (j:=0) (c:=(.agg [(.lst 1 (aX_1.Tables.map (o7 2 o5))),(.int .i64 aX_1.Next)])) rfl trivial rfl rfl)<|l9 (.bool false) rfl<|dk<|sr<|l9 (.int .i64 1048576) rfl<|dk<|sr<|?_
 obtain ⟨r_3,er4,hf⟩:=ob hf
 refine y5 (.agg [(.lst 1 (aX_1.Tables.map (o7 2 o5))),(.int .i64 aX_1.Next)]) rfl (.of nle trivial) rfl<|l9 (.int .i64 1048576) rfl<|a0a (a1o (c4w _ _ _ er4) rfl (.refl _) rfl)<|l9 (.int .i64 r_3) rfl<|dk<|o6<|sr<|l9 (.int .i64 r_3) rfl<|y5 (.bool (decide (r_3 < 0))) rfl (.of rfl trivial) rfl<|dk<|?_
 rcases oi hf with ⟨c5,hf⟩ | ⟨c5,hf⟩
 ·refine y8 rfl c5<|sr<|l9 (.bool true) rfl<|dk<|a0f<|?_;obtain rfl:=os hf;exact a0k ⟨.of trivial trivial,trivial⟩ rfl (.refl _)
 ·refine y7 rfl (bf c5)<|a0e<|a0h<|sr<|?_
  obtain ⟨r_6,er7,hf⟩:=ob hf
  refine l9 (.lst 6 (aList_2.map o8)) rfl<|l9 (.int .i64 r_3) rfl<|a0a (a1o (c1c _ _ _ er7) rfl (.refl _) rfl)<|l9 (.int .i64 r_6) rfl<|dk<|o6<|sr<|l9 (.int .i64 r_6) rfl<|y5 (.bool (decide (r_6 < 0))) rfl (.of rfl trivial) rfl<|dk<|?_
  rcases oi hf with ⟨c8,hf⟩ | ⟨c8,hf⟩
  ·refine y8 rfl c8<|sr<|l9 (.bool true) rfl<|dk<|a0f<|?_;obtain rfl:=os hf;exact a0k ⟨.of trivial trivial,trivial⟩ rfl (.refl _)
  ·refine y7 rfl (bf c8)<|a0e<|a0h<|sr<|?_
   obtain ⟨r_9,er10,hf⟩:=ob hf
   obtain ⟨r_11,er12,hf⟩:=ob hf
   obtain ⟨r_13,er14,hf⟩:=ob hf
   refine y5 (.agg [(.lst 1 (aX_1.Tables.map (o7 2 o5))),(.int .i64 aX_1.Next)]) rfl (.of nle trivial) rfl<|a0a (a3j (v:=(.agg [(.own 1 0 r_9.Tables.length),(.int .i64 r_9.Next)])) (h':=[.row 1 (r_9.Tables.map (o7 2 o5))]) (b0z _ _ er10) rfl (.refl _) (by simp only [a1r,a1q,List.length_map,a5w,List.nil_append,List.append_nil,List.cons_append];rfl))<|l9 (.lst 6 (aList_2.map o8)) rfl<|a0a (a3j (v:=(.own 2 0 r_11.length)) (h':=[.row 6 (r_11.map o8)]) (a8w _ _ er12) rfl (.refl _) (by simp only [a1r,a1q,List.length_map,List.nil_append,List.append_nil,List.cons_append];rfl))<|a0a (e0c rfl rfl (b8n _ _ _ er14) rfl (.cons (.agg (.cons (.of_eq (congrArg (AV.lst _) (tk (enc:=(o7 2 o5)) r_9.Tables))) (.cons (.refl _) .nil))) (.cons (.of_eq (congrArg (AV.lst _) (tk (enc:=o8) r_11))) .nil)) rfl rfl)<|?_
   refine l9 (.tup [(a0z r_13.1),(.int .i64 r_13.2)]) rfl<|y5 (a0z r_13.1) rfl (.of nle trivial) rfl<|y5 (.int .i64 r_13.2) rfl (.of nle trivial) rfl<|a0a (a1m (j:=3) (c:=(.agg [.nil,(.int .i64 0)])) rfl trivial rfl rfl)<|a1p (a0i (v:=(.agg [(.lst 1 (r_13.1.Tables.map (o7 2 o5))),(.int .i64 r_13.1.Next)])) (y':=(.agg [(.lst 1 (r_13.1.Tables.map (o7 2 o5))),(.int .i64 r_13.1.Next)])) rfl rfl rfl trivial ⟨rfl,nle⟩ ⟨⟨rfl,trivial⟩,⟨⟨rfl,trivial⟩,trivial⟩⟩ rfl)<|l9 (.int .i64 r_13.2) rfl<|dk<|sr<|?_
   obtain ⟨r_15,er16,hf⟩:=ob hf
   refine y5 (.agg [(.lst 1 (aX_1.Tables.map (o7 2 o5))),(.int .i64 aX_1.Next)]) rfl (.of nle trivial) rfl<|a0a (a3j (v:=(.agg [(.own 4 0 r_15.Tables.length),(.int .i64 r_15.Next)])) (h':=[.row 1 (r_15.Tables.map (o7 2 o5))]) (b0z _ _ er16) rfl (.refl _) (by simp only [a1r,a1q,List.length_map,a5w,List.nil_append,List.append_nil,List.cons_append];rfl))<|a0a (a1m (j:=5) (c:=(.agg [.nil,(.int .i64 0)])) rfl trivial rfl rfl)<|a1p (a0i (v:=(.agg [(.own 4 0 r_15.Tables.length),(.int .i64 r_15.Next)])) (y':=(.agg [(.own 4 0 r_15.Tables.length),(.int .i64 r_15.Next)])) rfl rfl rfl trivial ⟨rfl,nle⟩ ⟨⟨rfl,trivial⟩,⟨⟨rfl,trivial⟩,trivial⟩⟩ rfl)<|?_
   refine dk<|sr<|?_
   obtain ⟨r_17,er18,hf⟩:=ob hf
   refine l9 (.lst 6 (aList_2.map o8)) rfl<|a0a (a3j (v:=(.own 6 0 r_17.length)) (h':=[.row 6 (r_17.map o8)]) (a8w _ _ er18) rfl (.refl _) (by simp only [a1r,a1q,List.length_map,List.nil_append,List.append_nil,List.cons_append];rfl))<|l9 (.own 6 0 r_17.length) rfl<|dk<|sr<|?_
   obtain ⟨r_19,er20,hf⟩:=ob hf
   refine y5 (.agg [(.own 4 0 r_15.Tables.length),(.int .i64 r_15.Next)]) rfl (.of nle trivial) rfl<|l9 (.own 6 0 r_17.length) rfl<|a0a (a3j (v:=(.tup [(.agg [(.own 7 0 r_19.1.Tables.length),(.int .i64 r_19.1.Next)]),(.int .i64 r_19.2)])) (h':=[.row 1 (r_19.1.Tables.map (o7 2 o5))]) (b3c _ _ _ er20) rfl (.cons (.agg (.cons (.of_eq (congrArg (AV.lst _) (tko (enc:=(o7 2 o5)) r_15.Tables))) (.cons (.refl _) .nil))) (.cons (.of_eq (congrArg (AV.lst _) (tko r_17))) .nil)) (by simp only [a1r,a1q,List.length_map,a5w,List.nil_append,List.append_nil,List.cons_append];rfl))<|l9 (.tup [(.agg [(.own 7 0 r_19.1.Tables.length),(.int .i64 r_19.1.Next)]),(.int .i64 r_19.2)]) rfl<|?_
   refine y5 (.agg [(.own 7 0 r_19.1.Tables.length),(.int .i64 r_19.1.Next)]) rfl (.of nle trivial) rfl<|y5 (.int .i64 r_19.2) rfl (.of nle trivial) rfl<|a0a (a1m (j:=8) (c:=(.agg [.nil,(.int .i64 0)])) rfl trivial rfl rfl)<|a1p (a0i (v:=(.agg [(.own 7 0 r_19.1.Tables.length),(.int .i64 r_19.1.Next)])) (y':=(.agg [(.own 7 0 r_19.1.Tables.length),(.int .i64 r_19.1.Next)])) rfl rfl rfl trivial ⟨rfl,nle⟩ ⟨⟨rfl,trivial⟩,⟨⟨rfl,trivial⟩,trivial⟩⟩ rfl)<|l9 (.int .i64 r_19.2) rfl<|dk<|o6<|o6<|?_
   obtain ⟨s53_24,hb1,hf⟩:=ob hf
   refine a1v ([(1,(.lst 6 (aList_2.map o8))),(2,(.ptr 0 0 0)),(6,(.ptr 1 0 0)),(7,(.int .i64 r_13.2)),(8,(.ptr 2 0 0)),(9,(.own 3 0 r_17.length)),(10,(.ptr 4 0 0)),(11,(.int .i64 r_19.2)),(53,(.bool s53_24))],[.box 2 (.agg [(.lst 1 (aX_1.Tables.map (o7 2 o5))),(.int .i64 aX_1.Next)]),.box 2 (.agg [(.lst 1 (r_13.1.Tables.map (o7 2 o5))),(.int .i64 r_13.1.Next)]),.box 2 (.agg [(.own 5 0 r_15.Tables.length),(.int .i64 r_15.Next)]),.row 6 (r_17.map o8),.box 2 (.agg [(.own 6 0 r_19.1.Tables.length),(.int .i64 r_19.1.Next)]),.row 1 (r_15.Tables.map (o7 2 o5)),.row 1 (r_19.1.Tables.map (o7 2 o5))]) ?_ ?_
   ·refine a0y ?_
    obtain ⟨r_26,er27,hb1⟩:=ob hb1
    rcases oi hb1 with ⟨c28,hb1⟩ | ⟨c28,hb1⟩
    ·refine y5 (.agg [(.own 7 0 r_19.1.Tables.length),(.int .i64 r_19.1.Next)]) rfl (.of nle trivial) rfl<|y5 (.agg [(.lst 1 (r_13.1.Tables.map (o7 2 o5))),(.int .i64 r_13.1.Next)]) rfl (.of nle trivial) rfl<|a0a (a1o (a7d _ _ _ er27) rfl (.cons (.agg (.cons (.of_eq (congrArg (AV.lst _) (tko (enc:=(o7 2 o5)) r_19.1.Tables))) (.cons (.refl _) .nil))) (.cons (.refl _) .nil)) rfl)<|y5 (.bool (!r_26)) rfl (.of trivial trivial) rfl<|l9 (.bool (!r_26)) rfl<|a4i (s:=49) (b:=true) rfl c28<|a0t rfl rfl<|a0t rfl rfl<|a0t rfl rfl<|y5 (.bool true) rfl (.of trivial trivial) rfl<|a0n<|?_;obtain rfl:=os hb1;exact ⟨[],[0,3,5,6,8,4,7],_,_,rfl,rfl,⟨.refl _,⟨.refl _,⟨.refl _,⟨.refl _,⟨.refl _,⟨.refl _,⟨.refl _,⟨.refl _,⟨.refl _,trivial⟩⟩⟩⟩⟩⟩⟩⟩⟩,(.refl _)⟩
    ·refine y5 (.agg [(.own 7 0 r_19.1.Tables.length),(.int .i64 r_19.1.Next)]) rfl (.of nle trivial) rfl<|y5 (.agg [(.lst 1 (r_13.1.Tables.map (o7 2 o5))),(.int .i64 r_13.1.Next)]) rfl (.of nle trivial) rfl<|a0a (a1o (a7d _ _ _ er27) rfl (.cons (.agg (.cons (.of_eq (congrArg (AV.lst _) (tko (enc:=(o7 2 o5)) r_19.1.Tables))) (.cons (.refl _) .nil))) (.cons (.refl _) .nil)) rfl)<|y5 (.bool (!r_26)) rfl (.of trivial trivial) rfl<|l9 (.bool (!r_26)) rfl<|a4i (s:=49) (b:=false) rfl (bf c28)<|s_on rfl<|l9 (.int .i64 r_19.2) rfl<|s_on rfl<|l9 (.int .i64 r_13.2) rfl<|s_on rfl<|y5 (.bool (r_19.2 != r_13.2)) rfl (.of rfl trivial) rfl<|y5 (.bool (r_19.2 != r_13.2)) rfl (.of trivial trivial) rfl<|?_
     refine a0n ?_;obtain rfl:=os hb1;exact ⟨[],[0,3,5,6,8,4,7],_,_,rfl,rfl,⟨.refl _,⟨.refl _,⟨.refl _,⟨.refl _,⟨.refl _,⟨.refl _,⟨.refl _,⟨.refl _,⟨.refl _,trivial⟩⟩⟩⟩⟩⟩⟩⟩⟩,(.refl _)⟩
   ·rcases oi hf with ⟨c29,hf⟩ | ⟨c29,hf⟩
    ·refine y8 rfl c29<|sr<|l9 (.bool false) rfl<|dk<|a0f<|?_;obtain rfl:=os hf;exact a0k ⟨.of trivial trivial,trivial⟩ rfl (.refl _)
    ·refine y7 rfl (bf c29)<|a0e<|a0h<|o6<|sr<|?_
     obtain ⟨r_30,er31,hf⟩:=ob hf
     obtain ⟨r_32,er33,hf⟩:=ob hf
     refine y5 (.agg [(.own 5 0 r_15.Tables.length),(.int .i64 r_15.Next)]) rfl (.of nle trivial) rfl<|y5 (.agg [(.lst 1 (aX_1.Tables.map (o7 2 o5))),(.int .i64 aX_1.Next)]) rfl (.of nle trivial) rfl<|a5c (a3j (v:=(.agg [(.own 7 0 r_30.Tables.length),(.int .i64 r_30.Next)])) (h':=[.row 1 (r_30.Tables.map (o7 2 o5))]) (b0z _ _ er31) rfl (.refl _) (by simp only [a1r,a1q,List.length_map,a5w,List.nil_append,List.append_nil,List.cons_append];rfl)) (.inr ⟨⟨(.of nle trivial),rfl⟩,trivial⟩) trivial<|a5c (a1o (a7d _ _ _ er33) rfl (.cons (.agg (.cons (.of_eq (congrArg (AV.lst _) (tko (enc:=(o7 2 o5)) r_15.Tables))) (.cons (.refl _) .nil))) (.cons (.agg (.cons (.of_eq (congrArg (AV.lst _) (tko (enc:=(o7 2 o5)) r_30.Tables))) (.cons (.refl _) .nil))) .nil)) rfl) a6y trivial<|?_
     refine y5 (.bool (!r_32)) rfl (.of trivial trivial) rfl<|dk<|?_
     rcases oi hf with ⟨c34,hf⟩ | ⟨c34,hf⟩
     ·refine y8 rfl c34<|sr<|l9 (.bool false) rfl<|dk<|a0f<|?_;obtain rfl:=os hf;exact a0k ⟨.of trivial trivial,trivial⟩ rfl (.refl _)
     ·refine y7 rfl (bf c34)<|a0e<|a0h<|o6<|sr<|?_
      obtain ⟨r_35,er36,hf⟩:=ob hf
      obtain ⟨r_37,er38,hf⟩:=ob hf
      refine l9 (.own 3 0 r_17.length) rfl<|l9 (.lst 6 (aList_2.map o8)) rfl<|a0a (a3j (v:=(.own 8 0 r_35.length)) (h':=[.row 6 (r_35.map o8)]) (a8w _ _ er36) rfl (.refl _) (by simp only [a1r,a1q,List.length_map,List.nil_append,List.append_nil,List.cons_append];rfl))<|a0a (a1o (c1f _ _ _ er38) rfl (.cons (.of_eq (congrArg (AV.lst _) (tko r_17))) (.cons (.of_eq (congrArg (AV.lst _) (tko r_35))) .nil)) rfl)<|y5 (.bool (!r_37)) rfl (.of trivial trivial) rfl<|dk<|?_
      rcases oi hf with ⟨c39,hf⟩ | ⟨c39,hf⟩
      ·refine y8 rfl c39<|sr<|l9 (.bool false) rfl<|dk<|a0f<|?_;obtain rfl:=os hf;exact a0k ⟨.of trivial trivial,trivial⟩ rfl (.refl _)
      ·refine y7 rfl (bf c39)<|a0e<|a0h<|sr<|l9 (.int .i64 1) rfl<|dk<|sr<|?_
       obtain ⟨r_40,er41,hf⟩:=ob hf
       refine y5 (.agg [(.own 5 0 r_15.Tables.length),(.int .i64 r_15.Next)]) rfl (.of nle trivial) rfl<|l9 (.int .i64 1) rfl<|?_;refine a0w (b9l (v:=(.int .i64 r_40.1)) (h2:=[.box 2 (.agg [(.lst 1 (aX_1.Tables.map (o7 2 o5))),(.int .i64 aX_1.Next)]),.box 2 (.agg [(.lst 1 (r_13.1.Tables.map (o7 2 o5))),(.int .i64 r_13.1.Next)]),.box 2 (.agg [(.own 5 0 r_15.Tables.length),(.int .i64 r_15.Next)]),.row 6 (r_17.map o8),.box 2 (.agg [(.own 6 0 r_19.1.Tables.length),(.int .i64 r_19.1.Next)]),.row 1 (r_40.2.Tables.map (o7 2 o5)),.row 1 (r_19.1.Tables.map (o7 2 o5)),.row 1 (r_30.Tables.map (o7 2 o5)),.row 6 (r_35.map o8)]) [] [5] (fun _ => rfl) (b3y _ _ _ er41) rfl (.refl _) (.refl _) rfl rfl) fun hl42 => ?_
       refine l9 (.int .i64 r_40.1) rfl<|dk<|sr<|?_
       obtain ⟨r_43,er44,hf⟩:=ob hf
       refine l9 (.own 3 0 r_17.length) rfl<|l9 (.int .i64 r_40.1) rfl<|?_;refine a0w (b9l (v:=(.int .i64 r_43.1)) (h2:=[.box 2 (.agg [(.lst 1 (aX_1.Tables.map (o7 2 o5))),(.int .i64 aX_1.Next)]),.box 2 (.agg [(.lst 1 (r_13.1.Tables.map (o7 2 o5))),(.int .i64 r_13.1.Next)]),.box 2 (.agg [(.own 5 0 r_15.Tables.length),(.int .i64 r_15.Next)]),.row 6 (r_43.2.map o8),.box 2 (.agg [(.own 6 0 r_19.1.Tables.length),(.int .i64 r_19.1.Next)]),.row 1 (r_40.2.Tables.map (o7 2 o5)),.row 1 (r_19.1.Tables.map (o7 2 o5)),.row 1 (r_30.Tables.map (o7 2 o5)),.row 6 (r_35.map o8)]) [] [3] (fun _ => rfl) (b8r _ _ _ er44) rfl (.refl _) (.refl _) rfl rfl) fun hl45 => ?_
       refine l9 (.int .i64 r_43.1) rfl<|dk<|o6<|o6<|?_
       obtain ⟨s82_49,hb1,hf⟩:=ob hf
       refine a1v ([(1,(.lst 6 (aList_2.map o8))),(2,(.ptr 0 0 0)),(6,(.ptr 1 0 0)),(7,(.int .i64 r_13.2)),(10,(.ptr 2 0 0)),(82,(.bool s82_49))],[.box 2 (.agg [(.lst 1 (aX_1.Tables.map (o7 2 o5))),(.int .i64 aX_1.Next)]),.box 2 (.agg [(.lst 1 (r_13.1.Tables.map (o7 2 o5))),(.int .i64 r_13.1.Next)]),.box 2 (.agg [(.own 3 0 r_19.1.Tables.length),(.int .i64 r_19.1.Next)]),.row 1 (r_19.1.Tables.map (o7 2 o5))]) ?_ ?_
       ·refine a0y<|l9 (.int .i64 r_43.1) rfl<|y5 (.bool (decide (r_43.1 < 0))) rfl (.of rfl trivial) rfl<|l9 (.bool (decide (r_43.1 < 0))) rfl<|?_
        rcases oi hb1 with ⟨c51,hb1⟩ | ⟨c51,hb1⟩
        ·refine a4i (s:=72) (b:=true) rfl c51<|a0t rfl rfl<|a0t rfl rfl<|a0t rfl rfl<|a0t rfl rfl<|y5 (.bool true) rfl (.of trivial trivial) rfl<|l9 (.bool true) rfl<|a0t rfl rfl<|a0t rfl rfl<|a0t rfl rfl<|y5 (.bool true) rfl (.of trivial trivial) rfl<|a0n<|?_;obtain rfl:=os hb1;exact ⟨[],[0,1,4,6],_,_,rfl,rfl,⟨.refl _,⟨.refl _,⟨.refl _,⟨.refl _,⟨.refl _,⟨.refl _,trivial⟩⟩⟩⟩⟩⟩,(.refl _)⟩
        ·refine a4i (s:=72) (b:=false) rfl (bf c51)<|s_on rfl<|y5 (.agg [(.own 6 0 r_19.1.Tables.length),(.int .i64 r_19.1.Next)]) rfl (.of nle trivial) rfl<|s_on rfl<|y5 (.agg [(.lst 1 (r_13.1.Tables.map (o7 2 o5))),(.int .i64 r_13.1.Next)]) rfl (.of nle trivial) rfl<|s_on rfl<|?_
         obtain ⟨r_52,er53,hb1⟩:=ob hb1
         refine a0a (a1o (a7d _ _ _ er53) rfl (.cons (.agg (.cons (.of_eq (congrArg (AV.lst _) (tko (enc:=(o7 2 o5)) r_19.1.Tables))) (.cons (.refl _) .nil))) (.cons (.refl _) .nil)) rfl)<|s_on rfl<|y5 (.bool (!r_52)) rfl (.of trivial trivial) rfl<|y5 (.bool (!r_52)) rfl (.of trivial trivial) rfl<|l9 (.bool (!r_52)) rfl<|?_;refine s_g (v:=(!r_52)) (.int .i64 r_19.2) rfl (fun hv => by (try simp only [a4l hv]);exact ⟨rfl,.of trivial trivial,rfl⟩) ?_;refine s_g (v:=(!r_52)) (.int .i64 r_13.2) rfl (fun hv => by (try simp only [a4l hv]);exact ⟨rfl,.of trivial trivial,rfl⟩) ?_;refine s_g (v:=(!r_52)) (.bool (r_19.2 != r_13.2)) rfl (fun hv => by (try simp only [a4l hv]);exact ⟨rfl,(.of rfl trivial),rfl⟩) ?_
         refine c4o (x:=true) (y:=(r_19.2 != r_13.2)) rfl (fun hv => by (try simp only [a4l hv]);rfl) (fun hv => by (try simp only [a4l hv]);rfl) ?_;refine a0n ?_;obtain rfl:=os hb1;exact ⟨[],[0,1,4,6],_,_,rfl,rfl,⟨.refl _,⟨.refl _,⟨.refl _,⟨.refl _,⟨.refl _,⟨.refl _,trivial⟩⟩⟩⟩⟩⟩,(.refl _)⟩
       ·rcases oi hf with ⟨c54,hf⟩ | ⟨c54,hf⟩
        ·refine y8 rfl c54<|sr<|l9 (.bool false) rfl<|dk<|a0f<|?_;obtain rfl:=os hf;exact a0k ⟨.of trivial trivial,trivial⟩ rfl (.refl _)
        ·refine y7 rfl (bf c54)<|a0e<|a0h<|sr<|l9 (.int .i64 1) rfl<|dk<|sr<|?_
         obtain ⟨r_55,er56,hf⟩:=ob hf
         refine y5 (.agg [(.own 3 0 r_19.1.Tables.length),(.int .i64 r_19.1.Next)]) rfl (.of nle trivial) rfl<|l9 (.int .i64 1) rfl<|?_;refine a0w (b9l (v:=(.int .i64 r_55.1)) (h2:=[.box 2 (.agg [(.lst 1 (aX_1.Tables.map (o7 2 o5))),(.int .i64 aX_1.Next)]),.box 2 (.agg [(.lst 1 (r_13.1.Tables.map (o7 2 o5))),(.int .i64 r_13.1.Next)]),.box 2 (.agg [(.own 3 0 r_19.1.Tables.length),(.int .i64 r_19.1.Next)]),.row 1 (r_55.2.Tables.map (o7 2 o5))]) [] [3] (fun _ => rfl) (b3y _ _ _ er56) rfl (.refl _) (.refl _) rfl rfl) fun hl57 => ?_;refine l9 (.int .i64 r_55.1) rfl<|dk<|sr<|l9 (.int .i64 1) rfl<|dk<|sr<|?_
         obtain ⟨r_58,er59,hf⟩:=ob hf
         refine y5 (.agg [(.own 3 0 r_19.1.Tables.length),(.int .i64 r_19.1.Next)]) rfl (.of nle trivial) rfl<|l9 (.int .i64 1) rfl<|a0a (a1o (b3z _ _ _ er59) rfl (.cons (.agg (.cons (.of_eq (congrArg (AV.lst _) (e4x (hl57 0 _ _ _ _ rfl rfl)))) (.cons (.refl _) .nil))) (.cons (.refl _) .nil)) rfl)<|l9 (.int .i64 r_58) rfl<|dk<|o6<|sr<|l9 (.int .i64 r_58) rfl<|y5 (.bool (decide (r_58 < 0))) rfl (.of rfl trivial) rfl<|dk<|?_
         rcases oi hf with ⟨c60,hf⟩ | ⟨c60,hf⟩
         ·refine y8 rfl c60<|sr<|l9 (.bool false) rfl<|dk<|a0f<|?_;obtain rfl:=os hf;exact a0k ⟨.of trivial trivial,trivial⟩ rfl (.refl _)
         ·refine y7 rfl (bf c60)<|a0e<|a0h<|o6<|sr<|l9 (.int .i64 r_58) rfl<|l9 (.int .i64 r_55.1) rfl<|y5 (.bool (r_58 != r_55.1)) rfl (.of rfl trivial) rfl<|dk<|?_
          rcases oi hf with ⟨c61,hf⟩ | ⟨c61,hf⟩
          ·refine y8 rfl c61<|sr<|l9 (.bool false) rfl<|dk<|a0f<|?_;obtain rfl:=os hf;exact a0k ⟨.of trivial trivial,trivial⟩ rfl (.refl _)
          ·refine y7 rfl (bf c61)<|a0e<|a0h<|sr<|?_
           obtain ⟨r_62,er63,hf⟩:=ob hf
           obtain ⟨r_64,er65,hf⟩:=ob hf
           obtain ⟨r_66,er67,hf⟩:=ob hf
           refine y5 (.agg [(.lst 1 (aX_1.Tables.map (o7 2 o5))),(.int .i64 aX_1.Next)]) rfl (.of nle trivial) rfl<|a0a (a3j (v:=(.agg [(.own 4 0 r_62.Tables.length),(.int .i64 r_62.Next)])) (h':=[.row 1 (r_62.Tables.map (o7 2 o5))]) (b0z _ _ er63) rfl (.refl _) (by simp only [a1r,a1q,List.length_map,a5w,List.nil_append,List.append_nil,List.cons_append];rfl))<|l9 (.lst 6 (aList_2.map o8)) rfl<|a0a (a3j (v:=(.own 5 0 r_64.length)) (h':=[.row 6 (r_64.map o8)]) (a8w _ _ er65) rfl (.refl _) (by simp only [a1r,a1q,List.length_map,List.nil_append,List.append_nil,List.cons_append];rfl))<|a0a (a3j (v:=(.tup [(.agg [(.own 6 0 r_66.1.Tables.length),(.int .i64 r_66.1.Next)]),(.int .i64 r_66.2)])) (h':=[.row 1 (r_66.1.Tables.map (o7 2 o5))]) (b3c _ _ _ er67) rfl (.cons (.agg (.cons (.of_eq (congrArg (AV.lst _) (tko (enc:=(o7 2 o5)) r_62.Tables))) (.cons (.refl _) .nil))) (.cons (.of_eq (congrArg (AV.lst _) (tko r_64))) .nil)) (by simp only [a1r,a1q,List.length_map,a5w,List.nil_append,List.append_nil,List.cons_append];rfl))<|?_
           refine l9 (.tup [(.agg [(.own 6 0 r_66.1.Tables.length),(.int .i64 r_66.1.Next)]),(.int .i64 r_66.2)]) rfl<|y5 (.agg [(.own 6 0 r_66.1.Tables.length),(.int .i64 r_66.1.Next)]) rfl (.of nle trivial) rfl<|y5 (.int .i64 r_66.2) rfl (.of nle trivial) rfl<|a0a (a1m (j:=7) (c:=(.agg [.nil,(.int .i64 0)])) rfl trivial rfl rfl)<|a1p (a0i (v:=(.agg [(.own 6 0 r_66.1.Tables.length),(.int .i64 r_66.1.Next)])) (y':=(.agg [(.own 6 0 r_66.1.Tables.length),(.int .i64 r_66.1.Next)])) rfl rfl rfl trivial ⟨rfl,nle⟩ ⟨⟨rfl,trivial⟩,⟨⟨rfl,trivial⟩,trivial⟩⟩ rfl)<|l9 (.int .i64 r_66.2) rfl<|dk<|o6<|o6<|?_
           obtain ⟨s110_71,hb1,hf⟩:=ob hf
           refine a1v ([(10,(.ptr 0 0 0)),(13,(.int .i64 r_55.1)),(110,(.bool s110_71))],[.box 2 (.agg [(.own 1 0 r_55.2.Tables.length),(.int .i64 r_19.1.Next)]),.row 1 (r_55.2.Tables.map (o7 2 o5))]) ?_ ?_
           ·refine a0y ?_
            obtain ⟨r_73,er74,hb1⟩:=ob hb1
            rcases oi hb1 with ⟨c75,hb1⟩ | ⟨c75,hb1⟩
            ·refine y5 (.agg [(.own 6 0 r_66.1.Tables.length),(.int .i64 r_66.1.Next)]) rfl (.of nle trivial) rfl<|y5 (.agg [(.lst 1 (r_13.1.Tables.map (o7 2 o5))),(.int .i64 r_13.1.Next)]) rfl (.of nle trivial) rfl<|a0a (a1o (a7d _ _ _ er74) rfl (.cons (.agg (.cons (.of_eq (congrArg (AV.lst _) (tko (enc:=(o7 2 o5)) r_66.1.Tables))) (.cons (.refl _) .nil))) (.cons (.refl _) .nil)) rfl)<|y5 (.bool (!r_73)) rfl (.of trivial trivial) rfl<|l9 (.bool (!r_73)) rfl<|a4i (s:=106) (b:=true) rfl c75<|a0t rfl rfl<|a0t rfl rfl<|a0t rfl rfl<|y5 (.bool true) rfl (.of trivial trivial) rfl<|a0n<|?_;obtain rfl:=os hb1;exact ⟨[],[2,3],_,_,rfl,rfl,⟨.refl _,⟨.refl _,⟨.refl _,trivial⟩⟩⟩,(.cons (.box (.agg (.cons (.of_eq (congrArg (AV.own _ 0) (by have h:=(hl57 0 _ _ _ _ rfl rfl);simpa using h.symm))) (.cons (.refl _) .nil)))) (.cons (.refl _) .nil))⟩
            ·refine y5 (.agg [(.own 6 0 r_66.1.Tables.length),(.int .i64 r_66.1.Next)]) rfl (.of nle trivial) rfl<|y5 (.agg [(.lst 1 (r_13.1.Tables.map (o7 2 o5))),(.int .i64 r_13.1.Next)]) rfl (.of nle trivial) rfl<|a0a (a1o (a7d _ _ _ er74) rfl (.cons (.agg (.cons (.of_eq (congrArg (AV.lst _) (tko (enc:=(o7 2 o5)) r_66.1.Tables))) (.cons (.refl _) .nil))) (.cons (.refl _) .nil)) rfl)<|y5 (.bool (!r_73)) rfl (.of trivial trivial) rfl<|l9 (.bool (!r_73)) rfl<|a4i (s:=106) (b:=false) rfl (bf c75)<|s_on rfl<|l9 (.int .i64 r_66.2) rfl<|s_on rfl<|l9 (.int .i64 r_13.2) rfl<|s_on rfl<|y5 (.bool (r_66.2 != r_13.2)) rfl (.of rfl trivial) rfl<|y5 (.bool (r_66.2 != r_13.2)) rfl (.of trivial trivial) rfl<|?_
             refine a0n ?_;obtain rfl:=os hb1;exact ⟨[],[2,3],_,_,rfl,rfl,⟨.refl _,⟨.refl _,⟨.refl _,trivial⟩⟩⟩,(.cons (.box (.agg (.cons (.of_eq (congrArg (AV.own _ 0) (by have h:=(hl57 0 _ _ _ _ rfl rfl);simpa using h.symm))) (.cons (.refl _) .nil)))) (.cons (.refl _) .nil))⟩
           ·rcases oi hf with ⟨c76,hf⟩ | ⟨c76,hf⟩
            ·refine y8 rfl c76<|sr<|l9 (.bool false) rfl<|dk<|a0f<|?_;obtain rfl:=os hf;exact a0k ⟨.of trivial trivial,trivial⟩ rfl (.refl _)
            ·refine y7 rfl (bf c76)<|a0e<|a0h<|sr<|l9 (.int .i64 1) rfl<|dk<|sr<|?_
             obtain ⟨r_77,er78,hf⟩:=ob hf
             refine y5 (.agg [(.own 1 0 r_55.2.Tables.length),(.int .i64 r_19.1.Next)]) rfl (.of nle trivial) rfl<|l9 (.int .i64 1) rfl<|a0a (a1o (b3z _ _ _ er78) rfl (.cons (.agg (.cons (.of_eq (congrArg (AV.lst _) (tko (enc:=(o7 2 o5)) r_55.2.Tables))) (.cons (.refl _) .nil))) (.cons (.refl _) .nil)) rfl)<|l9 (.int .i64 r_77) rfl<|dk<|o6<|sr<|l9 (.int .i64 r_77) rfl<|y5 (.bool (decide (r_77 < 0))) rfl (.of rfl trivial) rfl<|dk<|?_
             rcases oi hf with ⟨c79,hf⟩ | ⟨c79,hf⟩
             ·refine y8 rfl c79<|sr<|l9 (.bool false) rfl<|dk<|a0f<|?_;obtain rfl:=os hf;exact a0k ⟨.of trivial trivial,trivial⟩ rfl (.refl _)
             ·refine y7 rfl (bf c79)<|a0e<|a0h<|o6<|sr<|l9 (.int .i64 r_77) rfl<|l9 (.int .i64 r_55.1) rfl<|y5 (.bool (r_77 != r_55.1)) rfl (.of rfl trivial) rfl<|dk<|?_
              rcases oi hf with ⟨c80,hf⟩ | ⟨c80,hf⟩
              ·refine y8 rfl c80<|sr<|l9 (.bool false) rfl<|dk<|a0f<|?_;obtain rfl:=os hf;exact a0k ⟨.of trivial trivial,trivial⟩ rfl (.refl _)
              ·refine y7 rfl (bf c80)<|a0e<|a0h<|sr<|l9 (.bool true) rfl<|dk<|a0f<|?_;obtain rfl:=os hf;exact a0k ⟨.of trivial trivial,trivial⟩ rfl (.refl _)

end Go.R
