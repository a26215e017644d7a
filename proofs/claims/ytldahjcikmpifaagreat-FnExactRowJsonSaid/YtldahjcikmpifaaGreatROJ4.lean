/- Walks. -/
import Derived.Test.YtldahjcikmpifaaGreatROJ3
set_option linter.all false
namespace Go.R
open Go Go.Proofs
set_option linter.unusedVariables false
set_option linter.unusedSimpArgs false
set_option maxHeartbeats 8000000
/- laws.FnExactRowJson -/
def c4:a0m :=
 (.seq (.reg (tq 3 (.box 2 (.t 1)) (tm 4 (.c (.bool false)) .done)))
 (.seq (.reg (tm 5 (.c (.int .i64 1048576)) .done))
 (.seq (.reg (tm 17 (.t 0) (tm 18 (.t 5) (tq 19 (.call 17 [(.t 17),(.t 18)]) (tm 5 (.t 19) .done)))))
 (.seq (.seq (.reg (tm 20 (.t 5) (tq 21 (.bin .lss (.t 20) (.c (.int .i64 0))) .done)))
 (.cond (.t 21) (.seq (.reg (tm 4 (.c (.bool true)) .done))
 .ret)
 .skip))
 (.seq (.reg (tq 22 (.load 2 true (.t 3)) (tm 23 (.t 5) (tq 24 (.call 18 [(.t 22),(.t 23)]) (tm 5 (.t 24) .done)))))
 (.seq (.seq (.reg (tm 25 (.t 5) (tq 26 (.bin .lss (.t 25) (.c (.int .i64 0))) .done)))
 (.cond (.t 26) (.seq (.reg (tm 4 (.c (.bool true)) .done))
 .ret)
 .skip))
 (.seq (.reg (tm 28 (.t 0) (tq 30 (.load 2 true (.t 3)) (.l ⟨(some 29),none,.call 20 [(.t 28)]⟩ [⟨(some 30),none,.load 2 true (.t 3)⟩]
 (.l ⟨(some 31),none,.call 21 [(.t 30)]⟩ []
 (.l ⟨(some 32),none,.call 19 [(.t 29),(.t 31)]⟩ []
 (tm 27 (.t 32) (tq 33 (.extract 0 (.t 27)) (tq 34 (.extract 1 (.t 27)) (.l ⟨(some 6),none,.box 5 (.c (.agg [(.int .i64 0),(.int .i64 0),(.str []),.nil,.nil]))⟩ [⟨(some 30),none,.load 2 true (.t 3)⟩]
 (.l ⟨none,none,.store 5 (.t 6) (.t 33)⟩ []
 (tm 7 (.t 34) .done) .non) .non)))) (.l ⟨(some 6),none,.box 5 (.c (.agg [(.int .i64 0),(.int .i64 0),(.str []),.nil,.nil]))⟩ [⟨(some 30),none,.load 2 true (.t 3)⟩]
 (.l ⟨(some 32),none,.call 19 [(.t 29),(.t 31)]⟩ []
 (tm 27 (.t 32) (tq 33 (.extract 0 (.t 27)) (tq 34 (.extract 1 (.t 27)) (.l ⟨none,none,.store 5 (.t 6) (.t 33)⟩ []
 (tm 7 (.t 34) .done) .non)))) .non) .non)) (.l ⟨(some 6),none,.box 5 (.c (.agg [(.int .i64 0),(.int .i64 0),(.str []),.nil,.nil]))⟩ [⟨(some 30),none,.load 2 true (.t 3)⟩]
 (.l ⟨(some 31),none,.call 21 [(.t 30)]⟩ []
 (.l ⟨(some 32),none,.call 19 [(.t 29),(.t 31)]⟩ []
 (tm 27 (.t 32) (tq 33 (.extract 0 (.t 27)) (tq 34 (.extract 1 (.t 27)) (.l ⟨none,none,.store 5 (.t 6) (.t 33)⟩ []
 (tm 7 (.t 34) .done) .non)))) .non) .non) .non)) (.l ⟨(some 6),none,.box 5 (.c (.agg [(.int .i64 0),(.int .i64 0),(.str []),.nil,.nil]))⟩ [⟨(some 30),none,.load 2 true (.t 3)⟩]
 (.l ⟨(some 29),none,.call 20 [(.t 28)]⟩ [⟨(some 30),none,.load 2 true (.t 3)⟩]
 (.l ⟨(some 31),none,.call 21 [(.t 30)]⟩ []
 (.l ⟨(some 32),none,.call 19 [(.t 29),(.t 31)]⟩ []
 (tm 27 (.t 32) (tq 33 (.extract 0 (.t 27)) (tq 34 (.extract 1 (.t 27)) (.l ⟨none,none,.store 5 (.t 6) (.t 33)⟩ []
 (tm 7 (.t 34) .done) .non)))) .non) .non) .non) .non)))))
 (.cut (.seq (.reg (tm 35 (.t 0) (tq 36 (.call 20 [(.t 35)]) (tm 8 (.t 36) .done))))
 (.seq (.reg (tq 37 (.load 2 true (.t 3)) (tq 38 (.call 21 [(.t 37)]) (tq 9 (.box 2 (.c (.agg [(.int .i64 0),.nil]))) (.q ⟨none,none,.store 2 (.t 9) (.t 38)⟩
 .done)))))
 (.seq (.reg (tm 40 (.t 8) (tq 41 (.load 2 true (.t 9)) (tq 42 (.call 22 [(.t 40),(.t 41)]) (tm 39 (.t 42) (tq 43 (.extract 0 (.t 39)) (tq 44 (.extract 1 (.t 39)) (tq 10 (.box 5 (.c (.agg [(.int .i64 0),(.int .i64 0),(.str []),.nil,.nil]))) (.q ⟨none,none,.store 5 (.t 10) (.t 43)⟩
 (tm 11 (.t 44) .done))))))))))
 (.seq (.seq (.reg (tq 45 (.load 5 true (.t 10)) (tq 46 (.load 5 true (.t 6)) (tq 47 (.call 23 [(.t 45),(.t 46)]) (tq 48 (.not (.t 47)) (tm 49 (.t 48) (tg 50 49 false (.mov (.t 11)) (tg 51 49 false (.mov (.t 7)) (tg 52 49 false (.bin .neq (.t 50) (.t 51)) (tq 53 (.pick (.t 49) (.c (.bool true)) (.t 52)) .done))))))))))
 (.cut (.cond (.t 53) (.seq (.reg (tm 4 (.c (.bool false)) .done))
 .ret)
 .skip)))
 (.seq (.seq (.reg (tm 54 (.t 8) (tm 55 (.t 0) (tq 56 (.call 20 [(.t 55)]) (tq 57 (.call 24 [(.t 54),(.t 56)]) (tq 58 (.not (.t 57)) .done))))))
 (.cond (.t 58) (.seq (.reg (tm 4 (.c (.bool false)) .done))
 .ret)
 .skip))
 (.seq (.seq (.reg (tq 59 (.load 2 true (.t 9)) (tq 60 (.load 2 true (.t 3)) (.l ⟨(some 61),none,.call 21 [(.t 60)]⟩ [⟨(some 59),none,.load 2 true (.t 9)⟩]
 (.l ⟨(some 62),none,.call 25 [(.t 59),(.t 61)]⟩ []
 (tq 63 (.not (.t 62)) .done) .non) .non))))
 (.cond (.t 63) (.seq (.reg (tm 4 (.c (.bool false)) .done))
 .ret)
 .skip))
 (.seq (.reg (tm 12 (.c (.int .i64 1)) .done))
 (.seq (.reg (tm 64 (.t 8) (tm 65 (.t 12) (tq 66 (.call 26 [(.t 64),(.t 65)]) (tm 12 (.t 66) .done)))))
 (.seq (.reg (tq 67 (.load 2 true (.t 9)) (tm 68 (.t 12) (tq 69 (.call 27 [(.t 67),(.t 68)]) (tm 12 (.t 69) .done)))))
 (.seq (.seq (.reg (tm 70 (.t 12) (tq 71 (.bin .lss (.t 70) (.c (.int .i64 0))) (tm 72 (.t 71) (tg 73 72 false (.load 5 true (.t 10)) (tg 74 72 false (.load 5 true (.t 6)) (tg 75 72 false (.call 23 [(.t 73),(.t 74)]) (tg 76 72 false (.not (.t 75)) (tq 77 (.pick (.t 72) (.c (.bool true)) (.t 76)) (tm 78 (.t 77) (tg 79 78 false (.mov (.t 11)) (tg 80 78 false (.mov (.t 7)) (tg 81 78 false (.bin .neq (.t 79) (.t 80)) (tq 82 (.pick (.t 78) (.c (.bool true)) (.t 81)) .done))))))))))))))
 (.cut (.cond (.t 82) (.seq (.reg (tm 4 (.c (.bool false)) .done))
 .ret)
 .skip)))
 (.seq (.reg (tm 13 (.c (.int .i64 1)) .done))
 (.seq (.reg (tq 83 (.load 5 true (.t 10)) (tm 84 (.t 13) (tq 85 (.call 28 [(.t 83),(.t 84)]) (tm 13 (.t 85) .done)))))
 (.seq (.reg (tm 14 (.c (.int .i64 1)) .done))
 (.seq (.reg (tq 86 (.load 5 true (.t 10)) (tm 87 (.t 14) (tq 88 (.call 29 [(.t 86),(.t 87)]) (tm 14 (.t 88) .done)))))
 (.seq (.seq (.reg (tm 89 (.t 14) (tq 90 (.bin .lss (.t 89) (.c (.int .i64 0))) .done)))
 (.cond (.t 90) (.seq (.reg (tm 4 (.c (.bool false)) .done))
 .ret)
 .skip))
 (.seq (.seq (.reg (tm 91 (.t 14) (tm 92 (.t 13) (tq 93 (.bin .neq (.t 91) (.t 92)) .done))))
 (.cond (.t 93) (.seq (.reg (tm 4 (.c (.bool false)) .done))
 .ret)
 .skip))
 (.seq (.reg (tm 95 (.t 0) (tq 97 (.load 2 true (.t 3)) (.l ⟨(some 96),none,.call 20 [(.t 95)]⟩ [⟨(some 97),none,.load 2 true (.t 3)⟩]
 (.l ⟨(some 98),none,.call 21 [(.t 97)]⟩ []
 (.l ⟨(some 99),none,.call 22 [(.t 96),(.t 98)]⟩ []
 (tm 94 (.t 99) (tq 100 (.extract 0 (.t 94)) (tq 101 (.extract 1 (.t 94)) (.l ⟨(some 15),none,.box 5 (.c (.agg [(.int .i64 0),(.int .i64 0),(.str []),.nil,.nil]))⟩ [⟨(some 97),none,.load 2 true (.t 3)⟩]
 (.l ⟨none,none,.store 5 (.t 15) (.t 100)⟩ []
 (tm 16 (.t 101) .done) .non) .non)))) (.l ⟨(some 15),none,.box 5 (.c (.agg [(.int .i64 0),(.int .i64 0),(.str []),.nil,.nil]))⟩ [⟨(some 97),none,.load 2 true (.t 3)⟩]
 (.l ⟨(some 99),none,.call 22 [(.t 96),(.t 98)]⟩ []
 (tm 94 (.t 99) (tq 100 (.extract 0 (.t 94)) (tq 101 (.extract 1 (.t 94)) (.l ⟨none,none,.store 5 (.t 15) (.t 100)⟩ []
 (tm 16 (.t 101) .done) .non)))) .non) .non)) (.l ⟨(some 15),none,.box 5 (.c (.agg [(.int .i64 0),(.int .i64 0),(.str []),.nil,.nil]))⟩ [⟨(some 97),none,.load 2 true (.t 3)⟩]
 (.l ⟨(some 98),none,.call 21 [(.t 97)]⟩ []
 (.l ⟨(some 99),none,.call 22 [(.t 96),(.t 98)]⟩ []
 (tm 94 (.t 99) (tq 100 (.extract 0 (.t 94)) (tq 101 (.extract 1 (.t 94)) (.l ⟨none,none,.store 5 (.t 15) (.t 100)⟩ []
 (tm 16 (.t 101) .done) .non)))) .non) .non) .non)) (.l ⟨(some 15),none,.box 5 (.c (.agg [(.int .i64 0),(.int .i64 0),(.str []),.nil,.nil]))⟩ [⟨(some 97),none,.load 2 true (.t 3)⟩]
 (.l ⟨(some 96),none,.call 20 [(.t 95)]⟩ [⟨(some 97),none,.load 2 true (.t 3)⟩]
 (.l ⟨(some 98),none,.call 21 [(.t 97)]⟩ []
 (.l ⟨(some 99),none,.call 22 [(.t 96),(.t 98)]⟩ []
 (tm 94 (.t 99) (tq 100 (.extract 0 (.t 94)) (tq 101 (.extract 1 (.t 94)) (.l ⟨none,none,.store 5 (.t 15) (.t 100)⟩ []
 (tm 16 (.t 101) .done) .non)))) .non) .non) .non) .non)))))
 (.cut (.seq (.seq (.reg (tq 102 (.load 5 true (.t 15)) (tq 103 (.load 5 true (.t 6)) (tq 104 (.call 23 [(.t 102),(.t 103)]) (tq 105 (.not (.t 104)) (tm 106 (.t 105) (tg 107 106 false (.mov (.t 16)) (tg 108 106 false (.mov (.t 7)) (tg 109 106 false (.bin .neq (.t 107) (.t 108)) (tq 110 (.pick (.t 106) (.c (.bool true)) (.t 109)) .done))))))))))
 (.cut (.cond (.t 110) (.seq (.reg (tm 4 (.c (.bool false)) .done))
 .ret)
 .skip)))
 (.seq (.reg (tm 14 (.c (.int .i64 1)) .done))
 (.seq (.reg (tq 111 (.load 5 true (.t 10)) (tm 112 (.t 14) (tq 113 (.call 29 [(.t 111),(.t 112)]) (tm 14 (.t 113) .done)))))
 (.seq (.seq (.reg (tm 114 (.t 14) (tq 115 (.bin .lss (.t 114) (.c (.int .i64 0))) .done)))
 (.cond (.t 115) (.seq (.reg (tm 4 (.c (.bool false)) .done))
 .ret)
 .skip))
 (.seq (.seq (.reg (tm 116 (.t 14) (tm 117 (.t 13) (tq 118 (.bin .neq (.t 116) (.t 117)) .done))))
 (.cond (.t 118) (.seq (.reg (tm 4 (.c (.bool false)) .done))
 .ret)
 .skip))
 (.seq (.reg (tm 4 (.c (.bool true)) .done))
 .ret))))))))))))))))))))))))))))))))
theorem fc4:a1a Tryz.prog Tryz.f4 = some (c4.erase,[.mov (.t 4)],119):=by kernel_rfl
def a6o (aColumns_1:(List Str)) (aR_2:a3r):Option Bool :=
    (a7w aColumns_1 1048576).bind fun r_3 =>
    if (decide (r_3 < 0)) then
    some true
    else
    (b2z aR_2 r_3).bind fun r_6 =>
    if (decide (r_6 < 0)) then
    some true
    else
    (((a5l aColumns_1).bind fun r_22 =>
    (a7x aR_2).bind fun r_24 =>
    (b0d r_22 r_24).bind fun r_26 =>
    some (r_26.2,r_26.1.Kind,r_26.1.N,r_26.1.T,r_26.1.Keys,r_26.1.Items):Option (Int × Int × Int × Str × (List Str) × (List o8)))).bind fun p21 =>
    (match p21 with
    | (w1_15,x_16,x_17,x_18,x_19,x_20) =>
    (a5l aColumns_1).bind fun r_28 =>
    (a7x aR_2).bind fun r_30 =>
    (a8j r_28 r_30).bind fun r_32 =>
    (((a4y FUEL r_32.1 (⟨x_16,x_17,x_18,x_19,x_20⟩:o8)).bind fun r_39 =>
    if (!r_39) then
    some true
    else
    some (r_32.2 != w1_15):Option Bool)).bind fun s53_37 =>
    if s53_37 then
    some false
    else
    (a5l aColumns_1).bind fun r_43 =>
    (a6u r_28 r_43).bind fun r_45 =>
    if (!r_45) then
    some false
    else
    (a7x aR_2).bind fun r_48 =>
    (b3b r_30 r_48).bind fun r_50 =>
    if (!r_50) then
    some false
    else
    (a5g r_28 1).bind fun r_53 =>
    (b0q r_30 r_53.1).bind fun r_56 =>
    ((if (decide (r_56.1 < 0)) then
    some true
    else
    (a4y FUEL r_32.1 (⟨x_16,x_17,x_18,x_19,x_20⟩:o8)).bind fun r_65 =>
    some (bif (!r_65) then true else (r_32.2 != w1_15)):Option Bool)).bind fun s82_62 =>
    if s82_62 then
    some false
    else
    (a8z r_32.1 1).bind fun r_68 =>
    (a7j (⟨r_32.1.Kind,r_32.1.N,r_32.1.T,r_68.2.Keys,r_68.2.Items⟩:o8) 1).bind fun r_71 =>
    if (decide (r_71 < 0)) then
    some false
    else
    if (r_71 != r_68.1) then
    some false
    else
    (((a5l aColumns_1).bind fun r_88 =>
    (a7x aR_2).bind fun r_90 =>
    (a8j r_88 r_90).bind fun r_92 =>
    some (r_92.2,r_92.1.Kind,r_92.1.N,r_92.1.T,r_92.1.Keys,r_92.1.Items):Option (Int × Int × Int × Str × (List Str) × (List o8)))).bind fun p87 =>
    (match p87 with
    | (h1_81,x_82,x_83,x_84,x_85,x_86) =>
    (((a4y FUEL (⟨x_82,x_83,x_84,x_85,x_86⟩:o8) (⟨x_16,x_17,x_18,x_19,x_20⟩:o8)).bind fun r_99 =>
    if (!r_99) then
    some true
    else
    some (h1_81 != w1_15):Option Bool)).bind fun s110_97 =>
    if s110_97 then
    some false
    else
    (a7j (⟨r_32.1.Kind,r_32.1.N,r_32.1.T,r_68.2.Keys,r_68.2.Items⟩:o8) 1).bind fun r_103 =>
    if (decide (r_103 < 0)) then
    some false
    else
    if (r_103 != r_68.1) then
    some false
    else
    some true))
theorem b5q (aColumns_1:(List Str)) (aR_2:a3r) (r:Bool) (hf:a6o aColumns_1 aR_2 = some r):x9 Tryz.prog 4 .flat [(.lst 1 (aColumns_1.map AV.str)),(a3t aR_2)] (.bool r):=by
 refine x9.of_awp' (md:=⟨true,true,true⟩) (fun _ => rfl) (fun _ => rfl) (fun h => by cases h) mixed Tryz.func4 fc4 nle ?_;rw [a0j];unfold a6o at hf;unfold c4;refine (show awp Tryz.prog ⟨true,true,true⟩ 0 _ (ofL [(0,(.lst 1 (aColumns_1.map AV.str))),(1,(a3t aR_2))]) [] _ from ?_);refine sr<|y5 (a1i (j:=0) (c:=(.agg [(.int .i64 aR_2.Id),(.lst 1 (aR_2.Cells.map (a0t 3 l9)))])) rfl trivial rfl rfl)<|l7 (.bool false) rfl<|dk<|sr<|l7 (.int .i64 1048576) rfl<|dk<|sr<|?_
 obtain ⟨r_3,er4,hf⟩:=ob hf
 refine l7 (.lst 1 (aColumns_1.map AV.str)) rfl<|l7 (.int .i64 1048576) rfl<|y5 (a0v (c0t _ _ _ er4) rfl (.refl _) rfl)<|l7 (.int .i64 r_3) rfl<|dk<|o6<|sr<|l7 (.int .i64 r_3) rfl<|x8 (.bool (decide (r_3 < 0))) rfl (.of rfl trivial) rfl<|dk<|?_
 rcases oi hf with ⟨c5,hf⟩ | ⟨c5,hf⟩
 ·refine y7 rfl c5<|sr<|l7 (.bool true) rfl<|dk<|a0d<|?_;obtain rfl:=os hf;exact a0e ⟨.of trivial trivial,trivial⟩ rfl (.refl _)
 ·refine y8 rfl (bf c5)<|a0h<|a0f<|sr<|?_
  obtain ⟨r_6,er7,hf⟩:=ob hf
  refine x8 (.agg [(.int .i64 aR_2.Id),(.lst 1 (aR_2.Cells.map (a0t 3 l9)))]) rfl (.of nle trivial) rfl<|l7 (.int .i64 r_3) rfl<|y5 (a0v (c9f _ _ _ er7) rfl (.refl _) rfl)<|l7 (.int .i64 r_6) rfl<|dk<|o6<|sr<|l7 (.int .i64 r_6) rfl<|x8 (.bool (decide (r_6 < 0))) rfl (.of rfl trivial) rfl<|dk<|?_
  rcases oi hf with ⟨c8,hf⟩ | ⟨c8,hf⟩
  ·refine y7 rfl c8<|sr<|l7 (.bool true) rfl<|dk<|a0d<|?_;obtain rfl:=os hf;exact a0e ⟨.of trivial trivial,trivial⟩ rfl (.refl _)
  ·refine y8 rfl (bf c8)<|a0h<|a0f<|o6<|?_
   obtain ⟨p21,hb1,hf⟩:=ob hf
   refine a2a ([(0,(.lst 1 (aColumns_1.map AV.str))),(3,(.ptr 0 0 0)),(6,(.ptr 1 0 0)),(7,(.int .i64 p21.1))],[.box 2 (.agg [(.int .i64 aR_2.Id),(.lst 1 (aR_2.Cells.map (a0t 3 l9)))]),.box 5 (.agg [(.int .i64 p21.2.1),(.int .i64 p21.2.2.1),(.str p21.2.2.2.1),(.own 2 0 p21.2.2.2.2.1.length),(.own 3 0 p21.2.2.2.2.2.length)]),.row 1 (p21.2.2.2.2.1.map AV.str),.row 5 (p21.2.2.2.2.2.map o5)]) ?_ ?_
   ·refine a0s ?_
    obtain ⟨r_22,er23,hb1⟩:=ob hb1
    obtain ⟨r_24,er25,hb1⟩:=ob hb1
    obtain ⟨r_26,er27,hb1⟩:=ob hb1
    refine l7 (.lst 1 (aColumns_1.map AV.str)) rfl<|x8 (.agg [(.int .i64 aR_2.Id),(.lst 1 (aR_2.Cells.map (a0t 3 l9)))]) rfl (.of nle trivial) rfl<|?_;refine a0r (a1m (v:=(.own 1 0 r_22.length)) (h':=[.row 1 (r_22.map AV.str)]) (a5v _ _ er23) rfl (.refl _) (by simp only [a1e,a1c,List.length_map,List.nil_append,List.append_nil,List.cons_append];rfl)) (.inr ⟨⟨(.of nle trivial),rfl⟩,trivial⟩) ?_ ?_
    ·refine a0r (a1i (j:=1) (c:=(.agg [(.int .i64 0),(.int .i64 0),(.str []),.nil,.nil])) rfl trivial rfl rfl) (.inr ⟨⟨(.of nle trivial),rfl⟩,trivial⟩) trivial<|a0r (a1m (v:=(.own 2 0 r_22.length)) (h':=[.row 1 (r_22.map AV.str)]) (a5v _ _ er23) rfl (.refl _) (by simp only [a1e,a1c,List.length_map,List.nil_append,List.append_nil,List.cons_append];rfl)) (.inr ⟨⟨(.of nle trivial),rfl⟩,trivial⟩) trivial<|a0r (a1m (v:=(.agg [(.int .i64 r_24.Id),(.own 3 0 r_24.Cells.length)])) (h':=[.row 1 (r_24.Cells.map (a0t 3 l9))]) (a6f _ _ er25) rfl (.refl _) (by simp only [a1e,a1c,List.length_map,a7v,List.nil_append,List.append_nil,List.cons_append];rfl)) trivial trivial<|?_
     refine a0r (a1m (v:=(.tup [(.agg [(.int .i64 r_26.1.Kind),(.int .i64 r_26.1.N),(.str r_26.1.T),(.own 4 0 r_26.1.Keys.length),(.own 5 0 r_26.1.Items.length)]),(.int .i64 r_26.2)])) (h':=[.row 1 (r_26.1.Keys.map AV.str),.row 5 (r_26.1.Items.map o5)]) (b0e _ _ _ er27) rfl (.cons (.of_eq (congrArg (AV.lst _) (tko r_22))) (.cons (.agg (.cons (.refl _) (.cons (.of_eq (congrArg (AV.lst _) (tko (enc:=(a0t 3 l9)) r_24.Cells))) .nil))) .nil)) (by simp only [a1e,a1c,List.length_map,y9,List.nil_append,List.append_nil,List.cons_append];rfl)) trivial trivial<|l7 (.tup [(.agg [(.int .i64 r_26.1.Kind),(.int .i64 r_26.1.N),(.str r_26.1.T),(.own 4 0 r_26.1.Keys.length),(.own 5 0 r_26.1.Items.length)]),(.int .i64 r_26.2)]) rfl<|?_
     refine x8 (.agg [(.int .i64 r_26.1.Kind),(.int .i64 r_26.1.N),(.str r_26.1.T),(.own 4 0 r_26.1.Keys.length),(.own 5 0 r_26.1.Items.length)]) rfl (.of nle trivial) rfl<|x8 (.int .i64 r_26.2) rfl (.of nle trivial) rfl<|a3i (a0c (v:=(.agg [(.int .i64 r_26.1.Kind),(.int .i64 r_26.1.N),(.str r_26.1.T),(.own 4 0 r_26.1.Keys.length),(.own 5 0 r_26.1.Items.length)])) (y':=(.agg [(.int .i64 r_26.1.Kind),(.int .i64 r_26.1.N),(.str r_26.1.T),(.own 4 0 r_26.1.Keys.length),(.own 5 0 r_26.1.Items.length)])) rfl rfl rfl trivial ⟨rfl,nle⟩ ⟨⟨rfl,trivial⟩,⟨⟨rfl,trivial⟩,⟨⟨rfl,trivial⟩,⟨⟨rfl,trivial⟩,⟨⟨rfl,trivial⟩,trivial⟩⟩⟩⟩⟩ rfl) trivial trivial<|l7 (.int .i64 r_26.2) rfl<|?_
     refine a0b ?_;obtain rfl:=os hb1;exact ⟨[],[0,1,4,5],_,_,rfl,rfl,⟨.refl _,⟨.refl _,⟨.refl _,⟨.refl _,trivial⟩⟩⟩⟩,(.refl _)⟩
    ·refine a0r (a1m (v:=(.agg [(.int .i64 r_24.Id),(.own 2 0 r_24.Cells.length)])) (h':=[.row 1 (r_24.Cells.map (a0t 3 l9))]) (a6f _ _ er25) rfl (.refl _) (by simp only [a1e,a1c,List.length_map,a7v,List.nil_append,List.append_nil,List.cons_append];rfl)) trivial ?_ ?_
     ·refine a0r (a1i (j:=2) (c:=(.agg [(.int .i64 0),(.int .i64 0),(.str []),.nil,.nil])) rfl trivial rfl rfl) (.inr ⟨⟨(.of nle trivial),rfl⟩,trivial⟩) trivial<|a0r (a1m (v:=(.agg [(.int .i64 r_24.Id),(.own 3 0 r_24.Cells.length)])) (h':=[.row 1 (r_24.Cells.map (a0t 3 l9))]) (a6f _ _ er25) rfl (.refl _) (by simp only [a1e,a1c,List.length_map,a7v,List.nil_append,List.append_nil,List.cons_append];rfl)) trivial trivial<|a0r (a1m (v:=(.tup [(.agg [(.int .i64 r_26.1.Kind),(.int .i64 r_26.1.N),(.str r_26.1.T),(.own 4 0 r_26.1.Keys.length),(.own 5 0 r_26.1.Items.length)]),(.int .i64 r_26.2)])) (h':=[.row 1 (r_26.1.Keys.map AV.str),.row 5 (r_26.1.Items.map o5)]) (b0e _ _ _ er27) rfl (.cons (.of_eq (congrArg (AV.lst _) (tko r_22))) (.cons (.agg (.cons (.refl _) (.cons (.of_eq (congrArg (AV.lst _) (tko (enc:=(a0t 3 l9)) r_24.Cells))) .nil))) .nil)) (by simp only [a1e,a1c,List.length_map,y9,List.nil_append,List.append_nil,List.cons_append];rfl)) trivial trivial<|?_
      refine l7 (.tup [(.agg [(.int .i64 r_26.1.Kind),(.int .i64 r_26.1.N),(.str r_26.1.T),(.own 4 0 r_26.1.Keys.length),(.own 5 0 r_26.1.Items.length)]),(.int .i64 r_26.2)]) rfl<|x8 (.agg [(.int .i64 r_26.1.Kind),(.int .i64 r_26.1.N),(.str r_26.1.T),(.own 4 0 r_26.1.Keys.length),(.own 5 0 r_26.1.Items.length)]) rfl (.of nle trivial) rfl<|x8 (.int .i64 r_26.2) rfl (.of nle trivial) rfl<|a3i (a0c (v:=(.agg [(.int .i64 r_26.1.Kind),(.int .i64 r_26.1.N),(.str r_26.1.T),(.own 4 0 r_26.1.Keys.length),(.own 5 0 r_26.1.Items.length)])) (y':=(.agg [(.int .i64 r_26.1.Kind),(.int .i64 r_26.1.N),(.str r_26.1.T),(.own 4 0 r_26.1.Keys.length),(.own 5 0 r_26.1.Items.length)])) rfl rfl rfl trivial ⟨rfl,nle⟩ ⟨⟨rfl,trivial⟩,⟨⟨rfl,trivial⟩,⟨⟨rfl,trivial⟩,⟨⟨rfl,trivial⟩,⟨⟨rfl,trivial⟩,trivial⟩⟩⟩⟩⟩ rfl) trivial trivial<|?_
      refine l7 (.int .i64 r_26.2) rfl<|a0b<|?_;obtain rfl:=os hb1;exact ⟨[],[0,2,4,5],_,_,rfl,rfl,⟨.refl _,⟨.refl _,⟨.refl _,⟨.refl _,trivial⟩⟩⟩⟩,(.refl _)⟩
     ·refine a0r (a1m (v:=(.tup [(.agg [(.int .i64 r_26.1.Kind),(.int .i64 r_26.1.N),(.str r_26.1.T),(.own 3 0 r_26.1.Keys.length),(.own 4 0 r_26.1.Items.length)]),(.int .i64 r_26.2)])) (h':=[.row 1 (r_26.1.Keys.map AV.str),.row 5 (r_26.1.Items.map o5)]) (b0e _ _ _ er27) rfl (.cons (.of_eq (congrArg (AV.lst _) (tko r_22))) (.cons (.agg (.cons (.refl _) (.cons (.of_eq (congrArg (AV.lst _) (tko (enc:=(a0t 3 l9)) r_24.Cells))) .nil))) .nil)) (by simp only [a1e,a1c,List.length_map,y9,List.nil_append,List.append_nil,List.cons_append];rfl)) trivial ?_ ?_
      ·refine a0r (a1i (j:=3) (c:=(.agg [(.int .i64 0),(.int .i64 0),(.str []),.nil,.nil])) rfl trivial rfl rfl) (.inr ⟨⟨(.of nle trivial),rfl⟩,trivial⟩) trivial<|a0r (a1m (v:=(.tup [(.agg [(.int .i64 r_26.1.Kind),(.int .i64 r_26.1.N),(.str r_26.1.T),(.own 4 0 r_26.1.Keys.length),(.own 5 0 r_26.1.Items.length)]),(.int .i64 r_26.2)])) (h':=[.row 1 (r_26.1.Keys.map AV.str),.row 5 (r_26.1.Items.map o5)]) (b0e _ _ _ er27) rfl (.cons (.of_eq (congrArg (AV.lst _) (tko r_22))) (.cons (.agg (.cons (.refl _) (.cons (.of_eq (congrArg (AV.lst _) (tko (enc:=(a0t 3 l9)) r_24.Cells))) .nil))) .nil)) (by simp only [a1e,a1c,List.length_map,y9,List.nil_append,List.append_nil,List.cons_append];rfl)) trivial trivial<|?_
       refine l7 (.tup [(.agg [(.int .i64 r_26.1.Kind),(.int .i64 r_26.1.N),(.str r_26.1.T),(.own 4 0 r_26.1.Keys.length),(.own 5 0 r_26.1.Items.length)]),(.int .i64 r_26.2)]) rfl<|x8 (.agg [(.int .i64 r_26.1.Kind),(.int .i64 r_26.1.N),(.str r_26.1.T),(.own 4 0 r_26.1.Keys.length),(.own 5 0 r_26.1.Items.length)]) rfl (.of nle trivial) rfl<|x8 (.int .i64 r_26.2) rfl (.of nle trivial) rfl<|a3i (a0c (v:=(.agg [(.int .i64 r_26.1.Kind),(.int .i64 r_26.1.N),(.str r_26.1.T),(.own 4 0 r_26.1.Keys.length),(.own 5 0 r_26.1.Items.length)])) (y':=(.agg [(.int .i64 r_26.1.Kind),(.int .i64 r_26.1.N),(.str r_26.1.T),(.own 4 0 r_26.1.Keys.length),(.own 5 0 r_26.1.Items.length)])) rfl rfl rfl trivial ⟨rfl,nle⟩ ⟨⟨rfl,trivial⟩,⟨⟨rfl,trivial⟩,⟨⟨rfl,trivial⟩,⟨⟨rfl,trivial⟩,⟨⟨rfl,trivial⟩,trivial⟩⟩⟩⟩⟩ rfl) trivial trivial<|?_
       refine l7 (.int .i64 r_26.2) rfl<|a0b<|?_;obtain rfl:=os hb1;exact ⟨[],[0,3,4,5],_,_,rfl,rfl,⟨.refl _,⟨.refl _,⟨.refl _,⟨.refl _,trivial⟩⟩⟩⟩,(.refl _)⟩
      ·refine l7 (.tup [(.agg [(.int .i64 r_26.1.Kind),(.int .i64 r_26.1.N),(.str r_26.1.T),(.own 3 0 r_26.1.Keys.length),(.own 4 0 r_26.1.Items.length)]),(.int .i64 r_26.2)]) rfl<|x8 (.agg [(.int .i64 r_26.1.Kind),(.int .i64 r_26.1.N),(.str r_26.1.T),(.own 3 0 r_26.1.Keys.length),(.own 4 0 r_26.1.Items.length)]) rfl (.of nle trivial) rfl<|x8 (.int .i64 r_26.2) rfl (.of nle trivial) rfl<|a0r (a1i (j:=5) (c:=(.agg [(.int .i64 0),(.int .i64 0),(.str []),.nil,.nil])) rfl trivial rfl rfl) (.inr ⟨⟨(.of nle trivial),rfl⟩,trivial⟩) trivial<|a3i (a0c (v:=(.agg [(.int .i64 r_26.1.Kind),(.int .i64 r_26.1.N),(.str r_26.1.T),(.own 3 0 r_26.1.Keys.length),(.own 4 0 r_26.1.Items.length)])) (y':=(.agg [(.int .i64 r_26.1.Kind),(.int .i64 r_26.1.N),(.str r_26.1.T),(.own 3 0 r_26.1.Keys.length),(.own 4 0 r_26.1.Items.length)])) rfl rfl rfl trivial ⟨rfl,nle⟩ ⟨⟨rfl,trivial⟩,⟨⟨rfl,trivial⟩,⟨⟨rfl,trivial⟩,⟨⟨rfl,trivial⟩,⟨⟨rfl,trivial⟩,trivial⟩⟩⟩⟩⟩ rfl) trivial trivial<|?_
       refine l7 (.int .i64 r_26.2) rfl<|a0b<|?_;obtain rfl:=os hb1;exact ⟨[],[0,5,3,4],_,_,rfl,rfl,⟨.refl _,⟨.refl _,⟨.refl _,⟨.refl _,trivial⟩⟩⟩⟩,(.refl _)⟩
   ·obtain ⟨w1_15,x_16,x_17,x_18,x_19,x_20⟩:=p21
    refine sr<|?_
    obtain ⟨r_28,er29,hf⟩:=ob hf
    refine l7 (.lst 1 (aColumns_1.map AV.str)) rfl<|y5 (a1m (v:=(.own 4 0 r_28.length)) (h':=[.row 1 (r_28.map AV.str)]) (a5v _ _ er29) rfl (.refl _) (by simp only [a1e,a1c,List.length_map,List.nil_append,List.append_nil,List.cons_append];rfl))<|l7 (.own 4 0 r_28.length) rfl<|dk<|sr<|?_
    obtain ⟨r_30,er31,hf⟩:=ob hf
    refine x8 (.agg [(.int .i64 aR_2.Id),(.lst 1 (aR_2.Cells.map (a0t 3 l9)))]) rfl (.of nle trivial) rfl<|y5 (a1m (v:=(.agg [(.int .i64 r_30.Id),(.own 5 0 r_30.Cells.length)])) (h':=[.row 1 (r_30.Cells.map (a0t 3 l9))]) (a6f _ _ er31) rfl (.refl _) (by simp only [a1e,a1c,List.length_map,a7v,List.nil_append,List.append_nil,List.cons_append];rfl))<|y5 (a1i (j:=6) (c:=(.agg [(.int .i64 0),.nil])) rfl trivial rfl rfl)<|a2i (a0c (v:=(.agg [(.int .i64 r_30.Id),(.own 5 0 r_30.Cells.length)])) (y':=(.agg [(.int .i64 r_30.Id),(.own 5 0 r_30.Cells.length)])) rfl rfl rfl trivial ⟨rfl,nle⟩ ⟨⟨rfl,trivial⟩,⟨⟨rfl,trivial⟩,trivial⟩⟩ rfl)<|?_
    refine dk<|sr<|?_
    obtain ⟨r_32,er33,hf⟩:=ob hf
    refine l7 (.own 4 0 r_28.length) rfl<|x8 (.agg [(.int .i64 r_30.Id),(.own 5 0 r_30.Cells.length)]) rfl (.of nle trivial) rfl<|y5 (a1m (v:=(.tup [(.agg [(.int .i64 r_32.1.Kind),(.int .i64 r_32.1.N),(.str r_32.1.T),(.own 7 0 r_32.1.Keys.length),(.own 8 0 r_32.1.Items.length)]),(.int .i64 r_32.2)])) (h':=[.row 1 (r_32.1.Keys.map AV.str),.row 5 (r_32.1.Items.map o5)]) (a8a _ _ _ er33) rfl (.cons (.of_eq (congrArg (AV.lst _) (tko r_28))) (.cons (.agg (.cons (.refl _) (.cons (.of_eq (congrArg (AV.lst _) (tko (enc:=(a0t 3 l9)) r_30.Cells))) .nil))) .nil)) (by simp only [a1e,a1c,List.length_map,y9,List.nil_append,List.append_nil,List.cons_append];rfl))<|?_
    refine l7 (.tup [(.agg [(.int .i64 r_32.1.Kind),(.int .i64 r_32.1.N),(.str r_32.1.T),(.own 7 0 r_32.1.Keys.length),(.own 8 0 r_32.1.Items.length)]),(.int .i64 r_32.2)]) rfl<|x8 (.agg [(.int .i64 r_32.1.Kind),(.int .i64 r_32.1.N),(.str r_32.1.T),(.own 7 0 r_32.1.Keys.length),(.own 8 0 r_32.1.Items.length)]) rfl (.of nle trivial) rfl<|x8 (.int .i64 r_32.2) rfl (.of nle trivial) rfl<|y5 (a1i (j:=9) (c:=(.agg [(.int .i64 0),(.int .i64 0),(.str []),.nil,.nil])) rfl trivial rfl rfl)<|a2i (a0c (v:=(.agg [(.int .i64 r_32.1.Kind),(.int .i64 r_32.1.N),(.str r_32.1.T),(.own 7 0 r_32.1.Keys.length),(.own 8 0 r_32.1.Items.length)])) (y':=(.agg [(.int .i64 r_32.1.Kind),(.int .i64 r_32.1.N),(.str r_32.1.T),(.own 7 0 r_32.1.Keys.length),(.own 8 0 r_32.1.Items.length)])) rfl rfl rfl trivial ⟨rfl,nle⟩ ⟨⟨rfl,trivial⟩,⟨⟨rfl,trivial⟩,⟨⟨rfl,trivial⟩,⟨⟨rfl,trivial⟩,⟨⟨rfl,trivial⟩,trivial⟩⟩⟩⟩⟩ rfl)<|?_
    refine l7 (.int .i64 r_32.2) rfl<|dk<|o6<|o6<|?_
    obtain ⟨s53_37,hb1,hf⟩:=ob hf
    refine a2a ([(0,(.lst 1 (aColumns_1.map AV.str))),(3,(.ptr 0 0 0)),(6,(.ptr 1 0 0)),(7,(.int .i64 w1_15)),(8,(.own 2 0 r_28.length)),(9,(.ptr 3 0 0)),(10,(.ptr 4 0 0)),(11,(.int .i64 r_32.2)),(53,(.bool s53_37))],[.box 2 (.agg [(.int .i64 aR_2.Id),(.lst 1 (aR_2.Cells.map (a0t 3 l9)))]),.box 5 (.agg [(.int .i64 x_16),(.int .i64 x_17),(.str x_18),(.own 5 0 x_19.length),(.own 6 0 x_20.length)]),.row 1 (r_28.map AV.str),.box 2 (.agg [(.int .i64 r_30.Id),(.own 7 0 r_30.Cells.length)]),.box 5 (.agg [(.int .i64 r_32.1.Kind),(.int .i64 r_32.1.N),(.str r_32.1.T),(.own 8 0 r_32.1.Keys.length),(.own 9 0 r_32.1.Items.length)]),.row 1 (x_19.map AV.str),.row 5 (x_20.map o5),.row 1 (r_30.Cells.map (a0t 3 l9)),.row 1 (r_32.1.Keys.map AV.str),.row 5 (r_32.1.Items.map o5)]) ?_ ?_
    ·refine a0s ?_
     obtain ⟨r_39,er40,hb1⟩:=ob hb1
     rcases oi hb1 with ⟨c41,hb1⟩ | ⟨c41,hb1⟩
     ·refine x8 (.agg [(.int .i64 r_32.1.Kind),(.int .i64 r_32.1.N),(.str r_32.1.T),(.own 7 0 r_32.1.Keys.length),(.own 8 0 r_32.1.Items.length)]) rfl (.of nle trivial) rfl<|x8 (.agg [(.int .i64 x_16),(.int .i64 x_17),(.str x_18),(.own 2 0 x_19.length),(.own 3 0 x_20.length)]) rfl (.of nle trivial) rfl<|y5 (a0v (a7i FUEL _ _ _ er40) rfl (.cons (leJ (x:=r_32.1) (.agg (.cons (.refl _) (.cons (.refl _) (.cons (.refl _) (.cons (.of_eq (congrArg (AV.lst _) (tko (enc:=AV.str) r_32.1.Keys))) (.cons (.of_eq (congrArg (AV.lst _) (tko (enc:=o5) r_32.1.Items))) .nil))))))) (.cons (leJ (x:=(⟨x_16,x_17,x_18,x_19,x_20⟩:o8)) (.agg (.cons (.refl _) (.cons (.refl _) (.cons (.refl _) (.cons (.of_eq (congrArg (AV.lst _) (tko (enc:=AV.str) x_19))) (.cons (.of_eq (congrArg (AV.lst _) (tko (enc:=o5) x_20))) .nil))))))) .nil)) rfl)<|?_
      refine x8 (.bool (!r_39)) rfl (.of trivial trivial) rfl<|l7 (.bool (!r_39)) rfl<|a1p (s:=49) (b:=true) rfl c41<|a0g rfl rfl<|a0g rfl rfl<|a0g rfl rfl<|x8 (.bool true) rfl (.of trivial trivial) rfl<|a0b<|?_;obtain rfl:=os hb1;exact ⟨[],[0,1,4,6,9,2,3,5,7,8],_,_,rfl,rfl,⟨.refl _,⟨.refl _,⟨.refl _,⟨.refl _,⟨.refl _,⟨.refl _,⟨.refl _,⟨.refl _,⟨.refl _,trivial⟩⟩⟩⟩⟩⟩⟩⟩⟩,(.refl _)⟩
     ·refine x8 (.agg [(.int .i64 r_32.1.Kind),(.int .i64 r_32.1.N),(.str r_32.1.T),(.own 7 0 r_32.1.Keys.length),(.own 8 0 r_32.1.Items.length)]) rfl (.of nle trivial) rfl<|x8 (.agg [(.int .i64 x_16),(.int .i64 x_17),(.str x_18),(.own 2 0 x_19.length),(.own 3 0 x_20.length)]) rfl (.of nle trivial) rfl<|y5 (a0v (a7i FUEL _ _ _ er40) rfl (.cons (leJ (x:=r_32.1) (.agg (.cons (.refl _) (.cons (.refl _) (.cons (.refl _) (.cons (.of_eq (congrArg (AV.lst _) (tko (enc:=AV.str) r_32.1.Keys))) (.cons (.of_eq (congrArg (AV.lst _) (tko (enc:=o5) r_32.1.Items))) .nil))))))) (.cons (leJ (x:=(⟨x_16,x_17,x_18,x_19,x_20⟩:o8)) (.agg (.cons (.refl _) (.cons (.refl _) (.cons (.refl _) (.cons (.of_eq (congrArg (AV.lst _) (tko (enc:=AV.str) x_19))) (.cons (.of_eq (congrArg (AV.lst _) (tko (enc:=o5) x_20))) .nil))))))) .nil)) rfl)<|?_
      refine x8 (.bool (!r_39)) rfl (.of trivial trivial) rfl<|l7 (.bool (!r_39)) rfl<|a1p (s:=49) (b:=false) rfl (bf c41)<|s_on rfl<|l7 (.int .i64 r_32.2) rfl<|s_on rfl<|l7 (.int .i64 w1_15) rfl<|s_on rfl<|x8 (.bool (r_32.2 != w1_15)) rfl (.of rfl trivial) rfl<|x8 (.bool (r_32.2 != w1_15)) rfl (.of trivial trivial) rfl<|a0b<|?_;obtain rfl:=os hb1;exact ⟨[],[0,1,4,6,9,2,3,5,7,8],_,_,rfl,rfl,⟨.refl _,⟨.refl _,⟨.refl _,⟨.refl _,⟨.refl _,⟨.refl _,⟨.refl _,⟨.refl _,⟨.refl _,trivial⟩⟩⟩⟩⟩⟩⟩⟩⟩,(.refl _)⟩
    ·rcases oi hf with ⟨c42,hf⟩ | ⟨c42,hf⟩
     ·refine y7 rfl c42<|sr<|l7 (.bool false) rfl<|dk<|a0d<|?_;obtain rfl:=os hf;exact a0e ⟨.of trivial trivial,trivial⟩ rfl (.refl _)
     ·refine y8 rfl (bf c42)<|a0h<|a0f<|o6<|sr<|?_
      obtain ⟨r_43,er44,hf⟩:=ob hf
      obtain ⟨r_45,er46,hf⟩:=ob hf
      refine l7 (.own 2 0 r_28.length) rfl<|l7 (.lst 1 (aColumns_1.map AV.str)) rfl<|y5 (a1m (v:=(.own 10 0 r_43.length)) (h':=[.row 1 (r_43.map AV.str)]) (a5v _ _ er44) rfl (.refl _) (by simp only [a1e,a1c,List.length_map,List.nil_append,List.append_nil,List.cons_append];rfl))<|y5 (a0v (b4d _ _ _ er46) rfl (.cons (.of_eq (congrArg (AV.lst _) (tko r_28))) (.cons (.of_eq (congrArg (AV.lst _) (tko r_43))) .nil)) rfl)<|x8 (.bool (!r_45)) rfl (.of trivial trivial) rfl<|dk<|?_
      rcases oi hf with ⟨c47,hf⟩ | ⟨c47,hf⟩
      ·refine y7 rfl c47<|sr<|l7 (.bool false) rfl<|dk<|a0d<|?_;obtain rfl:=os hf;exact a0e ⟨.of trivial trivial,trivial⟩ rfl (.refl _)
      ·refine y8 rfl (bf c47)<|a0h<|a0f<|o6<|sr<|?_
       obtain ⟨r_48,er49,hf⟩:=ob hf
       obtain ⟨r_50,er51,hf⟩:=ob hf
       refine x8 (.agg [(.int .i64 r_30.Id),(.own 7 0 r_30.Cells.length)]) rfl (.of nle trivial) rfl<|x8 (.agg [(.int .i64 aR_2.Id),(.lst 1 (aR_2.Cells.map (a0t 3 l9)))]) rfl (.of nle trivial) rfl<|a0r (a1m (v:=(.agg [(.int .i64 r_48.Id),(.own 11 0 r_48.Cells.length)])) (h':=[.row 1 (r_48.Cells.map (a0t 3 l9))]) (a6f _ _ er49) rfl (.refl _) (by simp only [a1e,a1c,List.length_map,a7v,List.nil_append,List.append_nil,List.cons_append];rfl)) (.inr ⟨⟨(.of nle trivial),rfl⟩,trivial⟩) trivial<|a0r (a0v (c9h _ _ _ er51) rfl (.cons (.agg (.cons (.refl _) (.cons (.of_eq (congrArg (AV.lst _) (tko (enc:=(a0t 3 l9)) r_30.Cells))) .nil))) (.cons (.agg (.cons (.refl _) (.cons (.of_eq (congrArg (AV.lst _) (tko (enc:=(a0t 3 l9)) r_48.Cells))) .nil))) .nil)) rfl) a7s trivial<|?_
       refine x8 (.bool (!r_50)) rfl (.of trivial trivial) rfl<|dk<|?_
       rcases oi hf with ⟨c52,hf⟩ | ⟨c52,hf⟩
       ·refine y7 rfl c52<|sr<|l7 (.bool false) rfl<|dk<|a0d<|?_;obtain rfl:=os hf;exact a0e ⟨.of trivial trivial,trivial⟩ rfl (.refl _)
       ·refine y8 rfl (bf c52)<|a0h<|a0f<|sr<|l7 (.int .i64 1) rfl<|dk<|sr<|?_
        obtain ⟨r_53,er54,hf⟩:=ob hf
        refine l7 (.own 2 0 r_28.length) rfl<|l7 (.int .i64 1) rfl<|?_;refine a0w (a9w (v:=(.int .i64 r_53.1)) (h2:=[.box 2 (.agg [(.int .i64 aR_2.Id),(.lst 1 (aR_2.Cells.map (a0t 3 l9)))]),.box 5 (.agg [(.int .i64 x_16),(.int .i64 x_17),(.str x_18),(.own 5 0 x_19.length),(.own 6 0 x_20.length)]),.row 1 (r_53.2.map AV.str),.box 2 (.agg [(.int .i64 r_30.Id),(.own 7 0 r_30.Cells.length)]),.box 5 (.agg [(.int .i64 r_32.1.Kind),(.int .i64 r_32.1.N),(.str r_32.1.T),(.own 8 0 r_32.1.Keys.length),(.own 9 0 r_32.1.Items.length)]),.row 1 (x_19.map AV.str),.row 5 (x_20.map o5),.row 1 (r_30.Cells.map (a0t 3 l9)),.row 1 (r_32.1.Keys.map AV.str),.row 5 (r_32.1.Items.map o5),.row 1 (r_43.map AV.str),.row 1 (r_48.Cells.map (a0t 3 l9))]) [] [2] (fun _ => rfl) (a9i _ _ _ er54) rfl (.refl _) (.refl _) rfl rfl) fun hl55 => ?_
        refine l7 (.int .i64 r_53.1) rfl<|dk<|sr<|?_
        obtain ⟨r_56,er57,hf⟩:=ob hf
        refine x8 (.agg [(.int .i64 r_30.Id),(.own 7 0 r_30.Cells.length)]) rfl (.of nle trivial) rfl<|l7 (.int .i64 r_53.1) rfl<|?_;refine a0w (a9w (v:=(.int .i64 r_56.1)) (h2:=[.box 2 (.agg [(.int .i64 aR_2.Id),(.lst 1 (aR_2.Cells.map (a0t 3 l9)))]),.box 5 (.agg [(.int .i64 x_16),(.int .i64 x_17),(.str x_18),(.own 5 0 x_19.length),(.own 6 0 x_20.length)]),.row 1 (r_53.2.map AV.str),.box 2 (.agg [(.int .i64 r_30.Id),(.own 7 0 r_30.Cells.length)]),.box 5 (.agg [(.int .i64 r_32.1.Kind),(.int .i64 r_32.1.N),(.str r_32.1.T),(.own 8 0 r_32.1.Keys.length),(.own 9 0 r_32.1.Items.length)]),.row 1 (x_19.map AV.str),.row 5 (x_20.map o5),.row 1 (r_56.2.Cells.map (a0t 3 l9)),.row 1 (r_32.1.Keys.map AV.str),.row 5 (r_32.1.Items.map o5),.row 1 (r_43.map AV.str),.row 1 (r_48.Cells.map (a0t 3 l9))]) [] [7] (fun _ => rfl) (c5d _ _ _ er57) rfl (.refl _) (.refl _) rfl rfl) fun hl58 => ?_
        refine l7 (.int .i64 r_56.1) rfl<|dk<|o6<|o6<|?_
        obtain ⟨s82_62,hb1,hf⟩:=ob hf
        refine a2a ([(0,(.lst 1 (aColumns_1.map AV.str))),(3,(.ptr 0 0 0)),(6,(.ptr 1 0 0)),(7,(.int .i64 w1_15)),(10,(.ptr 2 0 0)),(82,(.bool s82_62))],[.box 2 (.agg [(.int .i64 aR_2.Id),(.lst 1 (aR_2.Cells.map (a0t 3 l9)))]),.box 5 (.agg [(.int .i64 x_16),(.int .i64 x_17),(.str x_18),(.own 3 0 x_19.length),(.own 4 0 x_20.length)]),.box 5 (.agg [(.int .i64 r_32.1.Kind),(.int .i64 r_32.1.N),(.str r_32.1.T),(.own 5 0 r_32.1.Keys.length),(.own 6 0 r_32.1.Items.length)]),.row 1 (x_19.map AV.str),.row 5 (x_20.map o5),.row 1 (r_32.1.Keys.map AV.str),.row 5 (r_32.1.Items.map o5)]) ?_ ?_
        ·refine a0s<|l7 (.int .i64 r_56.1) rfl<|x8 (.bool (decide (r_56.1 < 0))) rfl (.of rfl trivial) rfl<|l7 (.bool (decide (r_56.1 < 0))) rfl<|?_
         rcases oi hb1 with ⟨c64,hb1⟩ | ⟨c64,hb1⟩
         ·refine a1p (s:=72) (b:=true) rfl c64<|a0g rfl rfl<|a0g rfl rfl<|a0g rfl rfl<|a0g rfl rfl<|x8 (.bool true) rfl (.of trivial trivial) rfl<|l7 (.bool true) rfl<|a0g rfl rfl<|a0g rfl rfl<|a0g rfl rfl<|x8 (.bool true) rfl (.of trivial trivial) rfl<|a0b<|?_;obtain rfl:=os hb1;exact ⟨[],[0,1,4,5,6,8,9],_,_,rfl,rfl,⟨.refl _,⟨.refl _,⟨.refl _,⟨.refl _,⟨.refl _,⟨.refl _,trivial⟩⟩⟩⟩⟩⟩,(.refl _)⟩
         ·refine a1p (s:=72) (b:=false) rfl (bf c64)<|s_on rfl<|x8 (.agg [(.int .i64 r_32.1.Kind),(.int .i64 r_32.1.N),(.str r_32.1.T),(.own 8 0 r_32.1.Keys.length),(.own 9 0 r_32.1.Items.length)]) rfl (.of nle trivial) rfl<|s_on rfl<|x8 (.agg [(.int .i64 x_16),(.int .i64 x_17),(.str x_18),(.own 5 0 x_19.length),(.own 6 0 x_20.length)]) rfl (.of nle trivial) rfl<|s_on rfl<|?_
          obtain ⟨r_65,er66,hb1⟩:=ob hb1
          refine y5 (a0v (a7i FUEL _ _ _ er66) rfl (.cons (leJ (x:=r_32.1) (.agg (.cons (.refl _) (.cons (.refl _) (.cons (.refl _) (.cons (.of_eq (congrArg (AV.lst _) (tko (enc:=AV.str) r_32.1.Keys))) (.cons (.of_eq (congrArg (AV.lst _) (tko (enc:=o5) r_32.1.Items))) .nil))))))) (.cons (leJ (x:=(⟨x_16,x_17,x_18,x_19,x_20⟩:o8)) (.agg (.cons (.refl _) (.cons (.refl _) (.cons (.refl _) (.cons (.of_eq (congrArg (AV.lst _) (tko (enc:=AV.str) x_19))) (.cons (.of_eq (congrArg (AV.lst _) (tko (enc:=o5) x_20))) .nil))))))) .nil)) rfl)<|s_on rfl<|x8 (.bool (!r_65)) rfl (.of trivial trivial) rfl<|x8 (.bool (!r_65)) rfl (.of trivial trivial) rfl<|l7 (.bool (!r_65)) rfl<|?_
          refine s_g (v:=(!r_65)) (.int .i64 r_32.2) rfl (fun hv => by (try simp only [a1s hv]);exact ⟨rfl,.of trivial trivial,rfl⟩) ?_;refine s_g (v:=(!r_65)) (.int .i64 w1_15) rfl (fun hv => by (try simp only [a1s hv]);exact ⟨rfl,.of trivial trivial,rfl⟩) ?_;refine s_g (v:=(!r_65)) (.bool (r_32.2 != w1_15)) rfl (fun hv => by (try simp only [a1s hv]);exact ⟨rfl,(.of rfl trivial),rfl⟩) ?_;refine b3q (x:=true) (y:=(r_32.2 != w1_15)) rfl (fun hv => by (try simp only [a1s hv]);rfl) (fun hv => by (try simp only [a1s hv]);rfl) ?_;refine a0b ?_;obtain rfl:=os hb1;exact ⟨[],[0,1,4,5,6,8,9],_,_,rfl,rfl,⟨.refl _,⟨.refl _,⟨.refl _,⟨.refl _,⟨.refl _,⟨.refl _,trivial⟩⟩⟩⟩⟩⟩,(.refl _)⟩
        ·rcases oi hf with ⟨c67,hf⟩ | ⟨c67,hf⟩
         ·refine y7 rfl c67<|sr<|l7 (.bool false) rfl<|dk<|a0d<|?_;obtain rfl:=os hf;exact a0e ⟨.of trivial trivial,trivial⟩ rfl (.refl _)
         ·refine y8 rfl (bf c67)<|a0h<|a0f<|sr<|l7 (.int .i64 1) rfl<|dk<|sr<|?_
          obtain ⟨r_68,er69,hf⟩:=ob hf
          refine x8 (.agg [(.int .i64 r_32.1.Kind),(.int .i64 r_32.1.N),(.str r_32.1.T),(.own 5 0 r_32.1.Keys.length),(.own 6 0 r_32.1.Items.length)]) rfl (.of nle trivial) rfl<|l7 (.int .i64 1) rfl<|?_;refine a0w (a9w (v:=(.int .i64 r_68.1)) (h2:=[.box 2 (.agg [(.int .i64 aR_2.Id),(.lst 1 (aR_2.Cells.map (a0t 3 l9)))]),.box 5 (.agg [(.int .i64 x_16),(.int .i64 x_17),(.str x_18),(.own 3 0 x_19.length),(.own 4 0 x_20.length)]),.box 5 (.agg [(.int .i64 r_32.1.Kind),(.int .i64 r_32.1.N),(.str r_32.1.T),(.own 5 0 r_32.1.Keys.length),(.own 6 0 r_32.1.Items.length)]),.row 1 (x_19.map AV.str),.row 5 (x_20.map o5),.row 1 (r_68.2.Keys.map AV.str),.row 5 (r_68.2.Items.map o5)]) [] [5,6] (fun _ => rfl) (c2w _ _ _ er69) rfl (.refl _) (.refl _) rfl rfl) fun hl70 => ?_
          refine l7 (.int .i64 r_68.1) rfl<|dk<|sr<|l7 (.int .i64 1) rfl<|dk<|sr<|?_
          obtain ⟨r_71,er72,hf⟩:=ob hf
          refine x8 (.agg [(.int .i64 r_32.1.Kind),(.int .i64 r_32.1.N),(.str r_32.1.T),(.own 5 0 r_32.1.Keys.length),(.own 6 0 r_32.1.Items.length)]) rfl (.of nle trivial) rfl<|l7 (.int .i64 1) rfl<|y5 (a0v (b5l _ _ _ er72) rfl (.cons (leJ (x:=(⟨r_32.1.Kind,r_32.1.N,r_32.1.T,r_68.2.Keys,r_68.2.Items⟩:o8)) (.agg (.cons (.refl _) (.cons (.refl _) (.cons (.refl _) (.cons (.of_eq (congrArg (AV.lst _) (e1x (hl70 0 _ _ _ _ rfl rfl)))) (.cons (.of_eq (congrArg (AV.lst _) (e1x (hl70 1 _ _ _ _ rfl rfl)))) .nil))))))) (.cons (.refl _) .nil)) rfl)<|l7 (.int .i64 r_71) rfl<|dk<|o6<|sr<|l7 (.int .i64 r_71) rfl<|x8 (.bool (decide (r_71 < 0))) rfl (.of rfl trivial) rfl<|?_
          refine dk<|?_
          rcases oi hf with ⟨c73,hf⟩ | ⟨c73,hf⟩
          ·refine y7 rfl c73<|sr<|l7 (.bool false) rfl<|dk<|a0d<|?_;obtain rfl:=os hf;exact a0e ⟨.of trivial trivial,trivial⟩ rfl (.refl _)
          ·refine y8 rfl (bf c73)<|a0h<|a0f<|o6<|sr<|l7 (.int .i64 r_71) rfl<|l7 (.int .i64 r_68.1) rfl<|x8 (.bool (r_71 != r_68.1)) rfl (.of rfl trivial) rfl<|dk<|?_
           rcases oi hf with ⟨c74,hf⟩ | ⟨c74,hf⟩
           ·refine y7 rfl c74<|sr<|l7 (.bool false) rfl<|dk<|a0d<|?_;obtain rfl:=os hf;exact a0e ⟨.of trivial trivial,trivial⟩ rfl (.refl _)
           ·refine y8 rfl (bf c74)<|a0h<|a0f<|o6<|?_
            obtain ⟨p87,hb1,hf⟩:=ob hf
            refine a2a ([(6,(.ptr 0 0 0)),(7,(.int .i64 w1_15)),(10,(.ptr 1 0 0)),(13,(.int .i64 r_68.1)),(15,(.ptr 2 0 0)),(16,(.int .i64 p87.1))],[.box 5 (.agg [(.int .i64 x_16),(.int .i64 x_17),(.str x_18),(.own 3 0 x_19.length),(.own 4 0 x_20.length)]),.box 5 (.agg [(.int .i64 r_32.1.Kind),(.int .i64 r_32.1.N),(.str r_32.1.T),(.own 5 0 r_68.2.Keys.length),(.own 6 0 r_68.2.Items.length)]),.box 5 (.agg [(.int .i64 p87.2.1),(.int .i64 p87.2.2.1),(.str p87.2.2.2.1),(.own 7 0 p87.2.2.2.2.1.length),(.own 8 0 p87.2.2.2.2.2.length)]),.row 1 (x_19.map AV.str),.row 5 (x_20.map o5),.row 1 (r_68.2.Keys.map AV.str),.row 5 (r_68.2.Items.map o5),.row 1 (p87.2.2.2.2.1.map AV.str),.row 5 (p87.2.2.2.2.2.map o5)]) ?_ ?_
            ·refine a0s ?_
             obtain ⟨r_88,er89,hb1⟩:=ob hb1
             obtain ⟨r_90,er91,hb1⟩:=ob hb1
             obtain ⟨r_92,er93,hb1⟩:=ob hb1
             refine l7 (.lst 1 (aColumns_1.map AV.str)) rfl<|x8 (.agg [(.int .i64 aR_2.Id),(.lst 1 (aR_2.Cells.map (a0t 3 l9)))]) rfl (.of nle trivial) rfl<|?_;refine a0r (a1m (v:=(.own 7 0 r_88.length)) (h':=[.row 1 (r_88.map AV.str)]) (a5v _ _ er89) rfl (.refl _) (by simp only [a1e,a1c,List.length_map,List.nil_append,List.append_nil,List.cons_append];rfl)) (.inr ⟨⟨(.of nle trivial),rfl⟩,trivial⟩) ?_ ?_
             ·refine a0r (a1i (j:=7) (c:=(.agg [(.int .i64 0),(.int .i64 0),(.str []),.nil,.nil])) rfl trivial rfl rfl) (.inr ⟨⟨(.of nle trivial),rfl⟩,trivial⟩) trivial<|a0r (a1m (v:=(.own 8 0 r_88.length)) (h':=[.row 1 (r_88.map AV.str)]) (a5v _ _ er89) rfl (.refl _) (by simp only [a1e,a1c,List.length_map,List.nil_append,List.append_nil,List.cons_append];rfl)) (.inr ⟨⟨(.of nle trivial),rfl⟩,trivial⟩) trivial<|a0r (a1m (v:=(.agg [(.int .i64 r_90.Id),(.own 9 0 r_90.Cells.length)])) (h':=[.row 1 (r_90.Cells.map (a0t 3 l9))]) (a6f _ _ er91) rfl (.refl _) (by simp only [a1e,a1c,List.length_map,a7v,List.nil_append,List.append_nil,List.cons_append];rfl)) trivial trivial<|?_
              refine a0r (a1m (v:=(.tup [(.agg [(.int .i64 r_92.1.Kind),(.int .i64 r_92.1.N),(.str r_92.1.T),(.own 10 0 r_92.1.Keys.length),(.own 11 0 r_92.1.Items.length)]),(.int .i64 r_92.2)])) (h':=[.row 1 (r_92.1.Keys.map AV.str),.row 5 (r_92.1.Items.map o5)]) (a8a _ _ _ er93) rfl (.cons (.of_eq (congrArg (AV.lst _) (tko r_88))) (.cons (.agg (.cons (.refl _) (.cons (.of_eq (congrArg (AV.lst _) (tko (enc:=(a0t 3 l9)) r_90.Cells))) .nil))) .nil)) (by simp only [a1e,a1c,List.length_map,y9,List.nil_append,List.append_nil,List.cons_append];rfl)) trivial trivial<|l7 (.tup [(.agg [(.int .i64 r_92.1.Kind),(.int .i64 r_92.1.N),(.str r_92.1.T),(.own 10 0 r_92.1.Keys.length),(.own 11 0 r_92.1.Items.length)]),(.int .i64 r_92.2)]) rfl<|?_
              refine x8 (.agg [(.int .i64 r_92.1.Kind),(.int .i64 r_92.1.N),(.str r_92.1.T),(.own 10 0 r_92.1.Keys.length),(.own 11 0 r_92.1.Items.length)]) rfl (.of nle trivial) rfl<|x8 (.int .i64 r_92.2) rfl (.of nle trivial) rfl<|a3i (a0c (v:=(.agg [(.int .i64 r_92.1.Kind),(.int .i64 r_92.1.N),(.str r_92.1.T),(.own 10 0 r_92.1.Keys.length),(.own 11 0 r_92.1.Items.length)])) (y':=(.agg [(.int .i64 r_92.1.Kind),(.int .i64 r_92.1.N),(.str r_92.1.T),(.own 10 0 r_92.1.Keys.length),(.own 11 0 r_92.1.Items.length)])) rfl rfl rfl trivial ⟨rfl,nle⟩ ⟨⟨rfl,trivial⟩,⟨⟨rfl,trivial⟩,⟨⟨rfl,trivial⟩,⟨⟨rfl,trivial⟩,⟨⟨rfl,trivial⟩,trivial⟩⟩⟩⟩⟩ rfl) trivial trivial<|l7 (.int .i64 r_92.2) rfl<|?_
              refine a0b ?_;obtain rfl:=os hb1;exact ⟨[],[1,2,7,3,4,5,6,10,11],_,_,rfl,rfl,⟨.refl _,⟨.refl _,⟨.refl _,⟨.refl _,⟨.refl _,⟨.refl _,trivial⟩⟩⟩⟩⟩⟩,(.cons (.refl _) (.cons (.box (.agg (.cons (.refl _) (.cons (.refl _) (.cons (.refl _) (.cons (.of_eq (congrArg (AV.own _ 0) (by have h:=(hl70 0 _ _ _ _ rfl rfl);simpa using h.symm))) (.cons (.of_eq (congrArg (AV.own _ 0) (by have h:=(hl70 1 _ _ _ _ rfl rfl);simpa using h.symm))) .nil))))))) (.cons (.refl _) (.cons (.refl _) (.cons (.refl _) (.cons (.refl _) (.cons (.refl _) (.cons (.refl _) (.cons (.refl _) .nil)))))))))⟩
             ·refine a0r (a1m (v:=(.agg [(.int .i64 r_90.Id),(.own 8 0 r_90.Cells.length)])) (h':=[.row 1 (r_90.Cells.map (a0t 3 l9))]) (a6f _ _ er91) rfl (.refl _) (by simp only [a1e,a1c,List.length_map,a7v,List.nil_append,List.append_nil,List.cons_append];rfl)) trivial ?_ ?_
              ·refine a0r (a1i (j:=8) (c:=(.agg [(.int .i64 0),(.int .i64 0),(.str []),.nil,.nil])) rfl trivial rfl rfl) (.inr ⟨⟨(.of nle trivial),rfl⟩,trivial⟩) trivial<|a0r (a1m (v:=(.agg [(.int .i64 r_90.Id),(.own 9 0 r_90.Cells.length)])) (h':=[.row 1 (r_90.Cells.map (a0t 3 l9))]) (a6f _ _ er91) rfl (.refl _) (by simp only [a1e,a1c,List.length_map,a7v,List.nil_append,List.append_nil,List.cons_append];rfl)) trivial trivial<|a0r (a1m (v:=(.tup [(.agg [(.int .i64 r_92.1.Kind),(.int .i64 r_92.1.N),(.str r_92.1.T),(.own 10 0 r_92.1.Keys.length),(.own 11 0 r_92.1.Items.length)]),(.int .i64 r_92.2)])) (h':=[.row 1 (r_92.1.Keys.map AV.str),.row 5 (r_92.1.Items.map o5)]) (a8a _ _ _ er93) rfl (.cons (.of_eq (congrArg (AV.lst _) (tko r_88))) (.cons (.agg (.cons (.refl _) (.cons (.of_eq (congrArg (AV.lst _) (tko (enc:=(a0t 3 l9)) r_90.Cells))) .nil))) .nil)) (by simp only [a1e,a1c,List.length_map,y9,List.nil_append,List.append_nil,List.cons_append];rfl)) trivial trivial<|?_
               refine l7 (.tup [(.agg [(.int .i64 r_92.1.Kind),(.int .i64 r_92.1.N),(.str r_92.1.T),(.own 10 0 r_92.1.Keys.length),(.own 11 0 r_92.1.Items.length)]),(.int .i64 r_92.2)]) rfl<|x8 (.agg [(.int .i64 r_92.1.Kind),(.int .i64 r_92.1.N),(.str r_92.1.T),(.own 10 0 r_92.1.Keys.length),(.own 11 0 r_92.1.Items.length)]) rfl (.of nle trivial) rfl<|x8 (.int .i64 r_92.2) rfl (.of nle trivial) rfl<|a3i (a0c (v:=(.agg [(.int .i64 r_92.1.Kind),(.int .i64 r_92.1.N),(.str r_92.1.T),(.own 10 0 r_92.1.Keys.length),(.own 11 0 r_92.1.Items.length)])) (y':=(.agg [(.int .i64 r_92.1.Kind),(.int .i64 r_92.1.N),(.str r_92.1.T),(.own 10 0 r_92.1.Keys.length),(.own 11 0 r_92.1.Items.length)])) rfl rfl rfl trivial ⟨rfl,nle⟩ ⟨⟨rfl,trivial⟩,⟨⟨rfl,trivial⟩,⟨⟨rfl,trivial⟩,⟨⟨rfl,trivial⟩,⟨⟨rfl,trivial⟩,trivial⟩⟩⟩⟩⟩ rfl) trivial trivial<|?_
               refine l7 (.int .i64 r_92.2) rfl<|a0b<|?_;obtain rfl:=os hb1;exact ⟨[],[1,2,8,3,4,5,6,10,11],_,_,rfl,rfl,⟨.refl _,⟨.refl _,⟨.refl _,⟨.refl _,⟨.refl _,⟨.refl _,trivial⟩⟩⟩⟩⟩⟩,(.cons (.refl _) (.cons (.box (.agg (.cons (.refl _) (.cons (.refl _) (.cons (.refl _) (.cons (.of_eq (congrArg (AV.own _ 0) (by have h:=(hl70 0 _ _ _ _ rfl rfl);simpa using h.symm))) (.cons (.of_eq (congrArg (AV.own _ 0) (by have h:=(hl70 1 _ _ _ _ rfl rfl);simpa using h.symm))) .nil))))))) (.cons (.refl _) (.cons (.refl _) (.cons (.refl _) (.cons (.refl _) (.cons (.refl _) (.cons (.refl _) (.cons (.refl _) .nil)))))))))⟩
              ·refine a0r (a1m (v:=(.tup [(.agg [(.int .i64 r_92.1.Kind),(.int .i64 r_92.1.N),(.str r_92.1.T),(.own 9 0 r_92.1.Keys.length),(.own 10 0 r_92.1.Items.length)]),(.int .i64 r_92.2)])) (h':=[.row 1 (r_92.1.Keys.map AV.str),.row 5 (r_92.1.Items.map o5)]) (a8a _ _ _ er93) rfl (.cons (.of_eq (congrArg (AV.lst _) (tko r_88))) (.cons (.agg (.cons (.refl _) (.cons (.of_eq (congrArg (AV.lst _) (tko (enc:=(a0t 3 l9)) r_90.Cells))) .nil))) .nil)) (by simp only [a1e,a1c,List.length_map,y9,List.nil_append,List.append_nil,List.cons_append];rfl)) trivial ?_ ?_
               ·refine a0r (a1i (j:=9) (c:=(.agg [(.int .i64 0),(.int .i64 0),(.str []),.nil,.nil])) rfl trivial rfl rfl) (.inr ⟨⟨(.of nle trivial),rfl⟩,trivial⟩) trivial<|a0r (a1m (v:=(.tup [(.agg [(.int .i64 r_92.1.Kind),(.int .i64 r_92.1.N),(.str r_92.1.T),(.own 10 0 r_92.1.Keys.length),(.own 11 0 r_92.1.Items.length)]),(.int .i64 r_92.2)])) (h':=[.row 1 (r_92.1.Keys.map AV.str),.row 5 (r_92.1.Items.map o5)]) (a8a _ _ _ er93) rfl (.cons (.of_eq (congrArg (AV.lst _) (tko r_88))) (.cons (.agg (.cons (.refl _) (.cons (.of_eq (congrArg (AV.lst _) (tko (enc:=(a0t 3 l9)) r_90.Cells))) .nil))) .nil)) (by simp only [a1e,a1c,List.length_map,y9,List.nil_append,List.append_nil,List.cons_append];rfl)) trivial trivial<|?_
                refine l7 (.tup [(.agg [(.int .i64 r_92.1.Kind),(.int .i64 r_92.1.N),(.str r_92.1.T),(.own 10 0 r_92.1.Keys.length),(.own 11 0 r_92.1.Items.length)]),(.int .i64 r_92.2)]) rfl<|x8 (.agg [(.int .i64 r_92.1.Kind),(.int .i64 r_92.1.N),(.str r_92.1.T),(.own 10 0 r_92.1.Keys.length),(.own 11 0 r_92.1.Items.length)]) rfl (.of nle trivial) rfl<|x8 (.int .i64 r_92.2) rfl (.of nle trivial) rfl<|a3i (a0c (v:=(.agg [(.int .i64 r_92.1.Kind),(.int .i64 r_92.1.N),(.str r_92.1.T),(.own 10 0 r_92.1.Keys.length),(.own 11 0 r_92.1.Items.length)])) (y':=(.agg [(.int .i64 r_92.1.Kind),(.int .i64 r_92.1.N),(.str r_92.1.T),(.own 10 0 r_92.1.Keys.length),(.own 11 0 r_92.1.Items.length)])) rfl rfl rfl trivial ⟨rfl,nle⟩ ⟨⟨rfl,trivial⟩,⟨⟨rfl,trivial⟩,⟨⟨rfl,trivial⟩,⟨⟨rfl,trivial⟩,⟨⟨rfl,trivial⟩,trivial⟩⟩⟩⟩⟩ rfl) trivial trivial<|?_
                refine l7 (.int .i64 r_92.2) rfl<|a0b<|?_;obtain rfl:=os hb1;exact ⟨[],[1,2,9,3,4,5,6,10,11],_,_,rfl,rfl,⟨.refl _,⟨.refl _,⟨.refl _,⟨.refl _,⟨.refl _,⟨.refl _,trivial⟩⟩⟩⟩⟩⟩,(.cons (.refl _) (.cons (.box (.agg (.cons (.refl _) (.cons (.refl _) (.cons (.refl _) (.cons (.of_eq (congrArg (AV.own _ 0) (by have h:=(hl70 0 _ _ _ _ rfl rfl);simpa using h.symm))) (.cons (.of_eq (congrArg (AV.own _ 0) (by have h:=(hl70 1 _ _ _ _ rfl rfl);simpa using h.symm))) .nil))))))) (.cons (.refl _) (.cons (.refl _) (.cons (.refl _) (.cons (.refl _) (.cons (.refl _) (.cons (.refl _) (.cons (.refl _) .nil)))))))))⟩
               ·refine l7 (.tup [(.agg [(.int .i64 r_92.1.Kind),(.int .i64 r_92.1.N),(.str r_92.1.T),(.own 9 0 r_92.1.Keys.length),(.own 10 0 r_92.1.Items.length)]),(.int .i64 r_92.2)]) rfl<|x8 (.agg [(.int .i64 r_92.1.Kind),(.int .i64 r_92.1.N),(.str r_92.1.T),(.own 9 0 r_92.1.Keys.length),(.own 10 0 r_92.1.Items.length)]) rfl (.of nle trivial) rfl<|x8 (.int .i64 r_92.2) rfl (.of nle trivial) rfl<|a0r (a1i (j:=11) (c:=(.agg [(.int .i64 0),(.int .i64 0),(.str []),.nil,.nil])) rfl trivial rfl rfl) (.inr ⟨⟨(.of nle trivial),rfl⟩,trivial⟩) trivial<|a3i (a0c (v:=(.agg [(.int .i64 r_92.1.Kind),(.int .i64 r_92.1.N),(.str r_92.1.T),(.own 9 0 r_92.1.Keys.length),(.own 10 0 r_92.1.Items.length)])) (y':=(.agg [(.int .i64 r_92.1.Kind),(.int .i64 r_92.1.N),(.str r_92.1.T),(.own 9 0 r_92.1.Keys.length),(.own 10 0 r_92.1.Items.length)])) rfl rfl rfl trivial ⟨rfl,nle⟩ ⟨⟨rfl,trivial⟩,⟨⟨rfl,trivial⟩,⟨⟨rfl,trivial⟩,⟨⟨rfl,trivial⟩,⟨⟨rfl,trivial⟩,trivial⟩⟩⟩⟩⟩ rfl) trivial trivial<|?_
                refine l7 (.int .i64 r_92.2) rfl<|a0b<|?_;obtain rfl:=os hb1;exact ⟨[],[1,2,11,3,4,5,6,9,10],_,_,rfl,rfl,⟨.refl _,⟨.refl _,⟨.refl _,⟨.refl _,⟨.refl _,⟨.refl _,trivial⟩⟩⟩⟩⟩⟩,(.cons (.refl _) (.cons (.box (.agg (.cons (.refl _) (.cons (.refl _) (.cons (.refl _) (.cons (.of_eq (congrArg (AV.own _ 0) (by have h:=(hl70 0 _ _ _ _ rfl rfl);simpa using h.symm))) (.cons (.of_eq (congrArg (AV.own _ 0) (by have h:=(hl70 1 _ _ _ _ rfl rfl);simpa using h.symm))) .nil))))))) (.cons (.refl _) (.cons (.refl _) (.cons (.refl _) (.cons (.refl _) (.cons (.refl _) (.cons (.refl _) (.cons (.refl _) .nil)))))))))⟩
            ·obtain ⟨h1_81,x_82,x_83,x_84,x_85,x_86⟩:=p87
             refine o6<|o6<|?_
             obtain ⟨s110_97,hb1,hf⟩:=ob hf
             refine a2a ([(10,(.ptr 0 0 0)),(13,(.int .i64 r_68.1)),(110,(.bool s110_97))],[.box 5 (.agg [(.int .i64 r_32.1.Kind),(.int .i64 r_32.1.N),(.str r_32.1.T),(.own 1 0 r_68.2.Keys.length),(.own 2 0 r_68.2.Items.length)]),.row 1 (r_68.2.Keys.map AV.str),.row 5 (r_68.2.Items.map o5)]) ?_ ?_
             ·refine a0s ?_
              obtain ⟨r_99,er100,hb1⟩:=ob hb1
              rcases oi hb1 with ⟨d5b,hb1⟩ | ⟨d5b,hb1⟩
              ·refine x8 (.agg [(.int .i64 x_82),(.int .i64 x_83),(.str x_84),(.own 7 0 x_85.length),(.own 8 0 x_86.length)]) rfl (.of nle trivial) rfl<|x8 (.agg [(.int .i64 x_16),(.int .i64 x_17),(.str x_18),(.own 3 0 x_19.length),(.own 4 0 x_20.length)]) rfl (.of nle trivial) rfl<|y5 (a0v (a7i FUEL _ _ _ er100) rfl (.cons (leJ (x:=(⟨x_82,x_83,x_84,x_85,x_86⟩:o8)) (.agg (.cons (.refl _) (.cons (.refl _) (.cons (.refl _) (.cons (.of_eq (congrArg (AV.lst _) (tko (enc:=AV.str) x_85))) (.cons (.of_eq (congrArg (AV.lst _) (tko (enc:=o5) x_86))) .nil))))))) (.cons (leJ (x:=(⟨x_16,x_17,x_18,x_19,x_20⟩:o8)) (.agg (.cons (.refl _) (.cons (.refl _) (.cons (.refl _) (.cons (.of_eq (congrArg (AV.lst _) (tko (enc:=AV.str) x_19))) (.cons (.of_eq (congrArg (AV.lst _) (tko (enc:=o5) x_20))) .nil))))))) .nil)) rfl)<|?_
               refine x8 (.bool (!r_99)) rfl (.of trivial trivial) rfl<|l7 (.bool (!r_99)) rfl<|a1p (s:=106) (b:=true) rfl d5b<|a0g rfl rfl<|a0g rfl rfl<|a0g rfl rfl<|x8 (.bool true) rfl (.of trivial trivial) rfl<|a0b<|?_;obtain rfl:=os hb1;exact ⟨[],[1,5,6],_,_,rfl,rfl,⟨.refl _,⟨.refl _,⟨.refl _,trivial⟩⟩⟩,(.refl _)⟩
              ·refine x8 (.agg [(.int .i64 x_82),(.int .i64 x_83),(.str x_84),(.own 7 0 x_85.length),(.own 8 0 x_86.length)]) rfl (.of nle trivial) rfl<|x8 (.agg [(.int .i64 x_16),(.int .i64 x_17),(.str x_18),(.own 3 0 x_19.length),(.own 4 0 x_20.length)]) rfl (.of nle trivial) rfl<|y5 (a0v (a7i FUEL _ _ _ er100) rfl (.cons (leJ (x:=(⟨x_82,x_83,x_84,x_85,x_86⟩:o8)) (.agg (.cons (.refl _) (.cons (.refl _) (.cons (.refl _) (.cons (.of_eq (congrArg (AV.lst _) (tko (enc:=AV.str) x_85))) (.cons (.of_eq (congrArg (AV.lst _) (tko (enc:=o5) x_86))) .nil))))))) (.cons (leJ (x:=(⟨x_16,x_17,x_18,x_19,x_20⟩:o8)) (.agg (.cons (.refl _) (.cons (.refl _) (.cons (.refl _) (.cons (.of_eq (congrArg (AV.lst _) (tko (enc:=AV.str) x_19))) (.cons (.of_eq (congrArg (AV.lst _) (tko (enc:=o5) x_20))) .nil))))))) .nil)) rfl)<|?_
               refine x8 (.bool (!r_99)) rfl (.of trivial trivial) rfl<|l7 (.bool (!r_99)) rfl<|a1p (s:=106) (b:=false) rfl (bf d5b)<|s_on rfl<|l7 (.int .i64 h1_81) rfl<|s_on rfl<|l7 (.int .i64 w1_15) rfl<|s_on rfl<|x8 (.bool (h1_81 != w1_15)) rfl (.of rfl trivial) rfl<|x8 (.bool (h1_81 != w1_15)) rfl (.of trivial trivial) rfl<|a0b<|?_;obtain rfl:=os hb1;exact ⟨[],[1,5,6],_,_,rfl,rfl,⟨.refl _,⟨.refl _,⟨.refl _,trivial⟩⟩⟩,(.refl _)⟩
             ·rcases oi hf with ⟨c102,hf⟩ | ⟨c102,hf⟩
              ·refine y7 rfl c102<|sr<|l7 (.bool false) rfl<|dk<|a0d<|?_;obtain rfl:=os hf;exact a0e ⟨.of trivial trivial,trivial⟩ rfl (.refl _)
              ·refine y8 rfl (bf c102)<|a0h<|a0f<|sr<|l7 (.int .i64 1) rfl<|dk<|sr<|?_
               obtain ⟨r_103,er104,hf⟩:=ob hf
               refine x8 (.agg [(.int .i64 r_32.1.Kind),(.int .i64 r_32.1.N),(.str r_32.1.T),(.own 1 0 r_68.2.Keys.length),(.own 2 0 r_68.2.Items.length)]) rfl (.of nle trivial) rfl<|l7 (.int .i64 1) rfl<|y5 (a0v (b5l _ _ _ er104) rfl (.cons (leJ (x:=(⟨r_32.1.Kind,r_32.1.N,r_32.1.T,r_68.2.Keys,r_68.2.Items⟩:o8)) (.agg (.cons (.refl _) (.cons (.refl _) (.cons (.refl _) (.cons (.of_eq (congrArg (AV.lst _) (tko (enc:=AV.str) r_68.2.Keys))) (.cons (.of_eq (congrArg (AV.lst _) (tko (enc:=o5) r_68.2.Items))) .nil))))))) (.cons (.refl _) .nil)) rfl)<|l7 (.int .i64 r_103) rfl<|dk<|o6<|sr<|l7 (.int .i64 r_103) rfl<|x8 (.bool (decide (r_103 < 0))) rfl (.of rfl trivial) rfl<|?_
               refine dk<|?_
               rcases oi hf with ⟨c105,hf⟩ | ⟨c105,hf⟩
               ·refine y7 rfl c105<|sr<|l7 (.bool false) rfl<|dk<|a0d<|?_;obtain rfl:=os hf;exact a0e ⟨.of trivial trivial,trivial⟩ rfl (.refl _)
               ·refine y8 rfl (bf c105)<|a0h<|a0f<|o6<|sr<|l7 (.int .i64 r_103) rfl<|l7 (.int .i64 r_68.1) rfl<|x8 (.bool (r_103 != r_68.1)) rfl (.of rfl trivial) rfl<|dk<|?_
                rcases oi hf with ⟨c106,hf⟩ | ⟨c106,hf⟩
                ·refine y7 rfl c106<|sr<|l7 (.bool false) rfl<|dk<|a0d<|?_;obtain rfl:=os hf;exact a0e ⟨.of trivial trivial,trivial⟩ rfl (.refl _)
                ·refine y8 rfl (bf c106)<|a0h<|a0f<|sr<|l7 (.bool true) rfl<|dk<|a0d<|?_;obtain rfl:=os hf;exact a0e ⟨.of trivial trivial,trivial⟩ rfl (.refl _)

end Go.R
