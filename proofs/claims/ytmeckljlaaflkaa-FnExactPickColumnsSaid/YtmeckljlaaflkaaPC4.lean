/- Walks. -/
import Derived.Test.YtmeckljlaaflkaaPC3
set_option linter.all false
namespace Go.R
open Go Go.Proofs
set_option linter.unusedVariables false
set_option linter.unusedSimpArgs false
set_option maxHeartbeats 8000000
/- laws.FnExactPickColumns -/
def c8:ACode :=
 (.seq (.reg (tq 3 (.box 4 (.t 0)) (tq 4 (.box 2 (.t 1)) (tm 6 (.c (.bool false)) .done))))
 (.seq (.reg (tm 7 (.c (.int .i64 1048576)) .done))
 (.seq (.reg (tq 20 (.load 4 true (.t 3)) (tm 21 (.t 7) (tq 22 (.call 36 [(.t 20),(.t 21)]) (tm 7 (.t 22) .done)))))
 (.seq (.seq (.reg (tm 23 (.t 7) (tq 24 (.bin .lss (.t 23) (.c (.int .i64 0))) .done)))
 (.cond (.t 24) (.seq (.reg (tm 6 (.c (.bool true)) .done))
 .ret)
 .skip))
 (.seq (.reg (tq 25 (.load 2 true (.t 4)) (tm 26 (.t 7) (tq 27 (.call 37 [(.t 25),(.t 26)]) (tm 7 (.t 27) .done)))))
 (.seq (.seq (.reg (tm 28 (.t 7) (tq 29 (.bin .lss (.t 28) (.c (.int .i64 0))) .done)))
 (.cond (.t 29) (.seq (.reg (tm 6 (.c (.bool true)) .done))
 .ret)
 .skip))
 (.seq (.reg (tm 30 (.t 2) (tm 31 (.t 7) (tq 32 (.call 38 [(.t 30),(.t 31)]) (tm 7 (.t 32) .done)))))
 (.seq (.seq (.reg (tm 33 (.t 7) (tq 34 (.bin .lss (.t 33) (.c (.int .i64 0))) .done)))
 (.cond (.t 34) (.seq (.reg (tm 6 (.c (.bool true)) .done))
 .ret)
 .skip))
 (.seq (.reg (tq 36 (.load 4 true (.t 3)) (tq 38 (.load 2 true (.t 4)) (tm 40 (.t 2) (.l ⟨(some 37),none,.call 40 [(.t 36)]⟩ [⟨(some 38),none,.load 2 true (.t 4)⟩]
 (.l ⟨(some 39),none,.call 41 [(.t 38)]⟩ []
 (.l ⟨(some 41),none,.call 42 [(.t 40)]⟩ []
 (.l ⟨(some 42),none,.call 39 [(.t 37),(.t 39),(.t 41)]⟩ []
 (tm 35 (.t 42) (tq 43 (.extract 0 (.t 35)) (tq 44 (.extract 1 (.t 35)) (.l ⟨(some 8),none,.box 2 (.c (.agg [(.int .i64 0),.nil]))⟩ [⟨(some 38),none,.load 2 true (.t 4)⟩,⟨(some 36),none,.load 4 true (.t 3)⟩]
 (.l ⟨none,none,.store 2 (.t 8) (.t 43)⟩ []
 (tm 9 (.t 44) .done) .non) .non)))) (.l ⟨(some 8),none,.box 2 (.c (.agg [(.int .i64 0),.nil]))⟩ [⟨(some 38),none,.load 2 true (.t 4)⟩,⟨(some 36),none,.load 4 true (.t 3)⟩]
 (.l ⟨(some 42),none,.call 39 [(.t 37),(.t 39),(.t 41)]⟩ []
 (tm 35 (.t 42) (tq 43 (.extract 0 (.t 35)) (tq 44 (.extract 1 (.t 35)) (.l ⟨none,none,.store 2 (.t 8) (.t 43)⟩ []
 (tm 9 (.t 44) .done) .non)))) .non) .non)) (.l ⟨(some 8),none,.box 2 (.c (.agg [(.int .i64 0),.nil]))⟩ [⟨(some 38),none,.load 2 true (.t 4)⟩,⟨(some 36),none,.load 4 true (.t 3)⟩]
 (.l ⟨(some 41),none,.call 42 [(.t 40)]⟩ []
 (.l ⟨(some 42),none,.call 39 [(.t 37),(.t 39),(.t 41)]⟩ []
 (tm 35 (.t 42) (tq 43 (.extract 0 (.t 35)) (tq 44 (.extract 1 (.t 35)) (.l ⟨none,none,.store 2 (.t 8) (.t 43)⟩ []
 (tm 9 (.t 44) .done) .non)))) .non) .non) .non)) (.l ⟨(some 8),none,.box 2 (.c (.agg [(.int .i64 0),.nil]))⟩ [⟨(some 38),none,.load 2 true (.t 4)⟩,⟨(some 36),none,.load 4 true (.t 3)⟩]
 (.l ⟨(some 39),none,.call 41 [(.t 38)]⟩ []
 (.l ⟨(some 41),none,.call 42 [(.t 40)]⟩ []
 (.l ⟨(some 42),none,.call 39 [(.t 37),(.t 39),(.t 41)]⟩ []
 (tm 35 (.t 42) (tq 43 (.extract 0 (.t 35)) (tq 44 (.extract 1 (.t 35)) (.l ⟨none,none,.store 2 (.t 8) (.t 43)⟩ []
 (tm 9 (.t 44) .done) .non)))) .non) .non) .non) .non)) (.l ⟨(some 8),none,.box 2 (.c (.agg [(.int .i64 0),.nil]))⟩ [⟨(some 38),none,.load 2 true (.t 4)⟩,⟨(some 36),none,.load 4 true (.t 3)⟩]
 (.l ⟨(some 37),none,.call 40 [(.t 36)]⟩ [⟨(some 38),none,.load 2 true (.t 4)⟩]
 (.l ⟨(some 39),none,.call 41 [(.t 38)]⟩ []
 (.l ⟨(some 41),none,.call 42 [(.t 40)]⟩ []
 (.l ⟨(some 42),none,.call 39 [(.t 37),(.t 39),(.t 41)]⟩ []
 (tm 35 (.t 42) (tq 43 (.extract 0 (.t 35)) (tq 44 (.extract 1 (.t 35)) (.l ⟨none,none,.store 2 (.t 8) (.t 43)⟩ []
 (tm 9 (.t 44) .done) .non)))) .non) .non) .non) .non) .non))))))
 (.cut (.seq (.reg (tq 45 (.load 4 true (.t 3)) (tq 46 (.call 40 [(.t 45)]) (tq 10 (.box 4 (.c (.agg [(.str []),.nil,.nil,(.bool false)]))) (.q ⟨none,none,.store 4 (.t 10) (.t 46)⟩
 .done)))))
 (.seq (.reg (tq 47 (.load 2 true (.t 4)) (tq 48 (.call 41 [(.t 47)]) (tq 11 (.box 2 (.c (.agg [(.int .i64 0),.nil]))) (.q ⟨none,none,.store 2 (.t 11) (.t 48)⟩
 .done)))))
 (.seq (.reg (tm 49 (.t 2) (tq 50 (.call 42 [(.t 49)]) (tm 12 (.t 50) .done))))
 (.seq (.reg (tq 52 (.load 4 true (.t 10)) (tq 53 (.load 2 true (.t 11)) (tm 54 (.t 12) (tq 55 (.call 35 [(.t 52),(.t 53),(.t 54)]) (tm 51 (.t 55) (tq 56 (.extract 0 (.t 51)) (tq 57 (.extract 1 (.t 51)) (tq 13 (.box 2 (.c (.agg [(.int .i64 0),.nil]))) (.q ⟨none,none,.store 2 (.t 13) (.t 56)⟩
 (tm 14 (.t 57) .done)))))))))))
 (.seq (.seq (.reg (tq 58 (.load 2 true (.t 13)) (tq 59 (.load 2 true (.t 8)) (tq 60 (.call 43 [(.t 58),(.t 59)]) (tq 61 (.not (.t 60)) (tm 62 (.t 61) (tg 63 62 false (.mov (.t 14)) (tg 64 62 false (.mov (.t 9)) (tg 65 62 false (.bin .neq (.t 63) (.t 64)) (tq 66 (.pick (.t 62) (.c (.bool true)) (.t 65)) .done))))))))))
 (.cut (.cond (.t 66) (.seq (.reg (tm 6 (.c (.bool false)) .done))
 .ret)
 .skip)))
 (.seq (.seq (.reg (tq 67 (.load 4 true (.t 10)) (tq 68 (.load 4 true (.t 3)) (.l ⟨(some 69),none,.call 40 [(.t 68)]⟩ [⟨(some 67),none,.load 4 true (.t 10)⟩]
 (.l ⟨(some 70),none,.call 44 [(.t 67),(.t 69)]⟩ []
 (tq 71 (.not (.t 70)) .done) .non) .non))))
 (.cond (.t 71) (.seq (.reg (tm 6 (.c (.bool false)) .done))
 .ret)
 .skip))
 (.seq (.seq (.reg (tq 72 (.load 2 true (.t 11)) (tq 73 (.load 2 true (.t 4)) (.l ⟨(some 74),none,.call 41 [(.t 73)]⟩ [⟨(some 72),none,.load 2 true (.t 11)⟩]
 (.l ⟨(some 75),none,.call 43 [(.t 72),(.t 74)]⟩ []
 (tq 76 (.not (.t 75)) .done) .non) .non))))
 (.cond (.t 76) (.seq (.reg (tm 6 (.c (.bool false)) .done))
 .ret)
 .skip))
 (.seq (.seq (.reg (tm 77 (.t 12) (tm 78 (.t 2) (tq 79 (.call 42 [(.t 78)]) (tq 80 (.call 45 [(.t 77),(.t 79)]) (tq 81 (.not (.t 80)) .done))))))
 (.cond (.t 81) (.seq (.reg (tm 6 (.c (.bool false)) .done))
 .ret)
 .skip))
 (.seq (.reg (tm 15 (.c (.int .i64 1)) .done))
 (.seq (.reg (tq 82 (.load 4 true (.t 10)) (tm 83 (.t 15) (tq 84 (.call 46 [(.t 82),(.t 83)]) (tm 15 (.t 84) .done)))))
 (.seq (.reg (tq 85 (.load 2 true (.t 11)) (tm 86 (.t 15) (tq 87 (.call 47 [(.t 85),(.t 86)]) (tm 15 (.t 87) .done)))))
 (.seq (.reg (tm 88 (.t 12) (tm 89 (.t 15) (tq 90 (.call 48 [(.t 88),(.t 89)]) (tm 15 (.t 90) .done)))))
 (.seq (.seq (.reg (tm 91 (.t 15) (tq 92 (.bin .lss (.t 91) (.c (.int .i64 0))) (tm 93 (.t 92) (tg 94 93 false (.load 2 true (.t 13)) (tg 95 93 false (.load 2 true (.t 8)) (tg 96 93 false (.call 43 [(.t 94),(.t 95)]) (tg 97 93 false (.not (.t 96)) (tq 98 (.pick (.t 93) (.c (.bool true)) (.t 97)) (tm 99 (.t 98) (tg 100 99 false (.mov (.t 14)) (tg 101 99 false (.mov (.t 9)) (tg 102 99 false (.bin .neq (.t 100) (.t 101)) (tq 103 (.pick (.t 99) (.c (.bool true)) (.t 102)) .done))))))))))))))
 (.cut (.cond (.t 103) (.seq (.reg (tm 6 (.c (.bool false)) .done))
 .ret)
 .skip)))
 (.seq (.reg (tm 16 (.c (.int .i64 1)) .done))
 (.seq (.reg (tq 104 (.load 2 true (.t 13)) (tm 105 (.t 16) (tq 106 (.call 47 [(.t 104),(.t 105)]) (tm 16 (.t 106) .done)))))
 (.seq (.reg (tm 17 (.c (.int .i64 1)) .done))
 (.seq (.reg (tq 107 (.load 2 true (.t 13)) (tm 108 (.t 17) (tq 109 (.call 49 [(.t 107),(.t 108)]) (tm 17 (.t 109) .done)))))
 (.seq (.seq (.reg (tm 110 (.t 17) (tq 111 (.bin .lss (.t 110) (.c (.int .i64 0))) .done)))
 (.cond (.t 111) (.seq (.reg (tm 6 (.c (.bool false)) .done))
 .ret)
 .skip))
 (.seq (.seq (.reg (tm 112 (.t 17) (tm 113 (.t 16) (tq 114 (.bin .neq (.t 112) (.t 113)) .done))))
 (.cond (.t 114) (.seq (.reg (tm 6 (.c (.bool false)) .done))
 .ret)
 .skip))
 (.seq (.reg (tq 116 (.load 4 true (.t 3)) (tq 118 (.load 2 true (.t 4)) (tm 120 (.t 2) (.l ⟨(some 117),none,.call 40 [(.t 116)]⟩ [⟨(some 118),none,.load 2 true (.t 4)⟩]
 (.l ⟨(some 119),none,.call 41 [(.t 118)]⟩ []
 (.l ⟨(some 121),none,.call 42 [(.t 120)]⟩ []
 (.l ⟨(some 122),none,.call 35 [(.t 117),(.t 119),(.t 121)]⟩ []
 (tm 115 (.t 122) (tq 123 (.extract 0 (.t 115)) (tq 124 (.extract 1 (.t 115)) (.l ⟨(some 18),none,.box 2 (.c (.agg [(.int .i64 0),.nil]))⟩ [⟨(some 118),none,.load 2 true (.t 4)⟩,⟨(some 116),none,.load 4 true (.t 3)⟩]
 (.l ⟨none,none,.store 2 (.t 18) (.t 123)⟩ []
 (tm 19 (.t 124) .done) .non) .non)))) (.l ⟨(some 18),none,.box 2 (.c (.agg [(.int .i64 0),.nil]))⟩ [⟨(some 118),none,.load 2 true (.t 4)⟩,⟨(some 116),none,.load 4 true (.t 3)⟩]
 (.l ⟨(some 122),none,.call 35 [(.t 117),(.t 119),(.t 121)]⟩ []
 (tm 115 (.t 122) (tq 123 (.extract 0 (.t 115)) (tq 124 (.extract 1 (.t 115)) (.l ⟨none,none,.store 2 (.t 18) (.t 123)⟩ []
 (tm 19 (.t 124) .done) .non)))) .non) .non)) (.l ⟨(some 18),none,.box 2 (.c (.agg [(.int .i64 0),.nil]))⟩ [⟨(some 118),none,.load 2 true (.t 4)⟩,⟨(some 116),none,.load 4 true (.t 3)⟩]
 (.l ⟨(some 121),none,.call 42 [(.t 120)]⟩ []
 (.l ⟨(some 122),none,.call 35 [(.t 117),(.t 119),(.t 121)]⟩ []
 (tm 115 (.t 122) (tq 123 (.extract 0 (.t 115)) (tq 124 (.extract 1 (.t 115)) (.l ⟨none,none,.store 2 (.t 18) (.t 123)⟩ []
 (tm 19 (.t 124) .done) .non)))) .non) .non) .non)) (.l ⟨(some 18),none,.box 2 (.c (.agg [(.int .i64 0),.nil]))⟩ [⟨(some 118),none,.load 2 true (.t 4)⟩,⟨(some 116),none,.load 4 true (.t 3)⟩]
 (.l ⟨(some 119),none,.call 41 [(.t 118)]⟩ []
 (.l ⟨(some 121),none,.call 42 [(.t 120)]⟩ []
 (.l ⟨(some 122),none,.call 35 [(.t 117),(.t 119),(.t 121)]⟩ []
 (tm 115 (.t 122) (tq 123 (.extract 0 (.t 115)) (tq 124 (.extract 1 (.t 115)) (.l ⟨none,none,.store 2 (.t 18) (.t 123)⟩ []
 (tm 19 (.t 124) .done) .non)))) .non) .non) .non) .non)) (.l ⟨(some 18),none,.box 2 (.c (.agg [(.int .i64 0),.nil]))⟩ [⟨(some 118),none,.load 2 true (.t 4)⟩,⟨(some 116),none,.load 4 true (.t 3)⟩]
 (.l ⟨(some 117),none,.call 40 [(.t 116)]⟩ [⟨(some 118),none,.load 2 true (.t 4)⟩]
 (.l ⟨(some 119),none,.call 41 [(.t 118)]⟩ []
 (.l ⟨(some 121),none,.call 42 [(.t 120)]⟩ []
 (.l ⟨(some 122),none,.call 35 [(.t 117),(.t 119),(.t 121)]⟩ []
 (tm 115 (.t 122) (tq 123 (.extract 0 (.t 115)) (tq 124 (.extract 1 (.t 115)) (.l ⟨none,none,.store 2 (.t 18) (.t 123)⟩ []
 (tm 19 (.t 124) .done) .non)))) .non) .non) .non) .non) .non))))))
 (.cut (.seq (.seq (.reg (tq 125 (.load 2 true (.t 18)) (tq 126 (.load 2 true (.t 8)) (tq 127 (.call 43 [(.t 125),(.t 126)]) (tq 128 (.not (.t 127)) (tm 129 (.t 128) (tg 130 129 false (.mov (.t 19)) (tg 131 129 false (.mov (.t 9)) (tg 132 129 false (.bin .neq (.t 130) (.t 131)) (tq 133 (.pick (.t 129) (.c (.bool true)) (.t 132)) .done))))))))))
 (.cut (.cond (.t 133) (.seq (.reg (tm 6 (.c (.bool false)) .done))
 .ret)
 .skip)))
 (.seq (.reg (tm 17 (.c (.int .i64 1)) .done))
 (.seq (.reg (tq 134 (.load 2 true (.t 13)) (tm 135 (.t 17) (tq 136 (.call 49 [(.t 134),(.t 135)]) (tm 17 (.t 136) .done)))))
 (.seq (.seq (.reg (tm 137 (.t 17) (tq 138 (.bin .lss (.t 137) (.c (.int .i64 0))) .done)))
 (.cond (.t 138) (.seq (.reg (tm 6 (.c (.bool false)) .done))
 .ret)
 .skip))
 (.seq (.seq (.reg (tm 139 (.t 17) (tm 140 (.t 16) (tq 141 (.bin .neq (.t 139) (.t 140)) .done))))
 (.cond (.t 141) (.seq (.reg (tm 6 (.c (.bool false)) .done))
 .ret)
 .skip))
 (.seq (.reg (tm 6 (.c (.bool true)) .done))
 .ret)))))))))))))))))))))))))))))))))))))
theorem fc8:fcomp Try.prog Try.f8 = some (c8.erase,[.mov (.t 6)],142):=by kernel_rfl
def laws_FnExactPickColumns (aT_1:GTable) (aR_2:GRow) (aNames_3:(List Str)):Option Bool :=
    (laws_szTable aT_1 1048576).bind fun r_4 =>
    if (decide (r_4 < 0)) then
    some true
    else
    (laws_szRow aR_2 r_4).bind fun r_7 =>
    if (decide (r_7 < 0)) then
    some true
    else
    (laws_szStringS aNames_3 r_7).bind fun r_10 =>
    if (decide (r_10 < 0)) then
    some true
    else
    (((laws_toTable aT_1).bind fun r_25 =>
    (laws_toRow aR_2).bind fun r_27 =>
    (laws_toStringS aNames_3).bind fun r_29 =>
    (spec_PickColumns r_25 r_27 r_29).bind fun r_31 =>
    some (r_31.2,r_31.1.Id,r_31.1.Cells):Option (Int × Int × (List (List GAtom))))).bind fun p24 =>
    (match p24 with
    | (w1_21,x_22,x_23) =>
    (laws_toTable aT_1).bind fun r_33 =>
    (laws_toRow aR_2).bind fun r_35 =>
    (laws_toStringS aNames_3).bind fun r_37 =>
    (impl_PickColumns r_33 r_35 r_37).bind fun r_39 =>
    (((laws_eqRow r_39.1 (⟨x_22,x_23⟩:GRow)).bind fun r_46 =>
    if (!r_46) then
    some true
    else
    some (r_39.2 != w1_21):Option Bool)).bind fun s66_44 =>
    if s66_44 then
    some false
    else
    (laws_toTable aT_1).bind fun r_50 =>
    (laws_eqTable r_33 r_50).bind fun r_52 =>
    if (!r_52) then
    some false
    else
    (laws_toRow aR_2).bind fun r_55 =>
    (laws_eqRow r_35 r_55).bind fun r_57 =>
    if (!r_57) then
    some false
    else
    (laws_toStringS aNames_3).bind fun r_60 =>
    (laws_eqStringS r_37 r_60).bind fun r_62 =>
    if (!r_62) then
    some false
    else
    (laws_markTable r_33 1).bind fun r_65 =>
    (laws_markRow r_35 r_65.1).bind fun r_68 =>
    (laws_markStringS r_37 r_68.1).bind fun r_71 =>
    ((if (decide (r_71.1 < 0)) then
    some true
    else
    (laws_eqRow r_39.1 (⟨x_22,x_23⟩:GRow)).bind fun r_80 =>
    some (bif (!r_80) then true else (r_39.2 != w1_21)):Option Bool)).bind fun s103_77 =>
    if s103_77 then
    some false
    else
    (laws_markRow r_39.1 1).bind fun r_83 =>
    (laws_heldRow (⟨r_39.1.Id,r_83.2.Cells⟩:GRow) 1).bind fun r_86 =>
    if (decide (r_86 < 0)) then
    some false
    else
    if (r_86 != r_83.1) then
    some false
    else
    (((laws_toTable aT_1).bind fun r_102 =>
    (laws_toRow aR_2).bind fun r_104 =>
    (laws_toStringS aNames_3).bind fun r_106 =>
    (impl_PickColumns r_102 r_104 r_106).bind fun r_108 =>
    some (r_108.2,r_108.1.Id,r_108.1.Cells):Option (Int × Int × (List (List GAtom))))).bind fun p101 =>
    (match p101 with
    | (h1_98,x_99,x_100) =>
    (((laws_eqRow (⟨x_99,x_100⟩:GRow) (⟨x_22,x_23⟩:GRow)).bind fun r_115 =>
    if (!r_115) then
    some true
    else
    some (h1_98 != w1_21):Option Bool)).bind fun s133_113 =>
    if s133_113 then
    some false
    else
    (laws_heldRow (⟨r_39.1.Id,r_83.2.Cells⟩:GRow) 1).bind fun r_119 =>
    if (decide (r_119 < 0)) then
    some false
    else
    if (r_119 != r_83.1) then
    some false
    else
    some true))
theorem w_laws_FnExactPickColumns (aT_1:GTable) (aR_2:GRow) (aNames_3:(List Str)) (r:Bool) (hf:laws_FnExactPickColumns aT_1 aR_2 aNames_3 = some r):CallOK Try.prog 8 .flat [(encGTable aT_1),(encGRow aR_2),(.lst 1 (aNames_3.map AV.str))] (.bool r):=by
 refine CallOK.of_awp' (md:=⟨true,true⟩) (fun _ => rfl) (fun h => by cases h) (fun h => by cases h) mixed Try.func8 fc8 nle ?_;rw [argT_eq];unfold laws_FnExactPickColumns at hf;unfold c8;refine (show awp Try.prog ⟨true,true⟩ 0 _ (ofL [(0,(encGTable aT_1)),(1,(encGRow aR_2)),(2,(.lst 1 (aNames_3.map AV.str)))]) [] _ from ?_);refine sr<|s_do (o_box (j:=0) (c:=(.agg [(.str aT_1.Name),(.lst 8 (aT_1.Columns.map encGColumn)),(.lst 1 (aT_1.Unique.map encI)),(.bool aT_1.Root)])) rfl trivial rfl rfl)<|s_do (o_box (j:=1) (c:=(.agg [(.int .i64 aR_2.Id),(.lst 1 (aR_2.Cells.map (encL 3 encGAtom)))])) rfl trivial rfl rfl)<|s_mov (.bool false) rfl<|dk<|sr<|?_
 refine s_mov (.int .i64 1048576) rfl<|dk<|sr<|?_
 obtain ⟨r_4,er5,hf⟩:=ob hf
 refine s_q (.agg [(.str aT_1.Name),(.lst 8 (aT_1.Columns.map encGColumn)),(.lst 1 (aT_1.Unique.map encI)),(.bool aT_1.Root)]) rfl (.of nle trivial) rfl<|s_mov (.int .i64 1048576) rfl<|s_do (o_call (w_laws_szTable _ _ _ er5) rfl (.refl _) rfl)<|s_mov (.int .i64 r_4) rfl<|dk<|awp_seq<|sr<|s_mov (.int .i64 r_4) rfl<|s_q (.bool (decide (r_4 < 0))) rfl (.of rfl trivial) rfl<|dk<|?_
 rcases oi hf with ⟨c6,hf⟩ | ⟨c6,hf⟩
 ·refine w_condt rfl c6<|sr<|s_mov (.bool true) rfl<|dk<|w_ret<|?_;obtain rfl:=os hf;exact r_flat ⟨.of trivial trivial,trivial⟩ rfl (.refl _)
 ·refine w_condf rfl (bf c6)<|w_skip<|k_seq<|sr<|?_
  obtain ⟨r_7,er8,hf⟩:=ob hf
  refine s_q (.agg [(.int .i64 aR_2.Id),(.lst 1 (aR_2.Cells.map (encL 3 encGAtom)))]) rfl (.of nle trivial) rfl<|s_mov (.int .i64 r_4) rfl<|s_do (o_call (w_laws_szRow _ _ _ er8) rfl (.refl _) rfl)<|s_mov (.int .i64 r_7) rfl<|dk<|awp_seq<|sr<|s_mov (.int .i64 r_7) rfl<|s_q (.bool (decide (r_7 < 0))) rfl (.of rfl trivial) rfl<|dk<|?_
  rcases oi hf with ⟨c9,hf⟩ | ⟨c9,hf⟩
  ·refine w_condt rfl c9<|sr<|s_mov (.bool true) rfl<|dk<|w_ret<|?_;obtain rfl:=os hf;exact r_flat ⟨.of trivial trivial,trivial⟩ rfl (.refl _)
  ·refine w_condf rfl (bf c9)<|w_skip<|k_seq<|sr<|?_
   obtain ⟨r_10,er11,hf⟩:=ob hf
   refine s_mov (.lst 1 (aNames_3.map AV.str)) rfl<|s_mov (.int .i64 r_7) rfl<|s_do (o_call (w_laws_szStringS _ _ _ er11) rfl (.refl _) rfl)<|s_mov (.int .i64 r_10) rfl<|dk<|awp_seq<|sr<|s_mov (.int .i64 r_10) rfl<|s_q (.bool (decide (r_10 < 0))) rfl (.of rfl trivial) rfl<|dk<|?_
   rcases oi hf with ⟨c12,hf⟩ | ⟨c12,hf⟩
   ·refine w_condt rfl c12<|sr<|s_mov (.bool true) rfl<|dk<|w_ret<|?_;obtain rfl:=os hf;exact r_flat ⟨.of trivial trivial,trivial⟩ rfl (.refl _)
   ·refine w_condf rfl (bf c12)<|w_skip<|k_seq<|awp_seq<|?_
    obtain ⟨p24,hb1,hf⟩:=ob hf
    refine awp_cut ([(2,(.lst 1 (aNames_3.map AV.str))),(3,(.ptr 0 0 0)),(4,(.ptr 1 0 0)),(8,(.ptr 2 0 0)),(9,(.int .i64 p24.1))],[.box 4 (.agg [(.str aT_1.Name),(.lst 8 (aT_1.Columns.map encGColumn)),(.lst 1 (aT_1.Unique.map encI)),(.bool aT_1.Root)]),.box 2 (.agg [(.int .i64 aR_2.Id),(.lst 1 (aR_2.Cells.map (encL 3 encGAtom)))]),.box 2 (.agg [(.int .i64 p24.2.1),(.own 3 0 p24.2.2.length)]),.row 1 (p24.2.2.map (encL 3 encGAtom))]) ?_ ?_
    ·refine w_reg ?_
     obtain ⟨r_25,er26,hb1⟩:=ob hb1
     obtain ⟨r_27,er28,hb1⟩:=ob hb1
     obtain ⟨r_29,er30,hb1⟩:=ob hb1
     obtain ⟨r_31,er32,hb1⟩:=ob hb1
     refine s_q (.agg [(.str aT_1.Name),(.lst 8 (aT_1.Columns.map encGColumn)),(.lst 1 (aT_1.Unique.map encI)),(.bool aT_1.Root)]) rfl (.of nle trivial) rfl<|s_q (.agg [(.int .i64 aR_2.Id),(.lst 1 (aR_2.Cells.map (encL 3 encGAtom)))]) rfl (.of nle trivial) rfl<|s_mov (.lst 1 (aNames_3.map AV.str)) rfl<|?_;refine s_dol (o_callf (v:=(.agg [(.str r_25.Name),(.own 2 0 r_25.Columns.length),(.own 3 0 r_25.Unique.length),(.bool r_25.Root)])) (h':=[.row 8 (r_25.Columns.map encGColumn),.row 1 (r_25.Unique.map encI)]) (w_laws_toTable _ _ er26) rfl (.refl _) (by simp only [openV,openVs,List.length_map,encGTable_eq,List.nil_append,List.append_nil,List.cons_append];rfl)) (.inr ⟨⟨(.of nle trivial),rfl⟩,trivial⟩) ?_ ?_
     ·refine s_dol (o_box (j:=2) (c:=(.agg [(.int .i64 0),.nil])) rfl trivial rfl rfl) (.inr ⟨⟨(.of nle trivial),rfl⟩,⟨⟨(.of nle trivial),rfl⟩,trivial⟩⟩) trivial<|s_dol (o_callf (v:=(.agg [(.str r_25.Name),(.own 3 0 r_25.Columns.length),(.own 4 0 r_25.Unique.length),(.bool r_25.Root)])) (h':=[.row 8 (r_25.Columns.map encGColumn),.row 1 (r_25.Unique.map encI)]) (w_laws_toTable _ _ er26) rfl (.refl _) (by simp only [openV,openVs,List.length_map,encGTable_eq,List.nil_append,List.append_nil,List.cons_append];rfl)) (.inr ⟨⟨(.of nle trivial),rfl⟩,trivial⟩) trivial<|s_dol (o_callf (v:=(.agg [(.int .i64 r_27.Id),(.own 5 0 r_27.Cells.length)])) (h':=[.row 1 (r_27.Cells.map (encL 3 encGAtom))]) (w_laws_toRow _ _ er28) rfl (.refl _) (by simp only [openV,openVs,List.length_map,encGRow_eq,List.nil_append,List.append_nil,List.cons_append];rfl)) trivial trivial<|?_
      refine s_dol (o_callf (v:=(.own 6 0 r_29.length)) (h':=[.row 1 (r_29.map AV.str)]) (w_laws_toStringS _ _ er30) rfl (.refl _) (by simp only [openV,openVs,List.length_map,List.nil_append,List.append_nil,List.cons_append];rfl)) trivial trivial<|s_dol (o_callf (v:=(.tup [(.agg [(.int .i64 r_31.1.Id),(.own 7 0 r_31.1.Cells.length)]),(.int .i64 r_31.2)])) (h':=[.row 1 (r_31.1.Cells.map (encL 3 encGAtom))]) (w_spec_PickColumns _ _ _ _ er32) rfl (.cons (.agg (.cons (.refl _) (.cons (.of_eq (congrArg (AV.lst _) (tko (enc:=encGColumn) r_25.Columns))) (.cons (.of_eq (congrArg (AV.lst _) (tko (enc:=encI) r_25.Unique))) (.cons (.refl _) .nil))))) (.cons (.agg (.cons (.refl _) (.cons (.of_eq (congrArg (AV.lst _) (tko (enc:=(encL 3 encGAtom)) r_27.Cells))) .nil))) (.cons (.of_eq (congrArg (AV.lst _) (tko r_29))) .nil))) (by simp only [openV,openVs,List.length_map,encGRow_eq,List.nil_append,List.append_nil,List.cons_append];rfl)) trivial trivial<|?_
      refine s_mov (.tup [(.agg [(.int .i64 r_31.1.Id),(.own 7 0 r_31.1.Cells.length)]),(.int .i64 r_31.2)]) rfl<|s_q (.agg [(.int .i64 r_31.1.Id),(.own 7 0 r_31.1.Cells.length)]) rfl (.of nle trivial) rfl<|s_q (.int .i64 r_31.2) rfl (.of nle trivial) rfl<|s_dol0 (o_storebox (v:=(.agg [(.int .i64 r_31.1.Id),(.own 7 0 r_31.1.Cells.length)])) (y':=(.agg [(.int .i64 r_31.1.Id),(.own 7 0 r_31.1.Cells.length)])) rfl rfl rfl trivial ⟨rfl,nle⟩ ⟨⟨rfl,trivial⟩,⟨⟨rfl,trivial⟩,trivial⟩⟩ rfl) trivial trivial<|s_mov (.int .i64 r_31.2) rfl<|w_done<|?_;obtain rfl:=os hb1;exact ⟨[],[0,1,2,7],_,_,rfl,rfl,⟨.refl _,⟨.refl _,⟨.refl _,⟨.refl _,⟨.refl _,trivial⟩⟩⟩⟩⟩,(.refl _)⟩
     ·refine s_dol (o_callf (v:=(.agg [(.int .i64 r_27.Id),(.own 4 0 r_27.Cells.length)])) (h':=[.row 1 (r_27.Cells.map (encL 3 encGAtom))]) (w_laws_toRow _ _ er28) rfl (.refl _) (by simp only [openV,openVs,List.length_map,encGRow_eq,List.nil_append,List.append_nil,List.cons_append];rfl)) trivial ?_ ?_
      ·refine s_dol (o_box (j:=4) (c:=(.agg [(.int .i64 0),.nil])) rfl trivial rfl rfl) (.inr ⟨⟨(.of nle trivial),rfl⟩,⟨⟨(.of nle trivial),rfl⟩,trivial⟩⟩) trivial<|s_dol (o_callf (v:=(.agg [(.int .i64 r_27.Id),(.own 5 0 r_27.Cells.length)])) (h':=[.row 1 (r_27.Cells.map (encL 3 encGAtom))]) (w_laws_toRow _ _ er28) rfl (.refl _) (by simp only [openV,openVs,List.length_map,encGRow_eq,List.nil_append,List.append_nil,List.cons_append];rfl)) trivial trivial<|s_dol (o_callf (v:=(.own 6 0 r_29.length)) (h':=[.row 1 (r_29.map AV.str)]) (w_laws_toStringS _ _ er30) rfl (.refl _) (by simp only [openV,openVs,List.length_map,List.nil_append,List.append_nil,List.cons_append];rfl)) trivial trivial<|?_
       refine s_dol (o_callf (v:=(.tup [(.agg [(.int .i64 r_31.1.Id),(.own 7 0 r_31.1.Cells.length)]),(.int .i64 r_31.2)])) (h':=[.row 1 (r_31.1.Cells.map (encL 3 encGAtom))]) (w_spec_PickColumns _ _ _ _ er32) rfl (.cons (.agg (.cons (.refl _) (.cons (.of_eq (congrArg (AV.lst _) (tko (enc:=encGColumn) r_25.Columns))) (.cons (.of_eq (congrArg (AV.lst _) (tko (enc:=encI) r_25.Unique))) (.cons (.refl _) .nil))))) (.cons (.agg (.cons (.refl _) (.cons (.of_eq (congrArg (AV.lst _) (tko (enc:=(encL 3 encGAtom)) r_27.Cells))) .nil))) (.cons (.of_eq (congrArg (AV.lst _) (tko r_29))) .nil))) (by simp only [openV,openVs,List.length_map,encGRow_eq,List.nil_append,List.append_nil,List.cons_append];rfl)) trivial trivial ?_
       refine s_mov (.tup [(.agg [(.int .i64 r_31.1.Id),(.own 7 0 r_31.1.Cells.length)]),(.int .i64 r_31.2)]) rfl<|s_q (.agg [(.int .i64 r_31.1.Id),(.own 7 0 r_31.1.Cells.length)]) rfl (.of nle trivial) rfl<|s_q (.int .i64 r_31.2) rfl (.of nle trivial) rfl<|s_dol0 (o_storebox (v:=(.agg [(.int .i64 r_31.1.Id),(.own 7 0 r_31.1.Cells.length)])) (y':=(.agg [(.int .i64 r_31.1.Id),(.own 7 0 r_31.1.Cells.length)])) rfl rfl rfl trivial ⟨rfl,nle⟩ ⟨⟨rfl,trivial⟩,⟨⟨rfl,trivial⟩,trivial⟩⟩ rfl) trivial trivial<|s_mov (.int .i64 r_31.2) rfl<|w_done<|?_;obtain rfl:=os hb1;exact ⟨[],[0,1,4,7],_,_,rfl,rfl,⟨.refl _,⟨.refl _,⟨.refl _,⟨.refl _,⟨.refl _,trivial⟩⟩⟩⟩⟩,(.refl _)⟩
      ·refine s_dol (o_callf (v:=(.own 5 0 r_29.length)) (h':=[.row 1 (r_29.map AV.str)]) (w_laws_toStringS _ _ er30) rfl (.refl _) (by simp only [openV,openVs,List.length_map,List.nil_append,List.append_nil,List.cons_append];rfl)) trivial ?_ ?_
       ·refine s_dol (o_box (j:=5) (c:=(.agg [(.int .i64 0),.nil])) rfl trivial rfl rfl) (.inr ⟨⟨(.of nle trivial),rfl⟩,⟨⟨(.of nle trivial),rfl⟩,trivial⟩⟩) trivial<|s_dol (o_callf (v:=(.own 6 0 r_29.length)) (h':=[.row 1 (r_29.map AV.str)]) (w_laws_toStringS _ _ er30) rfl (.refl _) (by simp only [openV,openVs,List.length_map,List.nil_append,List.append_nil,List.cons_append];rfl)) trivial trivial<|s_dol (o_callf (v:=(.tup [(.agg [(.int .i64 r_31.1.Id),(.own 7 0 r_31.1.Cells.length)]),(.int .i64 r_31.2)])) (h':=[.row 1 (r_31.1.Cells.map (encL 3 encGAtom))]) (w_spec_PickColumns _ _ _ _ er32) rfl (.cons (.agg (.cons (.refl _) (.cons (.of_eq (congrArg (AV.lst _) (tko (enc:=encGColumn) r_25.Columns))) (.cons (.of_eq (congrArg (AV.lst _) (tko (enc:=encI) r_25.Unique))) (.cons (.refl _) .nil))))) (.cons (.agg (.cons (.refl _) (.cons (.of_eq (congrArg (AV.lst _) (tko (enc:=(encL 3 encGAtom)) r_27.Cells))) .nil))) (.cons (.of_eq (congrArg (AV.lst _) (tko r_29))) .nil))) (by simp only [openV,openVs,List.length_map,encGRow_eq,List.nil_append,List.append_nil,List.cons_append];rfl)) trivial trivial<|?_
        refine s_mov (.tup [(.agg [(.int .i64 r_31.1.Id),(.own 7 0 r_31.1.Cells.length)]),(.int .i64 r_31.2)]) rfl<|s_q (.agg [(.int .i64 r_31.1.Id),(.own 7 0 r_31.1.Cells.length)]) rfl (.of nle trivial) rfl<|s_q (.int .i64 r_31.2) rfl (.of nle trivial) rfl<|s_dol0 (o_storebox (v:=(.agg [(.int .i64 r_31.1.Id),(.own 7 0 r_31.1.Cells.length)])) (y':=(.agg [(.int .i64 r_31.1.Id),(.own 7 0 r_31.1.Cells.length)])) rfl rfl rfl trivial ⟨rfl,nle⟩ ⟨⟨rfl,trivial⟩,⟨⟨rfl,trivial⟩,trivial⟩⟩ rfl) trivial trivial<|s_mov (.int .i64 r_31.2) rfl<|w_done<|?_;obtain rfl:=os hb1;exact ⟨[],[0,1,5,7],_,_,rfl,rfl,⟨.refl _,⟨.refl _,⟨.refl _,⟨.refl _,⟨.refl _,trivial⟩⟩⟩⟩⟩,(.refl _)⟩
       ·refine s_dol (o_callf (v:=(.tup [(.agg [(.int .i64 r_31.1.Id),(.own 6 0 r_31.1.Cells.length)]),(.int .i64 r_31.2)])) (h':=[.row 1 (r_31.1.Cells.map (encL 3 encGAtom))]) (w_spec_PickColumns _ _ _ _ er32) rfl (.cons (.agg (.cons (.refl _) (.cons (.of_eq (congrArg (AV.lst _) (tko (enc:=encGColumn) r_25.Columns))) (.cons (.of_eq (congrArg (AV.lst _) (tko (enc:=encI) r_25.Unique))) (.cons (.refl _) .nil))))) (.cons (.agg (.cons (.refl _) (.cons (.of_eq (congrArg (AV.lst _) (tko (enc:=(encL 3 encGAtom)) r_27.Cells))) .nil))) (.cons (.of_eq (congrArg (AV.lst _) (tko r_29))) .nil))) (by simp only [openV,openVs,List.length_map,encGRow_eq,List.nil_append,List.append_nil,List.cons_append];rfl)) trivial ?_ ?_
        ·refine s_dol (o_box (j:=6) (c:=(.agg [(.int .i64 0),.nil])) rfl trivial rfl rfl) (.inr ⟨⟨(.of nle trivial),rfl⟩,⟨⟨(.of nle trivial),rfl⟩,trivial⟩⟩) trivial<|s_dol (o_callf (v:=(.tup [(.agg [(.int .i64 r_31.1.Id),(.own 7 0 r_31.1.Cells.length)]),(.int .i64 r_31.2)])) (h':=[.row 1 (r_31.1.Cells.map (encL 3 encGAtom))]) (w_spec_PickColumns _ _ _ _ er32) rfl (.cons (.agg (.cons (.refl _) (.cons (.of_eq (congrArg (AV.lst _) (tko (enc:=encGColumn) r_25.Columns))) (.cons (.of_eq (congrArg (AV.lst _) (tko (enc:=encI) r_25.Unique))) (.cons (.refl _) .nil))))) (.cons (.agg (.cons (.refl _) (.cons (.of_eq (congrArg (AV.lst _) (tko (enc:=(encL 3 encGAtom)) r_27.Cells))) .nil))) (.cons (.of_eq (congrArg (AV.lst _) (tko r_29))) .nil))) (by simp only [openV,openVs,List.length_map,encGRow_eq,List.nil_append,List.append_nil,List.cons_append];rfl)) trivial trivial<|?_
         refine s_mov (.tup [(.agg [(.int .i64 r_31.1.Id),(.own 7 0 r_31.1.Cells.length)]),(.int .i64 r_31.2)]) rfl<|s_q (.agg [(.int .i64 r_31.1.Id),(.own 7 0 r_31.1.Cells.length)]) rfl (.of nle trivial) rfl<|s_q (.int .i64 r_31.2) rfl (.of nle trivial) rfl<|s_dol0 (o_storebox (v:=(.agg [(.int .i64 r_31.1.Id),(.own 7 0 r_31.1.Cells.length)])) (y':=(.agg [(.int .i64 r_31.1.Id),(.own 7 0 r_31.1.Cells.length)])) rfl rfl rfl trivial ⟨rfl,nle⟩ ⟨⟨rfl,trivial⟩,⟨⟨rfl,trivial⟩,trivial⟩⟩ rfl) trivial trivial<|s_mov (.int .i64 r_31.2) rfl<|w_done<|?_;obtain rfl:=os hb1;exact ⟨[],[0,1,6,7],_,_,rfl,rfl,⟨.refl _,⟨.refl _,⟨.refl _,⟨.refl _,⟨.refl _,trivial⟩⟩⟩⟩⟩,(.refl _)⟩
        ·refine s_mov (.tup [(.agg [(.int .i64 r_31.1.Id),(.own 6 0 r_31.1.Cells.length)]),(.int .i64 r_31.2)]) rfl<|s_q (.agg [(.int .i64 r_31.1.Id),(.own 6 0 r_31.1.Cells.length)]) rfl (.of nle trivial) rfl<|s_q (.int .i64 r_31.2) rfl (.of nle trivial) rfl<|s_dol (o_box (j:=7) (c:=(.agg [(.int .i64 0),.nil])) rfl trivial rfl rfl) (.inr ⟨⟨(.of nle trivial),rfl⟩,⟨⟨(.of nle trivial),rfl⟩,trivial⟩⟩) trivial<|s_dol0 (o_storebox (v:=(.agg [(.int .i64 r_31.1.Id),(.own 6 0 r_31.1.Cells.length)])) (y':=(.agg [(.int .i64 r_31.1.Id),(.own 6 0 r_31.1.Cells.length)])) rfl rfl rfl trivial ⟨rfl,nle⟩ ⟨⟨rfl,trivial⟩,⟨⟨rfl,trivial⟩,trivial⟩⟩ rfl) trivial trivial<|s_mov (.int .i64 r_31.2) rfl<|?_
         refine w_done ?_;obtain rfl:=os hb1;exact ⟨[],[0,1,7,6],_,_,rfl,rfl,⟨.refl _,⟨.refl _,⟨.refl _,⟨.refl _,⟨.refl _,trivial⟩⟩⟩⟩⟩,(.refl _)⟩
    ·obtain ⟨w1_21,x_22,x_23⟩:=p24
     refine sr<|?_
     obtain ⟨r_33,er34,hf⟩:=ob hf
     refine s_q (.agg [(.str aT_1.Name),(.lst 8 (aT_1.Columns.map encGColumn)),(.lst 1 (aT_1.Unique.map encI)),(.bool aT_1.Root)]) rfl (.of nle trivial) rfl<|s_do (o_callf (v:=(.agg [(.str r_33.Name),(.own 4 0 r_33.Columns.length),(.own 5 0 r_33.Unique.length),(.bool r_33.Root)])) (h':=[.row 8 (r_33.Columns.map encGColumn),.row 1 (r_33.Unique.map encI)]) (w_laws_toTable _ _ er34) rfl (.refl _) (by simp only [openV,openVs,List.length_map,encGTable_eq,List.nil_append,List.append_nil,List.cons_append];rfl))<|s_do (o_box (j:=6) (c:=(.agg [(.str []),.nil,.nil,(.bool false)])) rfl trivial rfl rfl)<|s_do0 (o_storebox (v:=(.agg [(.str r_33.Name),(.own 4 0 r_33.Columns.length),(.own 5 0 r_33.Unique.length),(.bool r_33.Root)])) (y':=(.agg [(.str r_33.Name),(.own 4 0 r_33.Columns.length),(.own 5 0 r_33.Unique.length),(.bool r_33.Root)])) rfl rfl rfl trivial ⟨rfl,nle⟩ ⟨⟨rfl,trivial⟩,⟨⟨rfl,trivial⟩,⟨⟨rfl,trivial⟩,⟨⟨rfl,trivial⟩,trivial⟩⟩⟩⟩ rfl)<|?_
     refine dk<|sr<|?_
     obtain ⟨r_35,er36,hf⟩:=ob hf
     refine s_q (.agg [(.int .i64 aR_2.Id),(.lst 1 (aR_2.Cells.map (encL 3 encGAtom)))]) rfl (.of nle trivial) rfl<|s_do (o_callf (v:=(.agg [(.int .i64 r_35.Id),(.own 7 0 r_35.Cells.length)])) (h':=[.row 1 (r_35.Cells.map (encL 3 encGAtom))]) (w_laws_toRow _ _ er36) rfl (.refl _) (by simp only [openV,openVs,List.length_map,encGRow_eq,List.nil_append,List.append_nil,List.cons_append];rfl))<|s_do (o_box (j:=8) (c:=(.agg [(.int .i64 0),.nil])) rfl trivial rfl rfl)<|s_do0 (o_storebox (v:=(.agg [(.int .i64 r_35.Id),(.own 7 0 r_35.Cells.length)])) (y':=(.agg [(.int .i64 r_35.Id),(.own 7 0 r_35.Cells.length)])) rfl rfl rfl trivial ⟨rfl,nle⟩ ⟨⟨rfl,trivial⟩,⟨⟨rfl,trivial⟩,trivial⟩⟩ rfl)<|?_
     refine dk<|sr<|?_
     obtain ⟨r_37,er38,hf⟩:=ob hf
     refine s_mov (.lst 1 (aNames_3.map AV.str)) rfl<|s_do (o_callf (v:=(.own 9 0 r_37.length)) (h':=[.row 1 (r_37.map AV.str)]) (w_laws_toStringS _ _ er38) rfl (.refl _) (by simp only [openV,openVs,List.length_map,List.nil_append,List.append_nil,List.cons_append];rfl))<|s_mov (.own 9 0 r_37.length) rfl<|dk<|sr<|?_
     obtain ⟨r_39,er40,hf⟩:=ob hf
     refine s_q (.agg [(.str r_33.Name),(.own 4 0 r_33.Columns.length),(.own 5 0 r_33.Unique.length),(.bool r_33.Root)]) rfl (.of nle trivial) rfl<|s_q (.agg [(.int .i64 r_35.Id),(.own 7 0 r_35.Cells.length)]) rfl (.of nle trivial) rfl<|s_mov (.own 9 0 r_37.length) rfl<|s_do (o_callf (v:=(.tup [(.agg [(.int .i64 r_39.1.Id),(.own 10 0 r_39.1.Cells.length)]),(.int .i64 r_39.2)])) (h':=[.row 1 (r_39.1.Cells.map (encL 3 encGAtom))]) (w_impl_PickColumns _ _ _ _ er40) rfl (.cons (.agg (.cons (.refl _) (.cons (.of_eq (congrArg (AV.lst _) (tko (enc:=encGColumn) r_33.Columns))) (.cons (.of_eq (congrArg (AV.lst _) (tko (enc:=encI) r_33.Unique))) (.cons (.refl _) .nil))))) (.cons (.agg (.cons (.refl _) (.cons (.of_eq (congrArg (AV.lst _) (tko (enc:=(encL 3 encGAtom)) r_35.Cells))) .nil))) (.cons (.of_eq (congrArg (AV.lst _) (tko r_37))) .nil))) (by simp only [openV,openVs,List.length_map,encGRow_eq,List.nil_append,List.append_nil,List.cons_append];rfl))<|?_
     refine s_mov (.tup [(.agg [(.int .i64 r_39.1.Id),(.own 10 0 r_39.1.Cells.length)]),(.int .i64 r_39.2)]) rfl<|s_q (.agg [(.int .i64 r_39.1.Id),(.own 10 0 r_39.1.Cells.length)]) rfl (.of nle trivial) rfl<|s_q (.int .i64 r_39.2) rfl (.of nle trivial) rfl<|s_do (o_box (j:=11) (c:=(.agg [(.int .i64 0),.nil])) rfl trivial rfl rfl)<|s_do0 (o_storebox (v:=(.agg [(.int .i64 r_39.1.Id),(.own 10 0 r_39.1.Cells.length)])) (y':=(.agg [(.int .i64 r_39.1.Id),(.own 10 0 r_39.1.Cells.length)])) rfl rfl rfl trivial ⟨rfl,nle⟩ ⟨⟨rfl,trivial⟩,⟨⟨rfl,trivial⟩,trivial⟩⟩ rfl)<|s_mov (.int .i64 r_39.2) rfl<|dk<|awp_seq<|awp_seq<|?_
     obtain ⟨s66_44,hb1,hf⟩:=ob hf
     refine awp_cut ([(2,(.lst 1 (aNames_3.map AV.str))),(3,(.ptr 0 0 0)),(4,(.ptr 1 0 0)),(8,(.ptr 2 0 0)),(9,(.int .i64 w1_21)),(10,(.ptr 3 0 0)),(11,(.ptr 4 0 0)),(12,(.own 5 0 r_37.length)),(13,(.ptr 6 0 0)),(14,(.int .i64 r_39.2)),(66,(.bool s66_44))],[.box 4 (.agg [(.str aT_1.Name),(.lst 8 (aT_1.Columns.map encGColumn)),(.lst 1 (aT_1.Unique.map encI)),(.bool aT_1.Root)]),.box 2 (.agg [(.int .i64 aR_2.Id),(.lst 1 (aR_2.Cells.map (encL 3 encGAtom)))]),.box 2 (.agg [(.int .i64 x_22),(.own 7 0 x_23.length)]),.box 4 (.agg [(.str r_33.Name),(.own 8 0 r_33.Columns.length),(.own 9 0 r_33.Unique.length),(.bool r_33.Root)]),.box 2 (.agg [(.int .i64 r_35.Id),(.own 10 0 r_35.Cells.length)]),.row 1 (r_37.map AV.str),.box 2 (.agg [(.int .i64 r_39.1.Id),(.own 11 0 r_39.1.Cells.length)]),.row 1 (x_23.map (encL 3 encGAtom)),.row 8 (r_33.Columns.map encGColumn),.row 1 (r_33.Unique.map encI),.row 1 (r_35.Cells.map (encL 3 encGAtom)),.row 1 (r_39.1.Cells.map (encL 3 encGAtom))]) ?_ ?_
     ·refine w_reg ?_
      obtain ⟨r_46,er47,hb1⟩:=ob hb1
      rcases oi hb1 with ⟨c48,hb1⟩ | ⟨c48,hb1⟩
      ·refine s_q (.agg [(.int .i64 r_39.1.Id),(.own 10 0 r_39.1.Cells.length)]) rfl (.of nle trivial) rfl<|s_q (.agg [(.int .i64 x_22),(.own 3 0 x_23.length)]) rfl (.of nle trivial) rfl<|s_do (o_call (w_laws_eqRow _ _ _ er47) rfl (.cons (.agg (.cons (.refl _) (.cons (.of_eq (congrArg (AV.lst _) (tko (enc:=(encL 3 encGAtom)) r_39.1.Cells))) .nil))) (.cons (.agg (.cons (.refl _) (.cons (.of_eq (congrArg (AV.lst _) (tko (enc:=(encL 3 encGAtom)) x_23))) .nil))) .nil)) rfl)<|s_q (.bool (!r_46)) rfl (.of trivial trivial) rfl<|s_mov (.bool (!r_46)) rfl<|s_lit (s:=62) (b:=true) rfl c48<|s_off rfl rfl<|s_off rfl rfl<|s_off rfl rfl<|s_q (.bool true) rfl (.of trivial trivial) rfl<|w_done<|?_
       obtain rfl:=os hb1;exact ⟨[],[0,1,2,6,8,9,11,3,4,5,7,10],_,_,rfl,rfl,⟨.refl _,⟨.refl _,⟨.refl _,⟨.refl _,⟨.refl _,⟨.refl _,⟨.refl _,⟨.refl _,⟨.refl _,⟨.refl _,⟨.refl _,trivial⟩⟩⟩⟩⟩⟩⟩⟩⟩⟩⟩,(.refl _)⟩
      ·refine s_q (.agg [(.int .i64 r_39.1.Id),(.own 10 0 r_39.1.Cells.length)]) rfl (.of nle trivial) rfl<|s_q (.agg [(.int .i64 x_22),(.own 3 0 x_23.length)]) rfl (.of nle trivial) rfl<|s_do (o_call (w_laws_eqRow _ _ _ er47) rfl (.cons (.agg (.cons (.refl _) (.cons (.of_eq (congrArg (AV.lst _) (tko (enc:=(encL 3 encGAtom)) r_39.1.Cells))) .nil))) (.cons (.agg (.cons (.refl _) (.cons (.of_eq (congrArg (AV.lst _) (tko (enc:=(encL 3 encGAtom)) x_23))) .nil))) .nil)) rfl)<|s_q (.bool (!r_46)) rfl (.of trivial trivial) rfl<|s_mov (.bool (!r_46)) rfl<|s_lit (s:=62) (b:=false) rfl (bf c48)<|s_on rfl<|s_mov (.int .i64 r_39.2) rfl<|s_on rfl<|s_mov (.int .i64 w1_21) rfl<|s_on rfl<|s_q (.bool (r_39.2 != w1_21)) rfl (.of rfl trivial) rfl<|?_
       refine s_q (.bool (r_39.2 != w1_21)) rfl (.of trivial trivial) rfl<|w_done<|?_;obtain rfl:=os hb1;exact ⟨[],[0,1,2,6,8,9,11,3,4,5,7,10],_,_,rfl,rfl,⟨.refl _,⟨.refl _,⟨.refl _,⟨.refl _,⟨.refl _,⟨.refl _,⟨.refl _,⟨.refl _,⟨.refl _,⟨.refl _,⟨.refl _,trivial⟩⟩⟩⟩⟩⟩⟩⟩⟩⟩⟩,(.refl _)⟩
     ·rcases oi hf with ⟨c49,hf⟩ | ⟨c49,hf⟩
      ·refine w_condt rfl c49<|sr<|s_mov (.bool false) rfl<|dk<|w_ret<|?_;obtain rfl:=os hf;exact r_flat ⟨.of trivial trivial,trivial⟩ rfl (.refl _)
      ·refine w_condf rfl (bf c49)<|w_skip<|k_seq<|awp_seq<|sr<|?_
       obtain ⟨r_50,er51,hf⟩:=ob hf
       obtain ⟨r_52,er53,hf⟩:=ob hf
       refine s_q (.agg [(.str r_33.Name),(.own 8 0 r_33.Columns.length),(.own 9 0 r_33.Unique.length),(.bool r_33.Root)]) rfl (.of nle trivial) rfl<|s_q (.agg [(.str aT_1.Name),(.lst 8 (aT_1.Columns.map encGColumn)),(.lst 1 (aT_1.Unique.map encI)),(.bool aT_1.Root)]) rfl (.of nle trivial) rfl<|s_dol (o_callf (v:=(.agg [(.str r_50.Name),(.own 12 0 r_50.Columns.length),(.own 13 0 r_50.Unique.length),(.bool r_50.Root)])) (h':=[.row 8 (r_50.Columns.map encGColumn),.row 1 (r_50.Unique.map encI)]) (w_laws_toTable _ _ er51) rfl (.refl _) (by simp only [openV,openVs,List.length_map,encGTable_eq,List.nil_append,List.append_nil,List.cons_append];rfl)) (.inr ⟨⟨(.of nle trivial),rfl⟩,trivial⟩) trivial<|?_
       refine s_dol (o_call (w_laws_eqTable _ _ _ er53) rfl (.cons (.agg (.cons (.refl _) (.cons (.of_eq (congrArg (AV.lst _) (tko (enc:=encGColumn) r_33.Columns))) (.cons (.of_eq (congrArg (AV.lst _) (tko (enc:=encI) r_33.Unique))) (.cons (.refl _) .nil))))) (.cons (.agg (.cons (.refl _) (.cons (.of_eq (congrArg (AV.lst _) (tko (enc:=encGColumn) r_50.Columns))) (.cons (.of_eq (congrArg (AV.lst _) (tko (enc:=encI) r_50.Unique))) (.cons (.refl _) .nil))))) .nil)) rfl) a_same trivial<|s_q (.bool (!r_52)) rfl (.of trivial trivial) rfl<|dk<|?_
       rcases oi hf with ⟨c54,hf⟩ | ⟨c54,hf⟩
       ·refine w_condt rfl c54<|sr<|s_mov (.bool false) rfl<|dk<|w_ret<|?_;obtain rfl:=os hf;exact r_flat ⟨.of trivial trivial,trivial⟩ rfl (.refl _)
       ·refine w_condf rfl (bf c54)<|w_skip<|k_seq<|awp_seq<|sr<|?_
        obtain ⟨r_55,er56,hf⟩:=ob hf
        obtain ⟨r_57,er58,hf⟩:=ob hf
        refine s_q (.agg [(.int .i64 r_35.Id),(.own 10 0 r_35.Cells.length)]) rfl (.of nle trivial) rfl<|s_q (.agg [(.int .i64 aR_2.Id),(.lst 1 (aR_2.Cells.map (encL 3 encGAtom)))]) rfl (.of nle trivial) rfl<|s_dol (o_callf (v:=(.agg [(.int .i64 r_55.Id),(.own 14 0 r_55.Cells.length)])) (h':=[.row 1 (r_55.Cells.map (encL 3 encGAtom))]) (w_laws_toRow _ _ er56) rfl (.refl _) (by simp only [openV,openVs,List.length_map,encGRow_eq,List.nil_append,List.append_nil,List.cons_append];rfl)) (.inr ⟨⟨(.of nle trivial),rfl⟩,trivial⟩) trivial<|s_dol (o_call (w_laws_eqRow _ _ _ er58) rfl (.cons (.agg (.cons (.refl _) (.cons (.of_eq (congrArg (AV.lst _) (tko (enc:=(encL 3 encGAtom)) r_35.Cells))) .nil))) (.cons (.agg (.cons (.refl _) (.cons (.of_eq (congrArg (AV.lst _) (tko (enc:=(encL 3 encGAtom)) r_55.Cells))) .nil))) .nil)) rfl) a_same trivial<|?_
        refine s_q (.bool (!r_57)) rfl (.of trivial trivial) rfl<|dk<|?_
        rcases oi hf with ⟨c59,hf⟩ | ⟨c59,hf⟩
        ·refine w_condt rfl c59<|sr<|s_mov (.bool false) rfl<|dk<|w_ret<|?_;obtain rfl:=os hf;exact r_flat ⟨.of trivial trivial,trivial⟩ rfl (.refl _)
        ·refine w_condf rfl (bf c59)<|w_skip<|k_seq<|awp_seq<|sr<|?_
         obtain ⟨r_60,er61,hf⟩:=ob hf
         obtain ⟨r_62,er63,hf⟩:=ob hf
         refine s_mov (.own 5 0 r_37.length) rfl<|s_mov (.lst 1 (aNames_3.map AV.str)) rfl<|s_do (o_callf (v:=(.own 15 0 r_60.length)) (h':=[.row 1 (r_60.map AV.str)]) (w_laws_toStringS _ _ er61) rfl (.refl _) (by simp only [openV,openVs,List.length_map,List.nil_append,List.append_nil,List.cons_append];rfl))<|s_do (o_call (w_laws_eqStringS _ _ _ er63) rfl (.cons (.of_eq (congrArg (AV.lst _) (tko r_37))) (.cons (.of_eq (congrArg (AV.lst _) (tko r_60))) .nil)) rfl)<|s_q (.bool (!r_62)) rfl (.of trivial trivial) rfl<|dk<|?_
         rcases oi hf with ⟨c64,hf⟩ | ⟨c64,hf⟩
         ·refine w_condt rfl c64<|sr<|s_mov (.bool false) rfl<|dk<|w_ret<|?_;obtain rfl:=os hf;exact r_flat ⟨.of trivial trivial,trivial⟩ rfl (.refl _)
         ·refine w_condf rfl (bf c64)<|w_skip<|k_seq<|sr<|s_mov (.int .i64 1) rfl<|dk<|sr<|?_
          obtain ⟨r_65,er66,hf⟩:=ob hf
          refine s_q (.agg [(.str r_33.Name),(.own 8 0 r_33.Columns.length),(.own 9 0 r_33.Unique.length),(.bool r_33.Root)]) rfl (.of nle trivial) rfl<|s_mov (.int .i64 1) rfl<|?_;refine s_dof (o_callhs (v:=(.int .i64 r_65.1)) (h2:=[.box 4 (.agg [(.str aT_1.Name),(.lst 8 (aT_1.Columns.map encGColumn)),(.lst 1 (aT_1.Unique.map encI)),(.bool aT_1.Root)]),.box 2 (.agg [(.int .i64 aR_2.Id),(.lst 1 (aR_2.Cells.map (encL 3 encGAtom)))]),.box 2 (.agg [(.int .i64 x_22),(.own 7 0 x_23.length)]),.box 4 (.agg [(.str r_33.Name),(.own 8 0 r_33.Columns.length),(.own 9 0 r_33.Unique.length),(.bool r_33.Root)]),.box 2 (.agg [(.int .i64 r_35.Id),(.own 10 0 r_35.Cells.length)]),.row 1 (r_37.map AV.str),.box 2 (.agg [(.int .i64 r_39.1.Id),(.own 11 0 r_39.1.Cells.length)]),.row 1 (x_23.map (encL 3 encGAtom)),.row 8 (r_65.2.Columns.map encGColumn),.row 1 (r_65.2.Unique.map encI),.row 1 (r_35.Cells.map (encL 3 encGAtom)),.row 1 (r_39.1.Cells.map (encL 3 encGAtom)),.row 8 (r_50.Columns.map encGColumn),.row 1 (r_50.Unique.map encI),.row 1 (r_55.Cells.map (encL 3 encGAtom)),.row 1 (r_60.map AV.str)]) [] [8,9] (fun _ => rfl) (w_laws_markTable _ _ _ er66) rfl (.refl _) (.refl _) rfl rfl) fun hl67 => ?_
          refine s_mov (.int .i64 r_65.1) rfl<|dk<|sr<|?_
          obtain ⟨r_68,er69,hf⟩:=ob hf
          refine s_q (.agg [(.int .i64 r_35.Id),(.own 10 0 r_35.Cells.length)]) rfl (.of nle trivial) rfl<|s_mov (.int .i64 r_65.1) rfl<|?_;refine s_dof (o_callhs (v:=(.int .i64 r_68.1)) (h2:=[.box 4 (.agg [(.str aT_1.Name),(.lst 8 (aT_1.Columns.map encGColumn)),(.lst 1 (aT_1.Unique.map encI)),(.bool aT_1.Root)]),.box 2 (.agg [(.int .i64 aR_2.Id),(.lst 1 (aR_2.Cells.map (encL 3 encGAtom)))]),.box 2 (.agg [(.int .i64 x_22),(.own 7 0 x_23.length)]),.box 4 (.agg [(.str r_33.Name),(.own 8 0 r_33.Columns.length),(.own 9 0 r_33.Unique.length),(.bool r_33.Root)]),.box 2 (.agg [(.int .i64 r_35.Id),(.own 10 0 r_35.Cells.length)]),.row 1 (r_37.map AV.str),.box 2 (.agg [(.int .i64 r_39.1.Id),(.own 11 0 r_39.1.Cells.length)]),.row 1 (x_23.map (encL 3 encGAtom)),.row 8 (r_65.2.Columns.map encGColumn),.row 1 (r_65.2.Unique.map encI),.row 1 (r_68.2.Cells.map (encL 3 encGAtom)),.row 1 (r_39.1.Cells.map (encL 3 encGAtom)),.row 8 (r_50.Columns.map encGColumn),.row 1 (r_50.Unique.map encI),.row 1 (r_55.Cells.map (encL 3 encGAtom)),.row 1 (r_60.map AV.str)]) [] [10] (fun _ => rfl) (w_laws_markRow _ _ _ er69) rfl (.refl _) (.refl _) rfl rfl) fun hl70 => ?_
          refine s_mov (.int .i64 r_68.1) rfl<|dk<|sr<|?_
          obtain ⟨r_71,er72,hf⟩:=ob hf
          refine s_mov (.own 5 0 r_37.length) rfl<|s_mov (.int .i64 r_68.1) rfl<|?_;refine s_dof (o_callhs (v:=(.int .i64 r_71.1)) (h2:=[.box 4 (.agg [(.str aT_1.Name),(.lst 8 (aT_1.Columns.map encGColumn)),(.lst 1 (aT_1.Unique.map encI)),(.bool aT_1.Root)]),.box 2 (.agg [(.int .i64 aR_2.Id),(.lst 1 (aR_2.Cells.map (encL 3 encGAtom)))]),.box 2 (.agg [(.int .i64 x_22),(.own 7 0 x_23.length)]),.box 4 (.agg [(.str r_33.Name),(.own 8 0 r_33.Columns.length),(.own 9 0 r_33.Unique.length),(.bool r_33.Root)]),.box 2 (.agg [(.int .i64 r_35.Id),(.own 10 0 r_35.Cells.length)]),.row 1 (r_71.2.map AV.str),.box 2 (.agg [(.int .i64 r_39.1.Id),(.own 11 0 r_39.1.Cells.length)]),.row 1 (x_23.map (encL 3 encGAtom)),.row 8 (r_65.2.Columns.map encGColumn),.row 1 (r_65.2.Unique.map encI),.row 1 (r_68.2.Cells.map (encL 3 encGAtom)),.row 1 (r_39.1.Cells.map (encL 3 encGAtom)),.row 8 (r_50.Columns.map encGColumn),.row 1 (r_50.Unique.map encI),.row 1 (r_55.Cells.map (encL 3 encGAtom)),.row 1 (r_60.map AV.str)]) [] [5] (fun _ => rfl) (w_laws_markStringS _ _ _ er72) rfl (.refl _) (.refl _) rfl rfl) fun hl73 => ?_
          refine s_mov (.int .i64 r_71.1) rfl<|dk<|awp_seq<|awp_seq<|?_
          obtain ⟨s103_77,hb1,hf⟩:=ob hf
          refine awp_cut ([(2,(.lst 1 (aNames_3.map AV.str))),(3,(.ptr 0 0 0)),(4,(.ptr 1 0 0)),(8,(.ptr 2 0 0)),(9,(.int .i64 w1_21)),(13,(.ptr 3 0 0)),(103,(.bool s103_77))],[.box 4 (.agg [(.str aT_1.Name),(.lst 8 (aT_1.Columns.map encGColumn)),(.lst 1 (aT_1.Unique.map encI)),(.bool aT_1.Root)]),.box 2 (.agg [(.int .i64 aR_2.Id),(.lst 1 (aR_2.Cells.map (encL 3 encGAtom)))]),.box 2 (.agg [(.int .i64 x_22),(.own 4 0 x_23.length)]),.box 2 (.agg [(.int .i64 r_39.1.Id),(.own 5 0 r_39.1.Cells.length)]),.row 1 (x_23.map (encL 3 encGAtom)),.row 1 (r_39.1.Cells.map (encL 3 encGAtom))]) ?_ ?_
          ·refine w_reg<|s_mov (.int .i64 r_71.1) rfl<|s_q (.bool (decide (r_71.1 < 0))) rfl (.of rfl trivial) rfl<|s_mov (.bool (decide (r_71.1 < 0))) rfl<|?_
           rcases oi hb1 with ⟨c79,hb1⟩ | ⟨c79,hb1⟩
           ·refine s_lit (s:=93) (b:=true) rfl c79<|s_off rfl rfl<|s_off rfl rfl<|s_off rfl rfl<|s_off rfl rfl<|s_q (.bool true) rfl (.of trivial trivial) rfl<|s_mov (.bool true) rfl<|s_off rfl rfl<|s_off rfl rfl<|s_off rfl rfl<|s_q (.bool true) rfl (.of trivial trivial) rfl<|w_done<|?_;obtain rfl:=os hb1;exact ⟨[],[0,1,2,6,7,11],_,_,rfl,rfl,⟨.refl _,⟨.refl _,⟨.refl _,⟨.refl _,⟨.refl _,⟨.refl _,⟨.refl _,trivial⟩⟩⟩⟩⟩⟩⟩,(.refl _)⟩
           ·refine s_lit (s:=93) (b:=false) rfl (bf c79)<|s_on rfl<|s_q (.agg [(.int .i64 r_39.1.Id),(.own 11 0 r_39.1.Cells.length)]) rfl (.of nle trivial) rfl<|s_on rfl<|s_q (.agg [(.int .i64 x_22),(.own 7 0 x_23.length)]) rfl (.of nle trivial) rfl<|s_on rfl<|?_
            obtain ⟨r_80,er81,hb1⟩:=ob hb1
            refine s_do (o_call (w_laws_eqRow _ _ _ er81) rfl (.cons (.agg (.cons (.refl _) (.cons (.of_eq (congrArg (AV.lst _) (tko (enc:=(encL 3 encGAtom)) r_39.1.Cells))) .nil))) (.cons (.agg (.cons (.refl _) (.cons (.of_eq (congrArg (AV.lst _) (tko (enc:=(encL 3 encGAtom)) x_23))) .nil))) .nil)) rfl)<|s_on rfl<|s_q (.bool (!r_80)) rfl (.of trivial trivial) rfl<|s_q (.bool (!r_80)) rfl (.of trivial trivial) rfl<|s_mov (.bool (!r_80)) rfl<|?_;refine s_g (v:=(!r_80)) (.int .i64 r_39.2) rfl (fun hv => by (try simp only [gs_on hv]);exact ⟨rfl,.of trivial trivial,rfl⟩) ?_;refine s_g (v:=(!r_80)) (.int .i64 w1_21) rfl (fun hv => by (try simp only [gs_on hv]);exact ⟨rfl,.of trivial trivial,rfl⟩) ?_
            refine s_g (v:=(!r_80)) (.bool (r_39.2 != w1_21)) rfl (fun hv => by (try simp only [gs_on hv]);exact ⟨rfl,(.of rfl trivial),rfl⟩) ?_;refine s_pick (x:=true) (y:=(r_39.2 != w1_21)) rfl (fun hv => by (try simp only [gs_on hv]);rfl) (fun hv => by (try simp only [gs_on hv]);rfl) ?_;refine w_done ?_;obtain rfl:=os hb1;exact ⟨[],[0,1,2,6,7,11],_,_,rfl,rfl,⟨.refl _,⟨.refl _,⟨.refl _,⟨.refl _,⟨.refl _,⟨.refl _,⟨.refl _,trivial⟩⟩⟩⟩⟩⟩⟩,(.refl _)⟩
          ·rcases oi hf with ⟨c82,hf⟩ | ⟨c82,hf⟩
           ·refine w_condt rfl c82<|sr<|s_mov (.bool false) rfl<|dk<|w_ret<|?_;obtain rfl:=os hf;exact r_flat ⟨.of trivial trivial,trivial⟩ rfl (.refl _)
           ·refine w_condf rfl (bf c82)<|w_skip<|k_seq<|sr<|s_mov (.int .i64 1) rfl<|dk<|sr<|?_
            obtain ⟨r_83,er84,hf⟩:=ob hf
            refine s_q (.agg [(.int .i64 r_39.1.Id),(.own 5 0 r_39.1.Cells.length)]) rfl (.of nle trivial) rfl<|s_mov (.int .i64 1) rfl<|?_;refine s_dof (o_callhs (v:=(.int .i64 r_83.1)) (h2:=[.box 4 (.agg [(.str aT_1.Name),(.lst 8 (aT_1.Columns.map encGColumn)),(.lst 1 (aT_1.Unique.map encI)),(.bool aT_1.Root)]),.box 2 (.agg [(.int .i64 aR_2.Id),(.lst 1 (aR_2.Cells.map (encL 3 encGAtom)))]),.box 2 (.agg [(.int .i64 x_22),(.own 4 0 x_23.length)]),.box 2 (.agg [(.int .i64 r_39.1.Id),(.own 5 0 r_39.1.Cells.length)]),.row 1 (x_23.map (encL 3 encGAtom)),.row 1 (r_83.2.Cells.map (encL 3 encGAtom))]) [] [5] (fun _ => rfl) (w_laws_markRow _ _ _ er84) rfl (.refl _) (.refl _) rfl rfl) fun hl85 => ?_;refine s_mov (.int .i64 r_83.1) rfl ?_
            refine dk<|sr<|s_mov (.int .i64 1) rfl<|dk<|sr<|?_
            obtain ⟨r_86,er87,hf⟩:=ob hf
            refine s_q (.agg [(.int .i64 r_39.1.Id),(.own 5 0 r_39.1.Cells.length)]) rfl (.of nle trivial) rfl<|s_mov (.int .i64 1) rfl<|s_do (o_call (w_laws_heldRow _ _ _ er87) rfl (.cons (.agg (.cons (.refl _) (.cons (.of_eq (congrArg (AV.lst _) (tkol (hl85 0 _ _ _ _ rfl rfl)))) .nil))) (.cons (.refl _) .nil)) rfl)<|s_mov (.int .i64 r_86) rfl<|dk<|awp_seq<|sr<|s_mov (.int .i64 r_86) rfl<|s_q (.bool (decide (r_86 < 0))) rfl (.of rfl trivial) rfl<|dk<|?_
            rcases oi hf with ⟨c88,hf⟩ | ⟨c88,hf⟩
            ·refine w_condt rfl c88<|sr<|s_mov (.bool false) rfl<|dk<|w_ret<|?_;obtain rfl:=os hf;exact r_flat ⟨.of trivial trivial,trivial⟩ rfl (.refl _)
            ·refine w_condf rfl (bf c88)<|w_skip<|k_seq<|awp_seq<|sr<|s_mov (.int .i64 r_86) rfl<|s_mov (.int .i64 r_83.1) rfl<|s_q (.bool (r_86 != r_83.1)) rfl (.of rfl trivial) rfl<|dk<|?_
             rcases oi hf with ⟨c89,hf⟩ | ⟨c89,hf⟩
             ·refine w_condt rfl c89<|sr<|s_mov (.bool false) rfl<|dk<|w_ret<|?_;obtain rfl:=os hf;exact r_flat ⟨.of trivial trivial,trivial⟩ rfl (.refl _)
             ·refine w_condf rfl (bf c89)<|w_skip<|k_seq<|awp_seq<|?_
              obtain ⟨p101,hb1,hf⟩:=ob hf
              refine awp_cut ([(8,(.ptr 0 0 0)),(9,(.int .i64 w1_21)),(13,(.ptr 1 0 0)),(16,(.int .i64 r_83.1)),(18,(.ptr 2 0 0)),(19,(.int .i64 p101.1))],[.box 2 (.agg [(.int .i64 x_22),(.own 3 0 x_23.length)]),.box 2 (.agg [(.int .i64 r_39.1.Id),(.own 4 0 r_83.2.Cells.length)]),.box 2 (.agg [(.int .i64 p101.2.1),(.own 5 0 p101.2.2.length)]),.row 1 (x_23.map (encL 3 encGAtom)),.row 1 (r_83.2.Cells.map (encL 3 encGAtom)),.row 1 (p101.2.2.map (encL 3 encGAtom))]) ?_ ?_
              ·refine w_reg ?_
               obtain ⟨r_102,er103,hb1⟩:=ob hb1
               obtain ⟨r_104,er105,hb1⟩:=ob hb1
               obtain ⟨r_106,er107,hb1⟩:=ob hb1
               obtain ⟨r_108,er109,hb1⟩:=ob hb1
               refine s_q (.agg [(.str aT_1.Name),(.lst 8 (aT_1.Columns.map encGColumn)),(.lst 1 (aT_1.Unique.map encI)),(.bool aT_1.Root)]) rfl (.of nle trivial) rfl<|s_q (.agg [(.int .i64 aR_2.Id),(.lst 1 (aR_2.Cells.map (encL 3 encGAtom)))]) rfl (.of nle trivial) rfl<|s_mov (.lst 1 (aNames_3.map AV.str)) rfl<|?_;refine s_dol (o_callf (v:=(.agg [(.str r_102.Name),(.own 6 0 r_102.Columns.length),(.own 7 0 r_102.Unique.length),(.bool r_102.Root)])) (h':=[.row 8 (r_102.Columns.map encGColumn),.row 1 (r_102.Unique.map encI)]) (w_laws_toTable _ _ er103) rfl (.refl _) (by simp only [openV,openVs,List.length_map,encGTable_eq,List.nil_append,List.append_nil,List.cons_append];rfl)) (.inr ⟨⟨(.of nle trivial),rfl⟩,trivial⟩) ?_ ?_
               ·refine s_dol (o_box (j:=6) (c:=(.agg [(.int .i64 0),.nil])) rfl trivial rfl rfl) (.inr ⟨⟨(.of nle trivial),rfl⟩,⟨⟨(.of nle trivial),rfl⟩,trivial⟩⟩) trivial<|s_dol (o_callf (v:=(.agg [(.str r_102.Name),(.own 7 0 r_102.Columns.length),(.own 8 0 r_102.Unique.length),(.bool r_102.Root)])) (h':=[.row 8 (r_102.Columns.map encGColumn),.row 1 (r_102.Unique.map encI)]) (w_laws_toTable _ _ er103) rfl (.refl _) (by simp only [openV,openVs,List.length_map,encGTable_eq,List.nil_append,List.append_nil,List.cons_append];rfl)) (.inr ⟨⟨(.of nle trivial),rfl⟩,trivial⟩) trivial<|s_dol (o_callf (v:=(.agg [(.int .i64 r_104.Id),(.own 9 0 r_104.Cells.length)])) (h':=[.row 1 (r_104.Cells.map (encL 3 encGAtom))]) (w_laws_toRow _ _ er105) rfl (.refl _) (by simp only [openV,openVs,List.length_map,encGRow_eq,List.nil_append,List.append_nil,List.cons_append];rfl)) trivial trivial<|?_
                refine s_dol (o_callf (v:=(.own 10 0 r_106.length)) (h':=[.row 1 (r_106.map AV.str)]) (w_laws_toStringS _ _ er107) rfl (.refl _) (by simp only [openV,openVs,List.length_map,List.nil_append,List.append_nil,List.cons_append];rfl)) trivial trivial<|s_dol (o_callf (v:=(.tup [(.agg [(.int .i64 r_108.1.Id),(.own 11 0 r_108.1.Cells.length)]),(.int .i64 r_108.2)])) (h':=[.row 1 (r_108.1.Cells.map (encL 3 encGAtom))]) (w_impl_PickColumns _ _ _ _ er109) rfl (.cons (.agg (.cons (.refl _) (.cons (.of_eq (congrArg (AV.lst _) (tko (enc:=encGColumn) r_102.Columns))) (.cons (.of_eq (congrArg (AV.lst _) (tko (enc:=encI) r_102.Unique))) (.cons (.refl _) .nil))))) (.cons (.agg (.cons (.refl _) (.cons (.of_eq (congrArg (AV.lst _) (tko (enc:=(encL 3 encGAtom)) r_104.Cells))) .nil))) (.cons (.of_eq (congrArg (AV.lst _) (tko r_106))) .nil))) (by simp only [openV,openVs,List.length_map,encGRow_eq,List.nil_append,List.append_nil,List.cons_append];rfl)) trivial trivial<|?_
                refine s_mov (.tup [(.agg [(.int .i64 r_108.1.Id),(.own 11 0 r_108.1.Cells.length)]),(.int .i64 r_108.2)]) rfl<|s_q (.agg [(.int .i64 r_108.1.Id),(.own 11 0 r_108.1.Cells.length)]) rfl (.of nle trivial) rfl<|s_q (.int .i64 r_108.2) rfl (.of nle trivial) rfl<|s_dol0 (o_storebox (v:=(.agg [(.int .i64 r_108.1.Id),(.own 11 0 r_108.1.Cells.length)])) (y':=(.agg [(.int .i64 r_108.1.Id),(.own 11 0 r_108.1.Cells.length)])) rfl rfl rfl trivial ⟨rfl,nle⟩ ⟨⟨rfl,trivial⟩,⟨⟨rfl,trivial⟩,trivial⟩⟩ rfl) trivial trivial<|s_mov (.int .i64 r_108.2) rfl<|w_done<|?_;obtain rfl:=os hb1;exact ⟨[],[2,3,6,4,5,11],_,_,rfl,rfl,⟨.refl _,⟨.refl _,⟨.refl _,⟨.refl _,⟨.refl _,⟨.refl _,trivial⟩⟩⟩⟩⟩⟩,(.cons (.refl _) (.cons (.box (.agg (.cons (.refl _) (.cons (.of_eq (congrArg (AV.own _ 0) (by have h:=(hl85 0 _ _ _ _ rfl rfl);simpa using h.symm))) .nil)))) (.cons (.refl _) (.cons (.refl _) (.cons (.refl _) (.cons (.refl _) .nil))))))⟩
               ·refine s_dol (o_callf (v:=(.agg [(.int .i64 r_104.Id),(.own 8 0 r_104.Cells.length)])) (h':=[.row 1 (r_104.Cells.map (encL 3 encGAtom))]) (w_laws_toRow _ _ er105) rfl (.refl _) (by simp only [openV,openVs,List.length_map,encGRow_eq,List.nil_append,List.append_nil,List.cons_append];rfl)) trivial ?_ ?_
                ·refine s_dol (o_box (j:=8) (c:=(.agg [(.int .i64 0),.nil])) rfl trivial rfl rfl) (.inr ⟨⟨(.of nle trivial),rfl⟩,⟨⟨(.of nle trivial),rfl⟩,trivial⟩⟩) trivial<|s_dol (o_callf (v:=(.agg [(.int .i64 r_104.Id),(.own 9 0 r_104.Cells.length)])) (h':=[.row 1 (r_104.Cells.map (encL 3 encGAtom))]) (w_laws_toRow _ _ er105) rfl (.refl _) (by simp only [openV,openVs,List.length_map,encGRow_eq,List.nil_append,List.append_nil,List.cons_append];rfl)) trivial trivial<|s_dol (o_callf (v:=(.own 10 0 r_106.length)) (h':=[.row 1 (r_106.map AV.str)]) (w_laws_toStringS _ _ er107) rfl (.refl _) (by simp only [openV,openVs,List.length_map,List.nil_append,List.append_nil,List.cons_append];rfl)) trivial trivial<|?_
                 refine s_dol (o_callf (v:=(.tup [(.agg [(.int .i64 r_108.1.Id),(.own 11 0 r_108.1.Cells.length)]),(.int .i64 r_108.2)])) (h':=[.row 1 (r_108.1.Cells.map (encL 3 encGAtom))]) (w_impl_PickColumns _ _ _ _ er109) rfl (.cons (.agg (.cons (.refl _) (.cons (.of_eq (congrArg (AV.lst _) (tko (enc:=encGColumn) r_102.Columns))) (.cons (.of_eq (congrArg (AV.lst _) (tko (enc:=encI) r_102.Unique))) (.cons (.refl _) .nil))))) (.cons (.agg (.cons (.refl _) (.cons (.of_eq (congrArg (AV.lst _) (tko (enc:=(encL 3 encGAtom)) r_104.Cells))) .nil))) (.cons (.of_eq (congrArg (AV.lst _) (tko r_106))) .nil))) (by simp only [openV,openVs,List.length_map,encGRow_eq,List.nil_append,List.append_nil,List.cons_append];rfl)) trivial trivial ?_
                 refine s_mov (.tup [(.agg [(.int .i64 r_108.1.Id),(.own 11 0 r_108.1.Cells.length)]),(.int .i64 r_108.2)]) rfl<|s_q (.agg [(.int .i64 r_108.1.Id),(.own 11 0 r_108.1.Cells.length)]) rfl (.of nle trivial) rfl<|s_q (.int .i64 r_108.2) rfl (.of nle trivial) rfl<|s_dol0 (o_storebox (v:=(.agg [(.int .i64 r_108.1.Id),(.own 11 0 r_108.1.Cells.length)])) (y':=(.agg [(.int .i64 r_108.1.Id),(.own 11 0 r_108.1.Cells.length)])) rfl rfl rfl trivial ⟨rfl,nle⟩ ⟨⟨rfl,trivial⟩,⟨⟨rfl,trivial⟩,trivial⟩⟩ rfl) trivial trivial<|s_mov (.int .i64 r_108.2) rfl<|w_done<|?_;obtain rfl:=os hb1;exact ⟨[],[2,3,8,4,5,11],_,_,rfl,rfl,⟨.refl _,⟨.refl _,⟨.refl _,⟨.refl _,⟨.refl _,⟨.refl _,trivial⟩⟩⟩⟩⟩⟩,(.cons (.refl _) (.cons (.box (.agg (.cons (.refl _) (.cons (.of_eq (congrArg (AV.own _ 0) (by have h:=(hl85 0 _ _ _ _ rfl rfl);simpa using h.symm))) .nil)))) (.cons (.refl _) (.cons (.refl _) (.cons (.refl _) (.cons (.refl _) .nil))))))⟩
                ·refine s_dol (o_callf (v:=(.own 9 0 r_106.length)) (h':=[.row 1 (r_106.map AV.str)]) (w_laws_toStringS _ _ er107) rfl (.refl _) (by simp only [openV,openVs,List.length_map,List.nil_append,List.append_nil,List.cons_append];rfl)) trivial ?_ ?_
                 ·refine s_dol (o_box (j:=9) (c:=(.agg [(.int .i64 0),.nil])) rfl trivial rfl rfl) (.inr ⟨⟨(.of nle trivial),rfl⟩,⟨⟨(.of nle trivial),rfl⟩,trivial⟩⟩) trivial<|s_dol (o_callf (v:=(.own 10 0 r_106.length)) (h':=[.row 1 (r_106.map AV.str)]) (w_laws_toStringS _ _ er107) rfl (.refl _) (by simp only [openV,openVs,List.length_map,List.nil_append,List.append_nil,List.cons_append];rfl)) trivial trivial<|s_dol (o_callf (v:=(.tup [(.agg [(.int .i64 r_108.1.Id),(.own 11 0 r_108.1.Cells.length)]),(.int .i64 r_108.2)])) (h':=[.row 1 (r_108.1.Cells.map (encL 3 encGAtom))]) (w_impl_PickColumns _ _ _ _ er109) rfl (.cons (.agg (.cons (.refl _) (.cons (.of_eq (congrArg (AV.lst _) (tko (enc:=encGColumn) r_102.Columns))) (.cons (.of_eq (congrArg (AV.lst _) (tko (enc:=encI) r_102.Unique))) (.cons (.refl _) .nil))))) (.cons (.agg (.cons (.refl _) (.cons (.of_eq (congrArg (AV.lst _) (tko (enc:=(encL 3 encGAtom)) r_104.Cells))) .nil))) (.cons (.of_eq (congrArg (AV.lst _) (tko r_106))) .nil))) (by simp only [openV,openVs,List.length_map,encGRow_eq,List.nil_append,List.append_nil,List.cons_append];rfl)) trivial trivial<|?_
                  refine s_mov (.tup [(.agg [(.int .i64 r_108.1.Id),(.own 11 0 r_108.1.Cells.length)]),(.int .i64 r_108.2)]) rfl<|s_q (.agg [(.int .i64 r_108.1.Id),(.own 11 0 r_108.1.Cells.length)]) rfl (.of nle trivial) rfl<|s_q (.int .i64 r_108.2) rfl (.of nle trivial) rfl<|s_dol0 (o_storebox (v:=(.agg [(.int .i64 r_108.1.Id),(.own 11 0 r_108.1.Cells.length)])) (y':=(.agg [(.int .i64 r_108.1.Id),(.own 11 0 r_108.1.Cells.length)])) rfl rfl rfl trivial ⟨rfl,nle⟩ ⟨⟨rfl,trivial⟩,⟨⟨rfl,trivial⟩,trivial⟩⟩ rfl) trivial trivial<|s_mov (.int .i64 r_108.2) rfl<|w_done<|?_;obtain rfl:=os hb1;exact ⟨[],[2,3,9,4,5,11],_,_,rfl,rfl,⟨.refl _,⟨.refl _,⟨.refl _,⟨.refl _,⟨.refl _,⟨.refl _,trivial⟩⟩⟩⟩⟩⟩,(.cons (.refl _) (.cons (.box (.agg (.cons (.refl _) (.cons (.of_eq (congrArg (AV.own _ 0) (by have h:=(hl85 0 _ _ _ _ rfl rfl);simpa using h.symm))) .nil)))) (.cons (.refl _) (.cons (.refl _) (.cons (.refl _) (.cons (.refl _) .nil))))))⟩
                 ·refine s_dol (o_callf (v:=(.tup [(.agg [(.int .i64 r_108.1.Id),(.own 10 0 r_108.1.Cells.length)]),(.int .i64 r_108.2)])) (h':=[.row 1 (r_108.1.Cells.map (encL 3 encGAtom))]) (w_impl_PickColumns _ _ _ _ er109) rfl (.cons (.agg (.cons (.refl _) (.cons (.of_eq (congrArg (AV.lst _) (tko (enc:=encGColumn) r_102.Columns))) (.cons (.of_eq (congrArg (AV.lst _) (tko (enc:=encI) r_102.Unique))) (.cons (.refl _) .nil))))) (.cons (.agg (.cons (.refl _) (.cons (.of_eq (congrArg (AV.lst _) (tko (enc:=(encL 3 encGAtom)) r_104.Cells))) .nil))) (.cons (.of_eq (congrArg (AV.lst _) (tko r_106))) .nil))) (by simp only [openV,openVs,List.length_map,encGRow_eq,List.nil_append,List.append_nil,List.cons_append];rfl)) trivial ?_ ?_
                  ·refine s_dol (o_box (j:=10) (c:=(.agg [(.int .i64 0),.nil])) rfl trivial rfl rfl) (.inr ⟨⟨(.of nle trivial),rfl⟩,⟨⟨(.of nle trivial),rfl⟩,trivial⟩⟩) trivial<|s_dol (o_callf (v:=(.tup [(.agg [(.int .i64 r_108.1.Id),(.own 11 0 r_108.1.Cells.length)]),(.int .i64 r_108.2)])) (h':=[.row 1 (r_108.1.Cells.map (encL 3 encGAtom))]) (w_impl_PickColumns _ _ _ _ er109) rfl (.cons (.agg (.cons (.refl _) (.cons (.of_eq (congrArg (AV.lst _) (tko (enc:=encGColumn) r_102.Columns))) (.cons (.of_eq (congrArg (AV.lst _) (tko (enc:=encI) r_102.Unique))) (.cons (.refl _) .nil))))) (.cons (.agg (.cons (.refl _) (.cons (.of_eq (congrArg (AV.lst _) (tko (enc:=(encL 3 encGAtom)) r_104.Cells))) .nil))) (.cons (.of_eq (congrArg (AV.lst _) (tko r_106))) .nil))) (by simp only [openV,openVs,List.length_map,encGRow_eq,List.nil_append,List.append_nil,List.cons_append];rfl)) trivial trivial<|?_
                   refine s_mov (.tup [(.agg [(.int .i64 r_108.1.Id),(.own 11 0 r_108.1.Cells.length)]),(.int .i64 r_108.2)]) rfl<|s_q (.agg [(.int .i64 r_108.1.Id),(.own 11 0 r_108.1.Cells.length)]) rfl (.of nle trivial) rfl<|s_q (.int .i64 r_108.2) rfl (.of nle trivial) rfl<|s_dol0 (o_storebox (v:=(.agg [(.int .i64 r_108.1.Id),(.own 11 0 r_108.1.Cells.length)])) (y':=(.agg [(.int .i64 r_108.1.Id),(.own 11 0 r_108.1.Cells.length)])) rfl rfl rfl trivial ⟨rfl,nle⟩ ⟨⟨rfl,trivial⟩,⟨⟨rfl,trivial⟩,trivial⟩⟩ rfl) trivial trivial<|s_mov (.int .i64 r_108.2) rfl<|w_done<|?_;obtain rfl:=os hb1;exact ⟨[],[2,3,10,4,5,11],_,_,rfl,rfl,⟨.refl _,⟨.refl _,⟨.refl _,⟨.refl _,⟨.refl _,⟨.refl _,trivial⟩⟩⟩⟩⟩⟩,(.cons (.refl _) (.cons (.box (.agg (.cons (.refl _) (.cons (.of_eq (congrArg (AV.own _ 0) (by have h:=(hl85 0 _ _ _ _ rfl rfl);simpa using h.symm))) .nil)))) (.cons (.refl _) (.cons (.refl _) (.cons (.refl _) (.cons (.refl _) .nil))))))⟩
                  ·refine s_mov (.tup [(.agg [(.int .i64 r_108.1.Id),(.own 10 0 r_108.1.Cells.length)]),(.int .i64 r_108.2)]) rfl<|s_q (.agg [(.int .i64 r_108.1.Id),(.own 10 0 r_108.1.Cells.length)]) rfl (.of nle trivial) rfl<|s_q (.int .i64 r_108.2) rfl (.of nle trivial) rfl<|s_dol (o_box (j:=11) (c:=(.agg [(.int .i64 0),.nil])) rfl trivial rfl rfl) (.inr ⟨⟨(.of nle trivial),rfl⟩,⟨⟨(.of nle trivial),rfl⟩,trivial⟩⟩) trivial<|s_dol0 (o_storebox (v:=(.agg [(.int .i64 r_108.1.Id),(.own 10 0 r_108.1.Cells.length)])) (y':=(.agg [(.int .i64 r_108.1.Id),(.own 10 0 r_108.1.Cells.length)])) rfl rfl rfl trivial ⟨rfl,nle⟩ ⟨⟨rfl,trivial⟩,⟨⟨rfl,trivial⟩,trivial⟩⟩ rfl) trivial trivial<|s_mov (.int .i64 r_108.2) rfl<|?_
                   refine w_done ?_;obtain rfl:=os hb1;exact ⟨[],[2,3,11,4,5,10],_,_,rfl,rfl,⟨.refl _,⟨.refl _,⟨.refl _,⟨.refl _,⟨.refl _,⟨.refl _,trivial⟩⟩⟩⟩⟩⟩,(.cons (.refl _) (.cons (.box (.agg (.cons (.refl _) (.cons (.of_eq (congrArg (AV.own _ 0) (by have h:=(hl85 0 _ _ _ _ rfl rfl);simpa using h.symm))) .nil)))) (.cons (.refl _) (.cons (.refl _) (.cons (.refl _) (.cons (.refl _) .nil))))))⟩
              ·obtain ⟨h1_98,x_99,x_100⟩:=p101
               refine awp_seq<|awp_seq<|?_
               obtain ⟨s133_113,hb1,hf⟩:=ob hf
               refine awp_cut ([(13,(.ptr 0 0 0)),(16,(.int .i64 r_83.1)),(133,(.bool s133_113))],[.box 2 (.agg [(.int .i64 r_39.1.Id),(.own 1 0 r_83.2.Cells.length)]),.row 1 (r_83.2.Cells.map (encL 3 encGAtom))]) ?_ ?_
               ·refine w_reg ?_
                obtain ⟨r_115,er116,hb1⟩:=ob hb1
                rcases oi hb1 with ⟨c117,hb1⟩ | ⟨c117,hb1⟩
                ·refine s_q (.agg [(.int .i64 x_99),(.own 5 0 x_100.length)]) rfl (.of nle trivial) rfl<|s_q (.agg [(.int .i64 x_22),(.own 3 0 x_23.length)]) rfl (.of nle trivial) rfl<|s_do (o_call (w_laws_eqRow _ _ _ er116) rfl (.cons (.agg (.cons (.refl _) (.cons (.of_eq (congrArg (AV.lst _) (tko (enc:=(encL 3 encGAtom)) x_100))) .nil))) (.cons (.agg (.cons (.refl _) (.cons (.of_eq (congrArg (AV.lst _) (tko (enc:=(encL 3 encGAtom)) x_23))) .nil))) .nil)) rfl)<|s_q (.bool (!r_115)) rfl (.of trivial trivial) rfl<|s_mov (.bool (!r_115)) rfl<|s_lit (s:=129) (b:=true) rfl c117<|s_off rfl rfl<|s_off rfl rfl<|s_off rfl rfl<|s_q (.bool true) rfl (.of trivial trivial) rfl<|w_done<|?_;obtain rfl:=os hb1
                 exact ⟨[],[1,4],_,_,rfl,rfl,⟨.refl _,⟨.refl _,⟨.refl _,trivial⟩⟩⟩,(.refl _)⟩
                ·refine s_q (.agg [(.int .i64 x_99),(.own 5 0 x_100.length)]) rfl (.of nle trivial) rfl<|s_q (.agg [(.int .i64 x_22),(.own 3 0 x_23.length)]) rfl (.of nle trivial) rfl<|s_do (o_call (w_laws_eqRow _ _ _ er116) rfl (.cons (.agg (.cons (.refl _) (.cons (.of_eq (congrArg (AV.lst _) (tko (enc:=(encL 3 encGAtom)) x_100))) .nil))) (.cons (.agg (.cons (.refl _) (.cons (.of_eq (congrArg (AV.lst _) (tko (enc:=(encL 3 encGAtom)) x_23))) .nil))) .nil)) rfl)<|s_q (.bool (!r_115)) rfl (.of trivial trivial) rfl<|s_mov (.bool (!r_115)) rfl<|s_lit (s:=129) (b:=false) rfl (bf c117)<|s_on rfl<|s_mov (.int .i64 h1_98) rfl<|s_on rfl<|s_mov (.int .i64 w1_21) rfl<|s_on rfl<|s_q (.bool (h1_98 != w1_21)) rfl (.of rfl trivial) rfl<|?_
                 refine s_q (.bool (h1_98 != w1_21)) rfl (.of trivial trivial) rfl<|w_done<|?_;obtain rfl:=os hb1;exact ⟨[],[1,4],_,_,rfl,rfl,⟨.refl _,⟨.refl _,⟨.refl _,trivial⟩⟩⟩,(.refl _)⟩
               ·rcases oi hf with ⟨c118,hf⟩ | ⟨c118,hf⟩
                ·refine w_condt rfl c118<|sr<|s_mov (.bool false) rfl<|dk<|w_ret<|?_;obtain rfl:=os hf;exact r_flat ⟨.of trivial trivial,trivial⟩ rfl (.refl _)
                ·refine w_condf rfl (bf c118)<|w_skip<|k_seq<|sr<|s_mov (.int .i64 1) rfl<|dk<|sr<|?_
                 obtain ⟨r_119,er120,hf⟩:=ob hf
                 refine s_q (.agg [(.int .i64 r_39.1.Id),(.own 1 0 r_83.2.Cells.length)]) rfl (.of nle trivial) rfl<|s_mov (.int .i64 1) rfl<|s_do (o_call (w_laws_heldRow _ _ _ er120) rfl (.cons (.agg (.cons (.refl _) (.cons (.of_eq (congrArg (AV.lst _) (tko (enc:=(encL 3 encGAtom)) r_83.2.Cells))) .nil))) (.cons (.refl _) .nil)) rfl)<|s_mov (.int .i64 r_119) rfl<|dk<|awp_seq<|sr<|s_mov (.int .i64 r_119) rfl<|s_q (.bool (decide (r_119 < 0))) rfl (.of rfl trivial) rfl<|dk<|?_
                 rcases oi hf with ⟨c121,hf⟩ | ⟨c121,hf⟩
                 ·refine w_condt rfl c121<|sr<|s_mov (.bool false) rfl<|dk<|w_ret<|?_;obtain rfl:=os hf;exact r_flat ⟨.of trivial trivial,trivial⟩ rfl (.refl _)
                 ·refine w_condf rfl (bf c121)<|w_skip<|k_seq<|awp_seq<|sr<|s_mov (.int .i64 r_119) rfl<|s_mov (.int .i64 r_83.1) rfl<|s_q (.bool (r_119 != r_83.1)) rfl (.of rfl trivial) rfl<|dk<|?_
                  rcases oi hf with ⟨c122,hf⟩ | ⟨c122,hf⟩
                  ·refine w_condt rfl c122<|sr<|s_mov (.bool false) rfl<|dk<|w_ret<|?_;obtain rfl:=os hf;exact r_flat ⟨.of trivial trivial,trivial⟩ rfl (.refl _)
                  ·refine w_condf rfl (bf c122)<|w_skip<|k_seq<|sr<|s_mov (.bool true) rfl<|dk<|w_ret<|?_;obtain rfl:=os hf;exact r_flat ⟨.of trivial trivial,trivial⟩ rfl (.refl _)

end Go.R
