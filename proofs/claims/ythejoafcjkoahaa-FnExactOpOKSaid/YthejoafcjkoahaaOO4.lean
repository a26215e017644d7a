/- Walks. -/
import Derived.Test.YthejoafcjkoahaaOO3
set_option linter.all false
namespace Go.R
open Go Go.Proofs
set_option linter.unusedVariables false
set_option linter.unusedSimpArgs false
set_option maxHeartbeats 8000000
/- (impl.Op).isUnused -/
def c36 : ACode :=
 (.seq (.reg (.q ⟨(some 1), none, .box 8 (.t 0)⟩
 (.q ⟨(some 2), none, .mov (.c (.bool false))⟩
 .done)))
 (.seq (.reg (.q ⟨(some 10), none, .faddr 1 (.t 1)⟩
 (.q ⟨(some 11), none, .load 1 false (.t 10)⟩
 (.q ⟨(some 12), none, .bin .eql (.t 11) (.c (.str []))⟩
 (.q ⟨(some 13), none, .faddr 2 (.t 1)⟩
 (.q ⟨(some 14), none, .load 1 false (.t 13)⟩
 (.q ⟨(some 15), none, .bin .eql (.t 14) (.c (.str []))⟩
 (.q ⟨(some 16), none, .faddr 3 (.t 1)⟩
 (.q ⟨(some 17), none, .load 1 false (.t 16)⟩
 (.q ⟨(some 18), none, .len (.t 17)⟩
 (.q ⟨(some 19), none, .bin .eql (.t 18) (.c (.int .i64 0))⟩
 (.q ⟨(some 20), none, .faddr 4 (.t 1)⟩
 (.q ⟨(some 21), none, .load 1 false (.t 20)⟩
 (.q ⟨(some 22), none, .len (.t 21)⟩
 (.q ⟨(some 23), none, .bin .eql (.t 22) (.c (.int .i64 0))⟩
 (.q ⟨(some 3), none, .mov (.t 12)⟩
 (.q ⟨(some 4), none, .mov (.t 15)⟩
 (.q ⟨(some 5), none, .mov (.t 19)⟩
 (.q ⟨(some 6), none, .mov (.t 23)⟩
 .done)))))))))))))))))))
 (.seq (.reg (.q ⟨(some 24), none, .faddr 5 (.t 1)⟩
 (.q ⟨(some 25), none, .load 1 false (.t 24)⟩
 (.q ⟨(some 26), none, .len (.t 25)⟩
 (.q ⟨(some 27), none, .bin .eql (.t 26) (.c (.int .i64 0))⟩
 (.q ⟨(some 28), none, .faddr 6 (.t 1)⟩
 (.q ⟨(some 29), none, .load 1 false (.t 28)⟩
 (.q ⟨(some 30), none, .len (.t 29)⟩
 (.q ⟨(some 31), none, .bin .eql (.t 30) (.c (.int .i64 0))⟩
 (.q ⟨(some 32), none, .faddr 7 (.t 1)⟩
 (.q ⟨(some 33), none, .load 1 false (.t 32)⟩
 (.q ⟨(some 34), none, .not (.t 33)⟩
 (.q ⟨(some 7), none, .mov (.t 27)⟩
 (.q ⟨(some 8), none, .mov (.t 31)⟩
 (.q ⟨(some 9), none, .mov (.t 34)⟩
 .done)))))))))))))))
 (.seq (.seq (.reg (.q ⟨(some 35), none, .faddr 0 (.t 1)⟩
 (.q ⟨(some 36), none, .load 1 false (.t 35)⟩
 .done)))
 (.block 0 (.seq (.reg (.q ⟨(some 38), none, .bin .eql (.t 36) (.c (.int .i64 1))⟩
 (.q ⟨(some 37), none, .mov (.t 38)⟩
 .done)))
 (.cond (.t 37) (.seq (.reg (.q ⟨(some 39), none, .mov (.t 5)⟩
 (.q ⟨(some 40), none, .mov (.t 39)⟩
 (.q ⟨(some 41), (some (40, true)), .mov (.t 7)⟩
 (.q ⟨(some 42), none, .pick (.t 40) (.t 41) (.c (.bool false))⟩
 (.q ⟨(some 43), none, .mov (.t 42)⟩
 (.q ⟨(some 44), (some (43, true)), .mov (.t 8)⟩
 (.q ⟨(some 45), none, .pick (.t 43) (.t 44) (.c (.bool false))⟩
 (.q ⟨(some 46), none, .mov (.t 45)⟩
 (.q ⟨(some 47), (some (46, true)), .mov (.t 9)⟩
 (.q ⟨(some 48), none, .pick (.t 46) (.t 47) (.c (.bool false))⟩
 (.q ⟨(some 2), none, .mov (.t 48)⟩
 .done))))))))))))
 .ret)
 (.seq (.reg (.q ⟨(some 50), none, .bin .eql (.t 36) (.c (.int .i64 2))⟩
 (.q ⟨(some 49), none, .mov (.t 50)⟩
 .done)))
 (.cond (.t 49) (.seq (.reg (.q ⟨(some 51), none, .mov (.t 4)⟩
 (.q ⟨(some 52), none, .mov (.t 51)⟩
 (.q ⟨(some 53), (some (52, true)), .mov (.t 6)⟩
 (.q ⟨(some 54), none, .pick (.t 52) (.t 53) (.c (.bool false))⟩
 (.q ⟨(some 55), none, .mov (.t 54)⟩
 (.q ⟨(some 56), (some (55, true)), .mov (.t 7)⟩
 (.q ⟨(some 57), none, .pick (.t 55) (.t 56) (.c (.bool false))⟩
 (.q ⟨(some 58), none, .mov (.t 57)⟩
 (.q ⟨(some 59), (some (58, true)), .mov (.t 9)⟩
 (.q ⟨(some 60), none, .pick (.t 58) (.t 59) (.c (.bool false))⟩
 (.q ⟨(some 2), none, .mov (.t 60)⟩
 .done))))))))))))
 .ret)
 (.seq (.reg (.q ⟨(some 62), none, .bin .eql (.t 36) (.c (.int .i64 3))⟩
 (.q ⟨(some 61), none, .mov (.t 62)⟩
 .done)))
 (.cond (.t 61) (.seq (.reg (.q ⟨(some 63), none, .mov (.t 4)⟩
 (.q ⟨(some 64), none, .mov (.t 63)⟩
 (.q ⟨(some 65), (some (64, true)), .mov (.t 7)⟩
 (.q ⟨(some 66), none, .pick (.t 64) (.t 65) (.c (.bool false))⟩
 (.q ⟨(some 67), none, .mov (.t 66)⟩
 (.q ⟨(some 68), (some (67, true)), .mov (.t 8)⟩
 (.q ⟨(some 69), none, .pick (.t 67) (.t 68) (.c (.bool false))⟩
 (.q ⟨(some 70), none, .mov (.t 69)⟩
 (.q ⟨(some 71), (some (70, true)), .mov (.t 9)⟩
 (.q ⟨(some 72), none, .pick (.t 70) (.t 71) (.c (.bool false))⟩
 (.q ⟨(some 2), none, .mov (.t 72)⟩
 .done))))))))))))
 .ret)
 (.seq (.reg (.q ⟨(some 74), none, .bin .eql (.t 36) (.c (.int .i64 4))⟩
 (.q ⟨(some 73), none, .mov (.t 74)⟩
 .done)))
 (.cond (.t 73) (.seq (.reg (.q ⟨(some 75), none, .mov (.t 4)⟩
 (.q ⟨(some 76), none, .mov (.t 75)⟩
 (.q ⟨(some 77), (some (76, true)), .mov (.t 6)⟩
 (.q ⟨(some 78), none, .pick (.t 76) (.t 77) (.c (.bool false))⟩
 (.q ⟨(some 79), none, .mov (.t 78)⟩
 (.q ⟨(some 80), (some (79, true)), .mov (.t 8)⟩
 (.q ⟨(some 81), none, .pick (.t 79) (.t 80) (.c (.bool false))⟩
 (.q ⟨(some 82), none, .mov (.t 81)⟩
 (.q ⟨(some 83), (some (82, true)), .mov (.t 9)⟩
 (.q ⟨(some 84), none, .pick (.t 82) (.t 83) (.c (.bool false))⟩
 (.q ⟨(some 2), none, .mov (.t 84)⟩
 .done))))))))))))
 .ret)
 (.seq (.reg (.q ⟨(some 86), none, .bin .eql (.t 36) (.c (.int .i64 5))⟩
 (.q ⟨(some 85), none, .mov (.t 86)⟩
 .done)))
 (.cond (.t 85) (.seq (.reg (.q ⟨(some 87), none, .mov (.t 4)⟩
 (.q ⟨(some 88), none, .mov (.t 87)⟩
 (.q ⟨(some 89), (some (88, true)), .mov (.t 6)⟩
 (.q ⟨(some 90), none, .pick (.t 88) (.t 89) (.c (.bool false))⟩
 (.q ⟨(some 91), none, .mov (.t 90)⟩
 (.q ⟨(some 92), (some (91, true)), .mov (.t 7)⟩
 (.q ⟨(some 93), none, .pick (.t 91) (.t 92) (.c (.bool false))⟩
 (.q ⟨(some 94), none, .mov (.t 93)⟩
 (.q ⟨(some 95), (some (94, true)), .mov (.t 8)⟩
 (.q ⟨(some 96), none, .pick (.t 94) (.t 95) (.c (.bool false))⟩
 (.q ⟨(some 97), none, .mov (.t 96)⟩
 (.q ⟨(some 98), (some (97, true)), .mov (.t 9)⟩
 (.q ⟨(some 99), none, .pick (.t 97) (.t 98) (.c (.bool false))⟩
 (.q ⟨(some 2), none, .mov (.t 99)⟩
 .done)))))))))))))))
 .ret)
 (.seq (.reg (.q ⟨(some 101), none, .bin .eql (.t 36) (.c (.int .i64 6))⟩
 (.q ⟨(some 100), none, .mov (.t 101)⟩
 .done)))
 (.cond (.t 100) (.seq (.reg (.q ⟨(some 102), none, .mov (.t 4)⟩
 (.q ⟨(some 103), none, .mov (.t 102)⟩
 (.q ⟨(some 104), (some (103, true)), .mov (.t 7)⟩
 (.q ⟨(some 105), none, .pick (.t 103) (.t 104) (.c (.bool false))⟩
 (.q ⟨(some 106), none, .mov (.t 105)⟩
 (.q ⟨(some 107), (some (106, true)), .mov (.t 8)⟩
 (.q ⟨(some 108), none, .pick (.t 106) (.t 107) (.c (.bool false))⟩
 (.q ⟨(some 2), none, .mov (.t 108)⟩
 .done)))))))))
 .ret)
 (.seq (.seq (.reg (.q ⟨(some 110), none, .bin .eql (.t 36) (.c (.int .i64 7))⟩
 (.q ⟨(some 109), none, .mov (.t 110)⟩
 .done)))
 (.cond (.t 109) .skip
 (.reg (.q ⟨(some 111), none, .bin .eql (.t 36) (.c (.int .i64 8))⟩
 (.q ⟨(some 109), none, .mov (.t 111)⟩
 .done)))))
 (.cut (.cond (.t 109) (.seq (.reg (.q ⟨(some 112), none, .mov (.t 3)⟩
 (.q ⟨(some 113), none, .mov (.t 112)⟩
 (.q ⟨(some 114), (some (113, true)), .mov (.t 4)⟩
 (.q ⟨(some 115), none, .pick (.t 113) (.t 114) (.c (.bool false))⟩
 (.q ⟨(some 116), none, .mov (.t 115)⟩
 (.q ⟨(some 117), (some (116, true)), .mov (.t 5)⟩
 (.q ⟨(some 118), none, .pick (.t 116) (.t 117) (.c (.bool false))⟩
 (.q ⟨(some 119), none, .mov (.t 118)⟩
 (.q ⟨(some 120), (some (119, true)), .mov (.t 6)⟩
 (.q ⟨(some 121), none, .pick (.t 119) (.t 120) (.c (.bool false))⟩
 (.q ⟨(some 122), none, .mov (.t 121)⟩
 (.q ⟨(some 123), (some (122, true)), .mov (.t 7)⟩
 (.q ⟨(some 124), none, .pick (.t 122) (.t 123) (.c (.bool false))⟩
 (.q ⟨(some 125), none, .mov (.t 124)⟩
 (.q ⟨(some 126), (some (125, true)), .mov (.t 8)⟩
 (.q ⟨(some 127), none, .pick (.t 125) (.t 126) (.c (.bool false))⟩
 (.q ⟨(some 128), none, .mov (.t 127)⟩
 (.q ⟨(some 129), (some (128, true)), .mov (.t 9)⟩
 (.q ⟨(some 130), none, .pick (.t 128) (.t 129) (.c (.bool false))⟩
 (.q ⟨(some 2), none, .mov (.t 130)⟩
 .done)))))))))))))))))))))
 .ret)
 (.seq (.seq (.reg (.q ⟨(some 132), none, .bin .eql (.t 36) (.c (.int .i64 9))⟩
 (.q ⟨(some 131), none, .mov (.t 132)⟩
 .done)))
 (.cond (.t 131) .skip
 (.reg (.q ⟨(some 133), none, .bin .eql (.t 36) (.c (.int .i64 10))⟩
 (.q ⟨(some 131), none, .mov (.t 133)⟩
 .done)))))
 (.cut (.cond (.t 131) (.seq (.reg (.q ⟨(some 134), none, .mov (.t 3)⟩
 (.q ⟨(some 135), none, .mov (.t 134)⟩
 (.q ⟨(some 136), (some (135, true)), .mov (.t 5)⟩
 (.q ⟨(some 137), none, .pick (.t 135) (.t 136) (.c (.bool false))⟩
 (.q ⟨(some 138), none, .mov (.t 137)⟩
 (.q ⟨(some 139), (some (138, true)), .mov (.t 6)⟩
 (.q ⟨(some 140), none, .pick (.t 138) (.t 139) (.c (.bool false))⟩
 (.q ⟨(some 141), none, .mov (.t 140)⟩
 (.q ⟨(some 142), (some (141, true)), .mov (.t 7)⟩
 (.q ⟨(some 143), none, .pick (.t 141) (.t 142) (.c (.bool false))⟩
 (.q ⟨(some 144), none, .mov (.t 143)⟩
 (.q ⟨(some 145), (some (144, true)), .mov (.t 8)⟩
 (.q ⟨(some 146), none, .pick (.t 144) (.t 145) (.c (.bool false))⟩
 (.q ⟨(some 147), none, .mov (.t 146)⟩
 (.q ⟨(some 148), (some (147, true)), .mov (.t 9)⟩
 (.q ⟨(some 149), none, .pick (.t 147) (.t 148) (.c (.bool false))⟩
 (.q ⟨(some 2), none, .mov (.t 149)⟩
 .done))))))))))))))))))
 .ret)
 .skip))))))))))))))))))))
 (.seq (.reg (.q ⟨(some 2), none, .mov (.c (.bool false))⟩
 .done))
 .ret)))))
theorem fc36 : fcomp Try.prog Try.f36 = some (c36.erase, [.mov (.t 2)], 150) := by kernel_rfl
def impl_Op_isUnused (o_1 : GOp) : Option Bool :=
    if (o_1.Kind == 1) then
    if ((o_1.Where.length : Int) == 0) then
    if ((o_1.Muts.length : Int) == 0) then
    if ((o_1.Columns.length : Int) == 0) then
    some (!o_1.Until)
    else
    some false
    else
    some false
    else
    some false
    else
    if (o_1.Kind == 2) then
    if (o_1.Name == []) then
    if ((o_1.Row.length : Int) == 0) then
    if ((o_1.Muts.length : Int) == 0) then
    some (!o_1.Until)
    else
    some false
    else
    some false
    else
    some false
    else
    if (o_1.Kind == 3) then
    if (o_1.Name == []) then
    if ((o_1.Muts.length : Int) == 0) then
    if ((o_1.Columns.length : Int) == 0) then
    some (!o_1.Until)
    else
    some false
    else
    some false
    else
    some false
    else
    if (o_1.Kind == 4) then
    if (o_1.Name == []) then
    if ((o_1.Row.length : Int) == 0) then
    if ((o_1.Columns.length : Int) == 0) then
    some (!o_1.Until)
    else
    some false
    else
    some false
    else
    some false
    else
    if (o_1.Kind == 5) then
    if (o_1.Name == []) then
    if ((o_1.Row.length : Int) == 0) then
    if ((o_1.Muts.length : Int) == 0) then
    if ((o_1.Columns.length : Int) == 0) then
    some (!o_1.Until)
    else
    some false
    else
    some false
    else
    some false
    else
    some false
    else
    if (o_1.Kind == 6) then
    if (o_1.Name == []) then
    if ((o_1.Muts.length : Int) == 0) then
    some ((o_1.Columns.length : Int) == 0)
    else
    some false
    else
    some false
    else
    ((if (o_1.Kind == 7) then
    some true
    else
    some (o_1.Kind == 8) : Option Bool)).bind fun s109_31 =>
    if s109_31 then
    if (o_1.Table == []) then
    if (o_1.Name == []) then
    if ((o_1.Where.length : Int) == 0) then
    if ((o_1.Row.length : Int) == 0) then
    if ((o_1.Muts.length : Int) == 0) then
    if ((o_1.Columns.length : Int) == 0) then
    some (!o_1.Until)
    else
    some false
    else
    some false
    else
    some false
    else
    some false
    else
    some false
    else
    some false
    else
    ((if (o_1.Kind == 9) then
    some true
    else
    some (o_1.Kind == 10) : Option Bool)).bind fun s131_42 =>
    if s131_42 then
    if (o_1.Table == []) then
    if ((o_1.Where.length : Int) == 0) then
    if ((o_1.Row.length : Int) == 0) then
    if ((o_1.Muts.length : Int) == 0) then
    if ((o_1.Columns.length : Int) == 0) then
    some (!o_1.Until)
    else
    some false
    else
    some false
    else
    some false
    else
    some false
    else
    some false
    else
    some false
theorem w_impl_Op_isUnused (o_1 : GOp) (r : Bool) (hf : impl_Op_isUnused o_1 = some r) : CallOK Try.prog 36 .flat [(encGOp o_1)] (.bool r) := by
 refine CallOK.of_awp mixed Try.func36 fc36 nle ?_; rw [argT_eq]; unfold impl_Op_isUnused at hf; unfold c36; refine (show awp Try.prog false 0 _ (ofL [(0, (encGOp o_1))]) [] _ from ?_); refine awp_seq ?_; refine w_reg ?_; refine s_do (o_box (j := 0) (c := (.agg [(.int .i64 o_1.Kind), (.str o_1.Table), (.str o_1.Name), (.lst 3 (o_1.Where.map encGCond)), (.lst 3 (o_1.Row.map encGSet)), (.lst 3 (o_1.Muts.map encGMut)), (.lst 1 (o_1.Columns.map AV.str)), (.bool o_1.Until)])) rfl trivial rfl rfl) ?_; refine s_do (o_mov (.bool false) rfl) ?_; refine w_done ?_; refine k_seq ?_; refine awp_seq ?_; refine w_reg ?_
 refine s_do (o_q (.ptr 0 0 1) rfl trivial rfl) ?_; refine s_do (o_q (.str o_1.Table) rfl nle rfl) ?_; refine s_do (o_q (.bool (o_1.Table == [])) rfl trivial rfl) ?_; refine s_do (o_q (.ptr 0 0 2) rfl trivial rfl) ?_; refine s_do (o_q (.str o_1.Name) rfl nle rfl) ?_; refine s_do (o_q (.bool (o_1.Name == [])) rfl trivial rfl) ?_; refine s_do (o_q (.ptr 0 0 3) rfl trivial rfl) ?_; refine s_do (o_q (.lst 3 (o_1.Where.map encGCond)) rfl nle rfl) ?_; refine s_dof (o_len (enc := encGCond) rfl) fun hl2 => ?_; refine s_do (o_q (.bool ((o_1.Where.length : Int) == 0)) rfl rfl rfl) ?_; refine s_do (o_q (.ptr 0 0 4) rfl trivial rfl) ?_
 refine s_do (o_q (.lst 3 (o_1.Row.map encGSet)) rfl nle rfl) ?_; refine s_dof (o_len (enc := encGSet) rfl) fun hl3 => ?_; refine s_do (o_q (.bool ((o_1.Row.length : Int) == 0)) rfl rfl rfl) ?_; refine s_do (o_mov (.bool (o_1.Table == [])) rfl) ?_; refine s_do (o_mov (.bool (o_1.Name == [])) rfl) ?_; refine s_do (o_mov (.bool ((o_1.Where.length : Int) == 0)) rfl) ?_; refine s_do (o_mov (.bool ((o_1.Row.length : Int) == 0)) rfl) ?_; refine w_done ?_; refine k_seq ?_; refine awp_seq ?_; refine w_reg ?_; refine s_do (o_q (.ptr 0 0 5) rfl trivial rfl) ?_; refine s_do (o_q (.lst 3 (o_1.Muts.map encGMut)) rfl nle rfl) ?_
 refine s_dof (o_len (enc := encGMut) rfl) fun hl4 => ?_; refine s_do (o_q (.bool ((o_1.Muts.length : Int) == 0)) rfl rfl rfl) ?_; refine s_do (o_q (.ptr 0 0 6) rfl trivial rfl) ?_; refine s_do (o_q (.lst 1 (o_1.Columns.map AV.str)) rfl nle rfl) ?_; refine s_dof (o_len (enc := AV.str) rfl) fun hl5 => ?_; refine s_do (o_q (.bool ((o_1.Columns.length : Int) == 0)) rfl rfl rfl) ?_; refine s_do (o_q (.ptr 0 0 7) rfl trivial rfl) ?_; refine s_do (o_q (.bool o_1.Until) rfl nle rfl) ?_; refine s_do (o_q (.bool (!o_1.Until)) rfl trivial rfl) ?_; refine s_do (o_mov (.bool ((o_1.Muts.length : Int) == 0)) rfl) ?_
 refine s_do (o_mov (.bool ((o_1.Columns.length : Int) == 0)) rfl) ?_; refine s_do (o_mov (.bool (!o_1.Until)) rfl) ?_; refine w_done ?_; refine k_seq ?_; refine awp_seq ?_; refine awp_seq ?_; refine w_reg ?_; refine s_do (o_q (.ptr 0 0 0) rfl trivial rfl) ?_; refine s_do (o_q (.int .i64 o_1.Kind) rfl nle rfl) ?_; refine w_done ?_; refine k_seq ?_; refine w_blk ?_; refine awp_seq ?_; refine w_reg ?_; refine s_do (o_q (.bool (o_1.Kind == 1)) rfl rfl rfl) ?_; refine s_do (o_mov (.bool (o_1.Kind == 1)) rfl) ?_; refine w_done ?_; refine k_seq ?_
 rcases oi hf with ⟨c6, hf⟩ | ⟨c6, hf⟩
 ·refine w_condt rfl c6 ?_; refine awp_seq ?_; refine w_reg ?_
  rcases oi hf with ⟨c7, hf⟩ | ⟨c7, hf⟩
  ·rcases oi hf with ⟨c8, hf⟩ | ⟨c8, hf⟩
   ·rcases oi hf with ⟨c9, hf⟩ | ⟨c9, hf⟩
    ·refine s_do (o_mov (.bool ((o_1.Where.length : Int) == 0)) rfl) ?_; refine s_do (o_mov (.bool ((o_1.Where.length : Int) == 0)) rfl) ?_; refine s_lit (s := 40) (b := true) rfl c7 ?_; refine s_on rfl ?_; refine s_do (o_mov (.bool ((o_1.Muts.length : Int) == 0)) rfl) ?_; refine s_do (o_q (.bool ((o_1.Muts.length : Int) == 0)) rfl trivial rfl) ?_; refine s_do (o_mov (.bool ((o_1.Muts.length : Int) == 0)) rfl) ?_; refine s_lit (s := 43) (b := true) rfl c8 ?_; refine s_on rfl ?_; refine s_do (o_mov (.bool ((o_1.Columns.length : Int) == 0)) rfl) ?_; refine s_do (o_q (.bool ((o_1.Columns.length : Int) == 0)) rfl trivial rfl) ?_
     refine s_do (o_mov (.bool ((o_1.Columns.length : Int) == 0)) rfl) ?_; refine s_lit (s := 46) (b := true) rfl c9 ?_; refine s_on rfl ?_; refine s_do (o_mov (.bool (!o_1.Until)) rfl) ?_; refine s_do (o_q (.bool (!o_1.Until)) rfl trivial rfl) ?_; refine s_do (o_mov (.bool (!o_1.Until)) rfl) ?_; refine w_done ?_; refine k_seq ?_; refine w_ret ?_; obtain rfl := os hf; exact r_flat ⟨trivial, trivial⟩ rfl (.refl _)
    ·refine s_do (o_mov (.bool ((o_1.Where.length : Int) == 0)) rfl) ?_; refine s_do (o_mov (.bool ((o_1.Where.length : Int) == 0)) rfl) ?_; refine s_lit (s := 40) (b := true) rfl c7 ?_; refine s_on rfl ?_; refine s_do (o_mov (.bool ((o_1.Muts.length : Int) == 0)) rfl) ?_; refine s_do (o_q (.bool ((o_1.Muts.length : Int) == 0)) rfl trivial rfl) ?_; refine s_do (o_mov (.bool ((o_1.Muts.length : Int) == 0)) rfl) ?_; refine s_lit (s := 43) (b := true) rfl c8 ?_; refine s_on rfl ?_; refine s_do (o_mov (.bool ((o_1.Columns.length : Int) == 0)) rfl) ?_; refine s_do (o_q (.bool ((o_1.Columns.length : Int) == 0)) rfl trivial rfl) ?_
     refine s_do (o_mov (.bool ((o_1.Columns.length : Int) == 0)) rfl) ?_; refine s_lit (s := 46) (b := false) rfl (bf c9) ?_; refine s_off rfl rfl ?_; refine s_do (o_q (.bool false) rfl trivial rfl) ?_; refine s_do (o_mov (.bool false) rfl) ?_; refine w_done ?_; refine k_seq ?_; refine w_ret ?_; obtain rfl := os hf; exact r_flat ⟨trivial, trivial⟩ rfl (.refl _)
   ·refine s_do (o_mov (.bool ((o_1.Where.length : Int) == 0)) rfl) ?_; refine s_do (o_mov (.bool ((o_1.Where.length : Int) == 0)) rfl) ?_; refine s_lit (s := 40) (b := true) rfl c7 ?_; refine s_on rfl ?_; refine s_do (o_mov (.bool ((o_1.Muts.length : Int) == 0)) rfl) ?_; refine s_do (o_q (.bool ((o_1.Muts.length : Int) == 0)) rfl trivial rfl) ?_; refine s_do (o_mov (.bool ((o_1.Muts.length : Int) == 0)) rfl) ?_; refine s_lit (s := 43) (b := false) rfl (bf c8) ?_; refine s_off rfl rfl ?_; refine s_do (o_q (.bool false) rfl trivial rfl) ?_; refine s_do (o_mov (.bool false) rfl) ?_; refine s_off rfl rfl ?_
    refine s_do (o_q (.bool false) rfl trivial rfl) ?_; refine s_do (o_mov (.bool false) rfl) ?_; refine w_done ?_; refine k_seq ?_; refine w_ret ?_; obtain rfl := os hf; exact r_flat ⟨trivial, trivial⟩ rfl (.refl _)
  ·refine s_do (o_mov (.bool ((o_1.Where.length : Int) == 0)) rfl) ?_; refine s_do (o_mov (.bool ((o_1.Where.length : Int) == 0)) rfl) ?_; refine s_lit (s := 40) (b := false) rfl (bf c7) ?_; refine s_off rfl rfl ?_; refine s_do (o_q (.bool false) rfl trivial rfl) ?_; refine s_do (o_mov (.bool false) rfl) ?_; refine s_off rfl rfl ?_; refine s_do (o_q (.bool false) rfl trivial rfl) ?_; refine s_do (o_mov (.bool false) rfl) ?_; refine s_off rfl rfl ?_; refine s_do (o_q (.bool false) rfl trivial rfl) ?_; refine s_do (o_mov (.bool false) rfl) ?_; refine w_done ?_; refine k_seq ?_; refine w_ret ?_; obtain rfl := os hf
   exact r_flat ⟨trivial, trivial⟩ rfl (.refl _)
 ·refine w_condf rfl (bf c6) ?_; refine awp_seq ?_; refine w_reg ?_; refine s_do (o_q (.bool (o_1.Kind == 2)) rfl rfl rfl) ?_; refine s_do (o_mov (.bool (o_1.Kind == 2)) rfl) ?_; refine w_done ?_; refine k_seq ?_
  rcases oi hf with ⟨c10, hf⟩ | ⟨c10, hf⟩
  ·refine w_condt rfl c10 ?_; refine awp_seq ?_; refine w_reg ?_
   rcases oi hf with ⟨c11, hf⟩ | ⟨c11, hf⟩
   ·rcases oi hf with ⟨c12, hf⟩ | ⟨c12, hf⟩
    ·rcases oi hf with ⟨c13, hf⟩ | ⟨c13, hf⟩
     ·refine s_do (o_mov (.bool (o_1.Name == [])) rfl) ?_; refine s_do (o_mov (.bool (o_1.Name == [])) rfl) ?_; refine s_lit (s := 52) (b := true) rfl c11 ?_; refine s_on rfl ?_; refine s_do (o_mov (.bool ((o_1.Row.length : Int) == 0)) rfl) ?_; refine s_do (o_q (.bool ((o_1.Row.length : Int) == 0)) rfl trivial rfl) ?_; refine s_do (o_mov (.bool ((o_1.Row.length : Int) == 0)) rfl) ?_; refine s_lit (s := 55) (b := true) rfl c12 ?_; refine s_on rfl ?_; refine s_do (o_mov (.bool ((o_1.Muts.length : Int) == 0)) rfl) ?_; refine s_do (o_q (.bool ((o_1.Muts.length : Int) == 0)) rfl trivial rfl) ?_; refine s_do (o_mov (.bool ((o_1.Muts.length : Int) == 0)) rfl) ?_
      refine s_lit (s := 58) (b := true) rfl c13 ?_; refine s_on rfl ?_; refine s_do (o_mov (.bool (!o_1.Until)) rfl) ?_; refine s_do (o_q (.bool (!o_1.Until)) rfl trivial rfl) ?_; refine s_do (o_mov (.bool (!o_1.Until)) rfl) ?_; refine w_done ?_; refine k_seq ?_; refine w_ret ?_; obtain rfl := os hf; exact r_flat ⟨trivial, trivial⟩ rfl (.refl _)
     ·refine s_do (o_mov (.bool (o_1.Name == [])) rfl) ?_; refine s_do (o_mov (.bool (o_1.Name == [])) rfl) ?_; refine s_lit (s := 52) (b := true) rfl c11 ?_; refine s_on rfl ?_; refine s_do (o_mov (.bool ((o_1.Row.length : Int) == 0)) rfl) ?_; refine s_do (o_q (.bool ((o_1.Row.length : Int) == 0)) rfl trivial rfl) ?_; refine s_do (o_mov (.bool ((o_1.Row.length : Int) == 0)) rfl) ?_; refine s_lit (s := 55) (b := true) rfl c12 ?_; refine s_on rfl ?_; refine s_do (o_mov (.bool ((o_1.Muts.length : Int) == 0)) rfl) ?_; refine s_do (o_q (.bool ((o_1.Muts.length : Int) == 0)) rfl trivial rfl) ?_; refine s_do (o_mov (.bool ((o_1.Muts.length : Int) == 0)) rfl) ?_
      refine s_lit (s := 58) (b := false) rfl (bf c13) ?_; refine s_off rfl rfl ?_; refine s_do (o_q (.bool false) rfl trivial rfl) ?_; refine s_do (o_mov (.bool false) rfl) ?_; refine w_done ?_; refine k_seq ?_; refine w_ret ?_; obtain rfl := os hf; exact r_flat ⟨trivial, trivial⟩ rfl (.refl _)
    ·refine s_do (o_mov (.bool (o_1.Name == [])) rfl) ?_; refine s_do (o_mov (.bool (o_1.Name == [])) rfl) ?_; refine s_lit (s := 52) (b := true) rfl c11 ?_; refine s_on rfl ?_; refine s_do (o_mov (.bool ((o_1.Row.length : Int) == 0)) rfl) ?_; refine s_do (o_q (.bool ((o_1.Row.length : Int) == 0)) rfl trivial rfl) ?_; refine s_do (o_mov (.bool ((o_1.Row.length : Int) == 0)) rfl) ?_; refine s_lit (s := 55) (b := false) rfl (bf c12) ?_; refine s_off rfl rfl ?_; refine s_do (o_q (.bool false) rfl trivial rfl) ?_; refine s_do (o_mov (.bool false) rfl) ?_; refine s_off rfl rfl ?_; refine s_do (o_q (.bool false) rfl trivial rfl) ?_
     refine s_do (o_mov (.bool false) rfl) ?_; refine w_done ?_; refine k_seq ?_; refine w_ret ?_; obtain rfl := os hf; exact r_flat ⟨trivial, trivial⟩ rfl (.refl _)
   ·refine s_do (o_mov (.bool (o_1.Name == [])) rfl) ?_; refine s_do (o_mov (.bool (o_1.Name == [])) rfl) ?_; refine s_lit (s := 52) (b := false) rfl (bf c11) ?_; refine s_off rfl rfl ?_; refine s_do (o_q (.bool false) rfl trivial rfl) ?_; refine s_do (o_mov (.bool false) rfl) ?_; refine s_off rfl rfl ?_; refine s_do (o_q (.bool false) rfl trivial rfl) ?_; refine s_do (o_mov (.bool false) rfl) ?_; refine s_off rfl rfl ?_; refine s_do (o_q (.bool false) rfl trivial rfl) ?_; refine s_do (o_mov (.bool false) rfl) ?_; refine w_done ?_; refine k_seq ?_; refine w_ret ?_; obtain rfl := os hf; exact r_flat ⟨trivial, trivial⟩ rfl (.refl _)
  ·refine w_condf rfl (bf c10) ?_; refine awp_seq ?_; refine w_reg ?_; refine s_do (o_q (.bool (o_1.Kind == 3)) rfl rfl rfl) ?_; refine s_do (o_mov (.bool (o_1.Kind == 3)) rfl) ?_; refine w_done ?_; refine k_seq ?_
   rcases oi hf with ⟨c14, hf⟩ | ⟨c14, hf⟩
   ·refine w_condt rfl c14 ?_; refine awp_seq ?_; refine w_reg ?_
    rcases oi hf with ⟨c15, hf⟩ | ⟨c15, hf⟩
    ·rcases oi hf with ⟨c16, hf⟩ | ⟨c16, hf⟩
     ·rcases oi hf with ⟨c17, hf⟩ | ⟨c17, hf⟩
      ·refine s_do (o_mov (.bool (o_1.Name == [])) rfl) ?_; refine s_do (o_mov (.bool (o_1.Name == [])) rfl) ?_; refine s_lit (s := 64) (b := true) rfl c15 ?_; refine s_on rfl ?_; refine s_do (o_mov (.bool ((o_1.Muts.length : Int) == 0)) rfl) ?_; refine s_do (o_q (.bool ((o_1.Muts.length : Int) == 0)) rfl trivial rfl) ?_; refine s_do (o_mov (.bool ((o_1.Muts.length : Int) == 0)) rfl) ?_; refine s_lit (s := 67) (b := true) rfl c16 ?_; refine s_on rfl ?_; refine s_do (o_mov (.bool ((o_1.Columns.length : Int) == 0)) rfl) ?_; refine s_do (o_q (.bool ((o_1.Columns.length : Int) == 0)) rfl trivial rfl) ?_
       refine s_do (o_mov (.bool ((o_1.Columns.length : Int) == 0)) rfl) ?_; refine s_lit (s := 70) (b := true) rfl c17 ?_; refine s_on rfl ?_; refine s_do (o_mov (.bool (!o_1.Until)) rfl) ?_; refine s_do (o_q (.bool (!o_1.Until)) rfl trivial rfl) ?_; refine s_do (o_mov (.bool (!o_1.Until)) rfl) ?_; refine w_done ?_; refine k_seq ?_; refine w_ret ?_; obtain rfl := os hf; exact r_flat ⟨trivial, trivial⟩ rfl (.refl _)
      ·refine s_do (o_mov (.bool (o_1.Name == [])) rfl) ?_; refine s_do (o_mov (.bool (o_1.Name == [])) rfl) ?_; refine s_lit (s := 64) (b := true) rfl c15 ?_; refine s_on rfl ?_; refine s_do (o_mov (.bool ((o_1.Muts.length : Int) == 0)) rfl) ?_; refine s_do (o_q (.bool ((o_1.Muts.length : Int) == 0)) rfl trivial rfl) ?_; refine s_do (o_mov (.bool ((o_1.Muts.length : Int) == 0)) rfl) ?_; refine s_lit (s := 67) (b := true) rfl c16 ?_; refine s_on rfl ?_; refine s_do (o_mov (.bool ((o_1.Columns.length : Int) == 0)) rfl) ?_; refine s_do (o_q (.bool ((o_1.Columns.length : Int) == 0)) rfl trivial rfl) ?_
       refine s_do (o_mov (.bool ((o_1.Columns.length : Int) == 0)) rfl) ?_; refine s_lit (s := 70) (b := false) rfl (bf c17) ?_; refine s_off rfl rfl ?_; refine s_do (o_q (.bool false) rfl trivial rfl) ?_; refine s_do (o_mov (.bool false) rfl) ?_; refine w_done ?_; refine k_seq ?_; refine w_ret ?_; obtain rfl := os hf; exact r_flat ⟨trivial, trivial⟩ rfl (.refl _)
     ·refine s_do (o_mov (.bool (o_1.Name == [])) rfl) ?_; refine s_do (o_mov (.bool (o_1.Name == [])) rfl) ?_; refine s_lit (s := 64) (b := true) rfl c15 ?_; refine s_on rfl ?_; refine s_do (o_mov (.bool ((o_1.Muts.length : Int) == 0)) rfl) ?_; refine s_do (o_q (.bool ((o_1.Muts.length : Int) == 0)) rfl trivial rfl) ?_; refine s_do (o_mov (.bool ((o_1.Muts.length : Int) == 0)) rfl) ?_; refine s_lit (s := 67) (b := false) rfl (bf c16) ?_; refine s_off rfl rfl ?_; refine s_do (o_q (.bool false) rfl trivial rfl) ?_; refine s_do (o_mov (.bool false) rfl) ?_; refine s_off rfl rfl ?_; refine s_do (o_q (.bool false) rfl trivial rfl) ?_
      refine s_do (o_mov (.bool false) rfl) ?_; refine w_done ?_; refine k_seq ?_; refine w_ret ?_; obtain rfl := os hf; exact r_flat ⟨trivial, trivial⟩ rfl (.refl _)
    ·refine s_do (o_mov (.bool (o_1.Name == [])) rfl) ?_; refine s_do (o_mov (.bool (o_1.Name == [])) rfl) ?_; refine s_lit (s := 64) (b := false) rfl (bf c15) ?_; refine s_off rfl rfl ?_; refine s_do (o_q (.bool false) rfl trivial rfl) ?_; refine s_do (o_mov (.bool false) rfl) ?_; refine s_off rfl rfl ?_; refine s_do (o_q (.bool false) rfl trivial rfl) ?_; refine s_do (o_mov (.bool false) rfl) ?_; refine s_off rfl rfl ?_; refine s_do (o_q (.bool false) rfl trivial rfl) ?_; refine s_do (o_mov (.bool false) rfl) ?_; refine w_done ?_; refine k_seq ?_; refine w_ret ?_; obtain rfl := os hf; exact r_flat ⟨trivial, trivial⟩ rfl (.refl _)
   ·refine w_condf rfl (bf c14) ?_; refine awp_seq ?_; refine w_reg ?_; refine s_do (o_q (.bool (o_1.Kind == 4)) rfl rfl rfl) ?_; refine s_do (o_mov (.bool (o_1.Kind == 4)) rfl) ?_; refine w_done ?_; refine k_seq ?_
    rcases oi hf with ⟨c18, hf⟩ | ⟨c18, hf⟩
    ·refine w_condt rfl c18 ?_; refine awp_seq ?_; refine w_reg ?_
     rcases oi hf with ⟨c19, hf⟩ | ⟨c19, hf⟩
     ·rcases oi hf with ⟨c20, hf⟩ | ⟨c20, hf⟩
      ·rcases oi hf with ⟨c21, hf⟩ | ⟨c21, hf⟩
       ·refine s_do (o_mov (.bool (o_1.Name == [])) rfl) ?_; refine s_do (o_mov (.bool (o_1.Name == [])) rfl) ?_; refine s_lit (s := 76) (b := true) rfl c19 ?_; refine s_on rfl ?_; refine s_do (o_mov (.bool ((o_1.Row.length : Int) == 0)) rfl) ?_; refine s_do (o_q (.bool ((o_1.Row.length : Int) == 0)) rfl trivial rfl) ?_; refine s_do (o_mov (.bool ((o_1.Row.length : Int) == 0)) rfl) ?_; refine s_lit (s := 79) (b := true) rfl c20 ?_; refine s_on rfl ?_; refine s_do (o_mov (.bool ((o_1.Columns.length : Int) == 0)) rfl) ?_; refine s_do (o_q (.bool ((o_1.Columns.length : Int) == 0)) rfl trivial rfl) ?_; refine s_do (o_mov (.bool ((o_1.Columns.length : Int) == 0)) rfl) ?_
        refine s_lit (s := 82) (b := true) rfl c21 ?_; refine s_on rfl ?_; refine s_do (o_mov (.bool (!o_1.Until)) rfl) ?_; refine s_do (o_q (.bool (!o_1.Until)) rfl trivial rfl) ?_; refine s_do (o_mov (.bool (!o_1.Until)) rfl) ?_; refine w_done ?_; refine k_seq ?_; refine w_ret ?_; obtain rfl := os hf; exact r_flat ⟨trivial, trivial⟩ rfl (.refl _)
       ·refine s_do (o_mov (.bool (o_1.Name == [])) rfl) ?_; refine s_do (o_mov (.bool (o_1.Name == [])) rfl) ?_; refine s_lit (s := 76) (b := true) rfl c19 ?_; refine s_on rfl ?_; refine s_do (o_mov (.bool ((o_1.Row.length : Int) == 0)) rfl) ?_; refine s_do (o_q (.bool ((o_1.Row.length : Int) == 0)) rfl trivial rfl) ?_; refine s_do (o_mov (.bool ((o_1.Row.length : Int) == 0)) rfl) ?_; refine s_lit (s := 79) (b := true) rfl c20 ?_; refine s_on rfl ?_; refine s_do (o_mov (.bool ((o_1.Columns.length : Int) == 0)) rfl) ?_; refine s_do (o_q (.bool ((o_1.Columns.length : Int) == 0)) rfl trivial rfl) ?_; refine s_do (o_mov (.bool ((o_1.Columns.length : Int) == 0)) rfl) ?_
        refine s_lit (s := 82) (b := false) rfl (bf c21) ?_; refine s_off rfl rfl ?_; refine s_do (o_q (.bool false) rfl trivial rfl) ?_; refine s_do (o_mov (.bool false) rfl) ?_; refine w_done ?_; refine k_seq ?_; refine w_ret ?_; obtain rfl := os hf; exact r_flat ⟨trivial, trivial⟩ rfl (.refl _)
      ·refine s_do (o_mov (.bool (o_1.Name == [])) rfl) ?_; refine s_do (o_mov (.bool (o_1.Name == [])) rfl) ?_; refine s_lit (s := 76) (b := true) rfl c19 ?_; refine s_on rfl ?_; refine s_do (o_mov (.bool ((o_1.Row.length : Int) == 0)) rfl) ?_; refine s_do (o_q (.bool ((o_1.Row.length : Int) == 0)) rfl trivial rfl) ?_; refine s_do (o_mov (.bool ((o_1.Row.length : Int) == 0)) rfl) ?_; refine s_lit (s := 79) (b := false) rfl (bf c20) ?_; refine s_off rfl rfl ?_; refine s_do (o_q (.bool false) rfl trivial rfl) ?_; refine s_do (o_mov (.bool false) rfl) ?_; refine s_off rfl rfl ?_; refine s_do (o_q (.bool false) rfl trivial rfl) ?_
       refine s_do (o_mov (.bool false) rfl) ?_; refine w_done ?_; refine k_seq ?_; refine w_ret ?_; obtain rfl := os hf; exact r_flat ⟨trivial, trivial⟩ rfl (.refl _)
     ·refine s_do (o_mov (.bool (o_1.Name == [])) rfl) ?_; refine s_do (o_mov (.bool (o_1.Name == [])) rfl) ?_; refine s_lit (s := 76) (b := false) rfl (bf c19) ?_; refine s_off rfl rfl ?_; refine s_do (o_q (.bool false) rfl trivial rfl) ?_; refine s_do (o_mov (.bool false) rfl) ?_; refine s_off rfl rfl ?_; refine s_do (o_q (.bool false) rfl trivial rfl) ?_; refine s_do (o_mov (.bool false) rfl) ?_; refine s_off rfl rfl ?_; refine s_do (o_q (.bool false) rfl trivial rfl) ?_; refine s_do (o_mov (.bool false) rfl) ?_; refine w_done ?_; refine k_seq ?_; refine w_ret ?_; obtain rfl := os hf; exact r_flat ⟨trivial, trivial⟩ rfl (.refl _)
    ·refine w_condf rfl (bf c18) ?_; refine awp_seq ?_; refine w_reg ?_; refine s_do (o_q (.bool (o_1.Kind == 5)) rfl rfl rfl) ?_; refine s_do (o_mov (.bool (o_1.Kind == 5)) rfl) ?_; refine w_done ?_; refine k_seq ?_
     rcases oi hf with ⟨c22, hf⟩ | ⟨c22, hf⟩
     ·refine w_condt rfl c22 ?_; refine awp_seq ?_; refine w_reg ?_; refine s_do (o_mov (.bool (o_1.Name == [])) rfl) ?_; refine s_do (o_mov (.bool (o_1.Name == [])) rfl) ?_
      rcases oi hf with ⟨c23, hf⟩ | ⟨c23, hf⟩
      ·refine s_lit (s := 88) (b := true) rfl c23 ?_; refine s_on rfl ?_; refine s_do (o_mov (.bool ((o_1.Row.length : Int) == 0)) rfl) ?_; refine s_do (o_q (.bool ((o_1.Row.length : Int) == 0)) rfl trivial rfl) ?_; refine s_do (o_mov (.bool ((o_1.Row.length : Int) == 0)) rfl) ?_
       rcases oi hf with ⟨c24, hf⟩ | ⟨c24, hf⟩
       ·refine s_lit (s := 91) (b := true) rfl c24 ?_; refine s_on rfl ?_; refine s_do (o_mov (.bool ((o_1.Muts.length : Int) == 0)) rfl) ?_; refine s_do (o_q (.bool ((o_1.Muts.length : Int) == 0)) rfl trivial rfl) ?_; refine s_do (o_mov (.bool ((o_1.Muts.length : Int) == 0)) rfl) ?_
        rcases oi hf with ⟨c25, hf⟩ | ⟨c25, hf⟩
        ·refine s_lit (s := 94) (b := true) rfl c25 ?_; refine s_on rfl ?_; refine s_do (o_mov (.bool ((o_1.Columns.length : Int) == 0)) rfl) ?_; refine s_do (o_q (.bool ((o_1.Columns.length : Int) == 0)) rfl trivial rfl) ?_; refine s_do (o_mov (.bool ((o_1.Columns.length : Int) == 0)) rfl) ?_
         rcases oi hf with ⟨c26, hf⟩ | ⟨c26, hf⟩
         ·refine s_lit (s := 97) (b := true) rfl c26 ?_; refine s_on rfl ?_; refine s_do (o_mov (.bool (!o_1.Until)) rfl) ?_; refine s_do (o_q (.bool (!o_1.Until)) rfl trivial rfl) ?_; refine s_do (o_mov (.bool (!o_1.Until)) rfl) ?_; refine w_done ?_; refine k_seq ?_; refine w_ret ?_; obtain rfl := os hf; exact r_flat ⟨trivial, trivial⟩ rfl (.refl _)
         ·refine s_lit (s := 97) (b := false) rfl (bf c26) ?_; refine s_off rfl rfl ?_; refine s_do (o_q (.bool false) rfl trivial rfl) ?_; refine s_do (o_mov (.bool false) rfl) ?_; refine w_done ?_; refine k_seq ?_; refine w_ret ?_; obtain rfl := os hf; exact r_flat ⟨trivial, trivial⟩ rfl (.refl _)
        ·refine s_lit (s := 94) (b := false) rfl (bf c25) ?_; refine s_off rfl rfl ?_; refine s_do (o_q (.bool false) rfl trivial rfl) ?_; refine s_do (o_mov (.bool false) rfl) ?_; refine s_off rfl rfl ?_; refine s_do (o_q (.bool false) rfl trivial rfl) ?_; refine s_do (o_mov (.bool false) rfl) ?_; refine w_done ?_; refine k_seq ?_; refine w_ret ?_; obtain rfl := os hf; exact r_flat ⟨trivial, trivial⟩ rfl (.refl _)
       ·refine s_lit (s := 91) (b := false) rfl (bf c24) ?_; refine s_off rfl rfl ?_; refine s_do (o_q (.bool false) rfl trivial rfl) ?_; refine s_do (o_mov (.bool false) rfl) ?_; refine s_off rfl rfl ?_; refine s_do (o_q (.bool false) rfl trivial rfl) ?_; refine s_do (o_mov (.bool false) rfl) ?_; refine s_off rfl rfl ?_; refine s_do (o_q (.bool false) rfl trivial rfl) ?_; refine s_do (o_mov (.bool false) rfl) ?_; refine w_done ?_; refine k_seq ?_; refine w_ret ?_; obtain rfl := os hf; exact r_flat ⟨trivial, trivial⟩ rfl (.refl _)
      ·refine s_lit (s := 88) (b := false) rfl (bf c23) ?_; refine s_off rfl rfl ?_; refine s_do (o_q (.bool false) rfl trivial rfl) ?_; refine s_do (o_mov (.bool false) rfl) ?_; refine s_off rfl rfl ?_; refine s_do (o_q (.bool false) rfl trivial rfl) ?_; refine s_do (o_mov (.bool false) rfl) ?_; refine s_off rfl rfl ?_; refine s_do (o_q (.bool false) rfl trivial rfl) ?_; refine s_do (o_mov (.bool false) rfl) ?_; refine s_off rfl rfl ?_; refine s_do (o_q (.bool false) rfl trivial rfl) ?_; refine s_do (o_mov (.bool false) rfl) ?_; refine w_done ?_; refine k_seq ?_; refine w_ret ?_; obtain rfl := os hf
       exact r_flat ⟨trivial, trivial⟩ rfl (.refl _)
     ·refine w_condf rfl (bf c22) ?_; refine awp_seq ?_; refine w_reg ?_; refine s_do (o_q (.bool (o_1.Kind == 6)) rfl rfl rfl) ?_; refine s_do (o_mov (.bool (o_1.Kind == 6)) rfl) ?_; refine w_done ?_; refine k_seq ?_
      rcases oi hf with ⟨c27, hf⟩ | ⟨c27, hf⟩
      ·refine w_condt rfl c27 ?_; refine awp_seq ?_; refine w_reg ?_
       rcases oi hf with ⟨c28, hf⟩ | ⟨c28, hf⟩
       ·rcases oi hf with ⟨c29, hf⟩ | ⟨c29, hf⟩
        ·refine s_do (o_mov (.bool (o_1.Name == [])) rfl) ?_; refine s_do (o_mov (.bool (o_1.Name == [])) rfl) ?_; refine s_lit (s := 103) (b := true) rfl c28 ?_; refine s_on rfl ?_; refine s_do (o_mov (.bool ((o_1.Muts.length : Int) == 0)) rfl) ?_; refine s_do (o_q (.bool ((o_1.Muts.length : Int) == 0)) rfl trivial rfl) ?_; refine s_do (o_mov (.bool ((o_1.Muts.length : Int) == 0)) rfl) ?_; refine s_lit (s := 106) (b := true) rfl c29 ?_; refine s_on rfl ?_; refine s_do (o_mov (.bool ((o_1.Columns.length : Int) == 0)) rfl) ?_; refine s_do (o_q (.bool ((o_1.Columns.length : Int) == 0)) rfl trivial rfl) ?_
         refine s_do (o_mov (.bool ((o_1.Columns.length : Int) == 0)) rfl) ?_; refine w_done ?_; refine k_seq ?_; refine w_ret ?_; obtain rfl := os hf; exact r_flat ⟨trivial, trivial⟩ rfl (.refl _)
        ·refine s_do (o_mov (.bool (o_1.Name == [])) rfl) ?_; refine s_do (o_mov (.bool (o_1.Name == [])) rfl) ?_; refine s_lit (s := 103) (b := true) rfl c28 ?_; refine s_on rfl ?_; refine s_do (o_mov (.bool ((o_1.Muts.length : Int) == 0)) rfl) ?_; refine s_do (o_q (.bool ((o_1.Muts.length : Int) == 0)) rfl trivial rfl) ?_; refine s_do (o_mov (.bool ((o_1.Muts.length : Int) == 0)) rfl) ?_; refine s_lit (s := 106) (b := false) rfl (bf c29) ?_; refine s_off rfl rfl ?_; refine s_do (o_q (.bool false) rfl trivial rfl) ?_; refine s_do (o_mov (.bool false) rfl) ?_; refine w_done ?_; refine k_seq ?_; refine w_ret ?_
         obtain rfl := os hf; exact r_flat ⟨trivial, trivial⟩ rfl (.refl _)
       ·refine s_do (o_mov (.bool (o_1.Name == [])) rfl) ?_; refine s_do (o_mov (.bool (o_1.Name == [])) rfl) ?_; refine s_lit (s := 103) (b := false) rfl (bf c28) ?_; refine s_off rfl rfl ?_; refine s_do (o_q (.bool false) rfl trivial rfl) ?_; refine s_do (o_mov (.bool false) rfl) ?_; refine s_off rfl rfl ?_; refine s_do (o_q (.bool false) rfl trivial rfl) ?_; refine s_do (o_mov (.bool false) rfl) ?_; refine w_done ?_; refine k_seq ?_; refine w_ret ?_; obtain rfl := os hf; exact r_flat ⟨trivial, trivial⟩ rfl (.refl _)
      ·refine w_condf rfl (bf c27) ?_; refine awp_seq ?_
       obtain ⟨s109_31, hb1, hf⟩ := ob hf
       refine awp_cut ([(3, (.bool (o_1.Table == []))), (4, (.bool (o_1.Name == []))), (5, (.bool ((o_1.Where.length : Int) == 0))), (6, (.bool ((o_1.Row.length : Int) == 0))), (7, (.bool ((o_1.Muts.length : Int) == 0))), (8, (.bool ((o_1.Columns.length : Int) == 0))), (9, (.bool (!o_1.Until))), (36, (.int .i64 o_1.Kind)), (109, (.bool s109_31))], []) ?_ ?_
       ·refine awp_seq ?_; refine w_reg ?_; refine s_do (o_q (.bool (o_1.Kind == 7)) rfl rfl rfl) ?_; refine s_do (o_mov (.bool (o_1.Kind == 7)) rfl) ?_; refine w_done ?_; refine k_seq ?_
        rcases oi hb1 with ⟨c33, hb1⟩ | ⟨c33, hb1⟩
        ·refine w_condt rfl c33 ?_; refine w_skip ?_; obtain rfl := os hb1; exact ⟨[], [], _, _, rfl, rfl, ⟨.refl _, ⟨.refl _, ⟨.refl _, ⟨.refl _, ⟨.refl _, ⟨.refl _, ⟨.refl _, ⟨.refl _, ⟨.refl _, trivial⟩⟩⟩⟩⟩⟩⟩⟩⟩, (.refl _)⟩
        ·refine w_condf rfl (bf c33) ?_; refine w_reg ?_; refine s_do (o_q (.bool (o_1.Kind == 8)) rfl rfl rfl) ?_; refine s_do (o_mov (.bool (o_1.Kind == 8)) rfl) ?_; refine w_done ?_; obtain rfl := os hb1; exact ⟨[], [], _, _, rfl, rfl, ⟨.refl _, ⟨.refl _, ⟨.refl _, ⟨.refl _, ⟨.refl _, ⟨.refl _, ⟨.refl _, ⟨.refl _, ⟨.refl _, trivial⟩⟩⟩⟩⟩⟩⟩⟩⟩, (.refl _)⟩
       ·rcases oi hf with ⟨c34, hf⟩ | ⟨c34, hf⟩
        ·refine w_condt rfl c34 ?_; refine awp_seq ?_; refine w_reg ?_; refine s_do (o_mov (.bool (o_1.Table == [])) rfl) ?_; refine s_do (o_mov (.bool (o_1.Table == [])) rfl) ?_
         rcases oi hf with ⟨c35, hf⟩ | ⟨c35, hf⟩
         ·refine s_lit (s := 113) (b := true) rfl c35 ?_; refine s_on rfl ?_; refine s_do (o_mov (.bool (o_1.Name == [])) rfl) ?_; refine s_do (o_q (.bool (o_1.Name == [])) rfl trivial rfl) ?_; refine s_do (o_mov (.bool (o_1.Name == [])) rfl) ?_
          rcases oi hf with ⟨c36, hf⟩ | ⟨c36, hf⟩
          ·refine s_lit (s := 116) (b := true) rfl c36 ?_; refine s_on rfl ?_; refine s_do (o_mov (.bool ((o_1.Where.length : Int) == 0)) rfl) ?_; refine s_do (o_q (.bool ((o_1.Where.length : Int) == 0)) rfl trivial rfl) ?_; refine s_do (o_mov (.bool ((o_1.Where.length : Int) == 0)) rfl) ?_
           rcases oi hf with ⟨c37, hf⟩ | ⟨c37, hf⟩
           ·refine s_lit (s := 119) (b := true) rfl c37 ?_; refine s_on rfl ?_; refine s_do (o_mov (.bool ((o_1.Row.length : Int) == 0)) rfl) ?_; refine s_do (o_q (.bool ((o_1.Row.length : Int) == 0)) rfl trivial rfl) ?_; refine s_do (o_mov (.bool ((o_1.Row.length : Int) == 0)) rfl) ?_
            rcases oi hf with ⟨c38, hf⟩ | ⟨c38, hf⟩
            ·refine s_lit (s := 122) (b := true) rfl c38 ?_; refine s_on rfl ?_; refine s_do (o_mov (.bool ((o_1.Muts.length : Int) == 0)) rfl) ?_; refine s_do (o_q (.bool ((o_1.Muts.length : Int) == 0)) rfl trivial rfl) ?_; refine s_do (o_mov (.bool ((o_1.Muts.length : Int) == 0)) rfl) ?_
             rcases oi hf with ⟨c39, hf⟩ | ⟨c39, hf⟩
             ·refine s_lit (s := 125) (b := true) rfl c39 ?_; refine s_on rfl ?_; refine s_do (o_mov (.bool ((o_1.Columns.length : Int) == 0)) rfl) ?_; refine s_do (o_q (.bool ((o_1.Columns.length : Int) == 0)) rfl trivial rfl) ?_; refine s_do (o_mov (.bool ((o_1.Columns.length : Int) == 0)) rfl) ?_
              rcases oi hf with ⟨c40, hf⟩ | ⟨c40, hf⟩
              ·refine s_lit (s := 128) (b := true) rfl c40 ?_; refine s_on rfl ?_; refine s_do (o_mov (.bool (!o_1.Until)) rfl) ?_; refine s_do (o_q (.bool (!o_1.Until)) rfl trivial rfl) ?_; refine s_do (o_mov (.bool (!o_1.Until)) rfl) ?_; refine w_done ?_; refine k_seq ?_; refine w_ret ?_; obtain rfl := os hf; exact r_flat ⟨trivial, trivial⟩ rfl (.refl _)
              ·refine s_lit (s := 128) (b := false) rfl (bf c40) ?_; refine s_off rfl rfl ?_; refine s_do (o_q (.bool false) rfl trivial rfl) ?_; refine s_do (o_mov (.bool false) rfl) ?_; refine w_done ?_; refine k_seq ?_; refine w_ret ?_; obtain rfl := os hf; exact r_flat ⟨trivial, trivial⟩ rfl (.refl _)
             ·refine s_lit (s := 125) (b := false) rfl (bf c39) ?_; refine s_off rfl rfl ?_; refine s_do (o_q (.bool false) rfl trivial rfl) ?_; refine s_do (o_mov (.bool false) rfl) ?_; refine s_off rfl rfl ?_; refine s_do (o_q (.bool false) rfl trivial rfl) ?_; refine s_do (o_mov (.bool false) rfl) ?_; refine w_done ?_; refine k_seq ?_; refine w_ret ?_; obtain rfl := os hf; exact r_flat ⟨trivial, trivial⟩ rfl (.refl _)
            ·refine s_lit (s := 122) (b := false) rfl (bf c38) ?_; refine s_off rfl rfl ?_; refine s_do (o_q (.bool false) rfl trivial rfl) ?_; refine s_do (o_mov (.bool false) rfl) ?_; refine s_off rfl rfl ?_; refine s_do (o_q (.bool false) rfl trivial rfl) ?_; refine s_do (o_mov (.bool false) rfl) ?_; refine s_off rfl rfl ?_; refine s_do (o_q (.bool false) rfl trivial rfl) ?_; refine s_do (o_mov (.bool false) rfl) ?_; refine w_done ?_; refine k_seq ?_; refine w_ret ?_; obtain rfl := os hf; exact r_flat ⟨trivial, trivial⟩ rfl (.refl _)
           ·refine s_lit (s := 119) (b := false) rfl (bf c37) ?_; refine s_off rfl rfl ?_; refine s_do (o_q (.bool false) rfl trivial rfl) ?_; refine s_do (o_mov (.bool false) rfl) ?_; refine s_off rfl rfl ?_; refine s_do (o_q (.bool false) rfl trivial rfl) ?_; refine s_do (o_mov (.bool false) rfl) ?_; refine s_off rfl rfl ?_; refine s_do (o_q (.bool false) rfl trivial rfl) ?_; refine s_do (o_mov (.bool false) rfl) ?_; refine s_off rfl rfl ?_; refine s_do (o_q (.bool false) rfl trivial rfl) ?_; refine s_do (o_mov (.bool false) rfl) ?_; refine w_done ?_; refine k_seq ?_; refine w_ret ?_; obtain rfl := os hf
            exact r_flat ⟨trivial, trivial⟩ rfl (.refl _)
          ·refine s_lit (s := 116) (b := false) rfl (bf c36) ?_; refine s_off rfl rfl ?_; refine s_do (o_q (.bool false) rfl trivial rfl) ?_; refine s_do (o_mov (.bool false) rfl) ?_; refine s_off rfl rfl ?_; refine s_do (o_q (.bool false) rfl trivial rfl) ?_; refine s_do (o_mov (.bool false) rfl) ?_; refine s_off rfl rfl ?_; refine s_do (o_q (.bool false) rfl trivial rfl) ?_; refine s_do (o_mov (.bool false) rfl) ?_; refine s_off rfl rfl ?_; refine s_do (o_q (.bool false) rfl trivial rfl) ?_; refine s_do (o_mov (.bool false) rfl) ?_; refine s_off rfl rfl ?_; refine s_do (o_q (.bool false) rfl trivial rfl) ?_
           refine s_do (o_mov (.bool false) rfl) ?_; refine w_done ?_; refine k_seq ?_; refine w_ret ?_; obtain rfl := os hf; exact r_flat ⟨trivial, trivial⟩ rfl (.refl _)
         ·refine s_lit (s := 113) (b := false) rfl (bf c35) ?_; refine s_off rfl rfl ?_; refine s_do (o_q (.bool false) rfl trivial rfl) ?_; refine s_do (o_mov (.bool false) rfl) ?_; refine s_off rfl rfl ?_; refine s_do (o_q (.bool false) rfl trivial rfl) ?_; refine s_do (o_mov (.bool false) rfl) ?_; refine s_off rfl rfl ?_; refine s_do (o_q (.bool false) rfl trivial rfl) ?_; refine s_do (o_mov (.bool false) rfl) ?_; refine s_off rfl rfl ?_; refine s_do (o_q (.bool false) rfl trivial rfl) ?_; refine s_do (o_mov (.bool false) rfl) ?_; refine s_off rfl rfl ?_; refine s_do (o_q (.bool false) rfl trivial rfl) ?_
          refine s_do (o_mov (.bool false) rfl) ?_; refine s_off rfl rfl ?_; refine s_do (o_q (.bool false) rfl trivial rfl) ?_; refine s_do (o_mov (.bool false) rfl) ?_; refine w_done ?_; refine k_seq ?_; refine w_ret ?_; obtain rfl := os hf; exact r_flat ⟨trivial, trivial⟩ rfl (.refl _)
        ·refine w_condf rfl (bf c34) ?_; refine awp_seq ?_
         obtain ⟨s131_42, hb1, hf⟩ := ob hf
         refine awp_cut ([(3, (.bool (o_1.Table == []))), (5, (.bool ((o_1.Where.length : Int) == 0))), (6, (.bool ((o_1.Row.length : Int) == 0))), (7, (.bool ((o_1.Muts.length : Int) == 0))), (8, (.bool ((o_1.Columns.length : Int) == 0))), (9, (.bool (!o_1.Until))), (131, (.bool s131_42))], []) ?_ ?_
         ·refine awp_seq ?_; refine w_reg ?_; refine s_do (o_q (.bool (o_1.Kind == 9)) rfl rfl rfl) ?_; refine s_do (o_mov (.bool (o_1.Kind == 9)) rfl) ?_; refine w_done ?_; refine k_seq ?_
          rcases oi hb1 with ⟨c44, hb1⟩ | ⟨c44, hb1⟩
          ·refine w_condt rfl c44 ?_; refine w_skip ?_; obtain rfl := os hb1; exact ⟨[], [], _, _, rfl, rfl, ⟨.refl _, ⟨.refl _, ⟨.refl _, ⟨.refl _, ⟨.refl _, ⟨.refl _, ⟨.refl _, trivial⟩⟩⟩⟩⟩⟩⟩, (.refl _)⟩
          ·refine w_condf rfl (bf c44) ?_; refine w_reg ?_; refine s_do (o_q (.bool (o_1.Kind == 10)) rfl rfl rfl) ?_; refine s_do (o_mov (.bool (o_1.Kind == 10)) rfl) ?_; refine w_done ?_; obtain rfl := os hb1; exact ⟨[], [], _, _, rfl, rfl, ⟨.refl _, ⟨.refl _, ⟨.refl _, ⟨.refl _, ⟨.refl _, ⟨.refl _, ⟨.refl _, trivial⟩⟩⟩⟩⟩⟩⟩, (.refl _)⟩
         ·rcases oi hf with ⟨c45, hf⟩ | ⟨c45, hf⟩
          ·refine w_condt rfl c45 ?_; refine awp_seq ?_; refine w_reg ?_; refine s_do (o_mov (.bool (o_1.Table == [])) rfl) ?_; refine s_do (o_mov (.bool (o_1.Table == [])) rfl) ?_
           rcases oi hf with ⟨c46, hf⟩ | ⟨c46, hf⟩
           ·refine s_lit (s := 135) (b := true) rfl c46 ?_; refine s_on rfl ?_; refine s_do (o_mov (.bool ((o_1.Where.length : Int) == 0)) rfl) ?_; refine s_do (o_q (.bool ((o_1.Where.length : Int) == 0)) rfl trivial rfl) ?_; refine s_do (o_mov (.bool ((o_1.Where.length : Int) == 0)) rfl) ?_
            rcases oi hf with ⟨c47, hf⟩ | ⟨c47, hf⟩
            ·refine s_lit (s := 138) (b := true) rfl c47 ?_; refine s_on rfl ?_; refine s_do (o_mov (.bool ((o_1.Row.length : Int) == 0)) rfl) ?_; refine s_do (o_q (.bool ((o_1.Row.length : Int) == 0)) rfl trivial rfl) ?_; refine s_do (o_mov (.bool ((o_1.Row.length : Int) == 0)) rfl) ?_
             rcases oi hf with ⟨c48, hf⟩ | ⟨c48, hf⟩
             ·refine s_lit (s := 141) (b := true) rfl c48 ?_; refine s_on rfl ?_; refine s_do (o_mov (.bool ((o_1.Muts.length : Int) == 0)) rfl) ?_; refine s_do (o_q (.bool ((o_1.Muts.length : Int) == 0)) rfl trivial rfl) ?_; refine s_do (o_mov (.bool ((o_1.Muts.length : Int) == 0)) rfl) ?_
              rcases oi hf with ⟨c49, hf⟩ | ⟨c49, hf⟩
              ·refine s_lit (s := 144) (b := true) rfl c49 ?_; refine s_on rfl ?_; refine s_do (o_mov (.bool ((o_1.Columns.length : Int) == 0)) rfl) ?_; refine s_do (o_q (.bool ((o_1.Columns.length : Int) == 0)) rfl trivial rfl) ?_; refine s_do (o_mov (.bool ((o_1.Columns.length : Int) == 0)) rfl) ?_
               rcases oi hf with ⟨c50, hf⟩ | ⟨c50, hf⟩
               ·refine s_lit (s := 147) (b := true) rfl c50 ?_; refine s_on rfl ?_; refine s_do (o_mov (.bool (!o_1.Until)) rfl) ?_; refine s_do (o_q (.bool (!o_1.Until)) rfl trivial rfl) ?_; refine s_do (o_mov (.bool (!o_1.Until)) rfl) ?_; refine w_done ?_; refine k_seq ?_; refine w_ret ?_; obtain rfl := os hf; exact r_flat ⟨trivial, trivial⟩ rfl (.refl _)
               ·refine s_lit (s := 147) (b := false) rfl (bf c50) ?_; refine s_off rfl rfl ?_; refine s_do (o_q (.bool false) rfl trivial rfl) ?_; refine s_do (o_mov (.bool false) rfl) ?_; refine w_done ?_; refine k_seq ?_; refine w_ret ?_; obtain rfl := os hf; exact r_flat ⟨trivial, trivial⟩ rfl (.refl _)
              ·refine s_lit (s := 144) (b := false) rfl (bf c49) ?_; refine s_off rfl rfl ?_; refine s_do (o_q (.bool false) rfl trivial rfl) ?_; refine s_do (o_mov (.bool false) rfl) ?_; refine s_off rfl rfl ?_; refine s_do (o_q (.bool false) rfl trivial rfl) ?_; refine s_do (o_mov (.bool false) rfl) ?_; refine w_done ?_; refine k_seq ?_; refine w_ret ?_; obtain rfl := os hf; exact r_flat ⟨trivial, trivial⟩ rfl (.refl _)
             ·refine s_lit (s := 141) (b := false) rfl (bf c48) ?_; refine s_off rfl rfl ?_; refine s_do (o_q (.bool false) rfl trivial rfl) ?_; refine s_do (o_mov (.bool false) rfl) ?_; refine s_off rfl rfl ?_; refine s_do (o_q (.bool false) rfl trivial rfl) ?_; refine s_do (o_mov (.bool false) rfl) ?_; refine s_off rfl rfl ?_; refine s_do (o_q (.bool false) rfl trivial rfl) ?_; refine s_do (o_mov (.bool false) rfl) ?_; refine w_done ?_; refine k_seq ?_; refine w_ret ?_; obtain rfl := os hf; exact r_flat ⟨trivial, trivial⟩ rfl (.refl _)
            ·refine s_lit (s := 138) (b := false) rfl (bf c47) ?_; refine s_off rfl rfl ?_; refine s_do (o_q (.bool false) rfl trivial rfl) ?_; refine s_do (o_mov (.bool false) rfl) ?_; refine s_off rfl rfl ?_; refine s_do (o_q (.bool false) rfl trivial rfl) ?_; refine s_do (o_mov (.bool false) rfl) ?_; refine s_off rfl rfl ?_; refine s_do (o_q (.bool false) rfl trivial rfl) ?_; refine s_do (o_mov (.bool false) rfl) ?_; refine s_off rfl rfl ?_; refine s_do (o_q (.bool false) rfl trivial rfl) ?_; refine s_do (o_mov (.bool false) rfl) ?_; refine w_done ?_; refine k_seq ?_; refine w_ret ?_; obtain rfl := os hf
             exact r_flat ⟨trivial, trivial⟩ rfl (.refl _)
           ·refine s_lit (s := 135) (b := false) rfl (bf c46) ?_; refine s_off rfl rfl ?_; refine s_do (o_q (.bool false) rfl trivial rfl) ?_; refine s_do (o_mov (.bool false) rfl) ?_; refine s_off rfl rfl ?_; refine s_do (o_q (.bool false) rfl trivial rfl) ?_; refine s_do (o_mov (.bool false) rfl) ?_; refine s_off rfl rfl ?_; refine s_do (o_q (.bool false) rfl trivial rfl) ?_; refine s_do (o_mov (.bool false) rfl) ?_; refine s_off rfl rfl ?_; refine s_do (o_q (.bool false) rfl trivial rfl) ?_; refine s_do (o_mov (.bool false) rfl) ?_; refine s_off rfl rfl ?_; refine s_do (o_q (.bool false) rfl trivial rfl) ?_
            refine s_do (o_mov (.bool false) rfl) ?_; refine w_done ?_; refine k_seq ?_; refine w_ret ?_; obtain rfl := os hf; exact r_flat ⟨trivial, trivial⟩ rfl (.refl _)
          ·refine w_condf rfl (bf c45) ?_; refine w_skip ?_; refine k_blk ?_; refine k_seq ?_; refine awp_seq ?_; refine w_reg ?_; refine s_do (o_mov (.bool false) rfl) ?_; refine w_done ?_; refine k_seq ?_; refine w_ret ?_; obtain rfl := os hf; exact r_flat ⟨trivial, trivial⟩ rfl (.refl _)

/- slices.IndexFunc[[]string,string] -/
def c113 : ACode :=
 (.seq (.reg (.q ⟨(some 4), none, .mov (.c (.int .i64 0))⟩
 .done))
 (.seq (.seq (.reg (.q ⟨(some 6), none, .mov (.t 0)⟩
 (.q ⟨(some 7), none, .len (.t 6)⟩
 (.q ⟨(some 8), none, .mov (.c (.int .i64 0))⟩
 .done))))
 (.block 0 (.loop (.seq (.reg (.q ⟨(some 9), none, .bin .lss (.t 8) (.t 7)⟩
 .done))
 (.seq (.cond (.t 9) .skip
 (.exit 0))
 (.seq (.block 1 (.seq (.reg (.q ⟨(some 10), none, .mov (.t 8)⟩
 (.q ⟨(some 5), none, .mov (.t 10)⟩
 .done)))
 (.seq (.reg (.q ⟨(some 11), none, .mov (.t 1)⟩
 (.q ⟨(some 12), none, .mov (.t 0)⟩
 (.q ⟨(some 13), none, .mov (.t 5)⟩
 (.q ⟨(some 14), none, .iaddr 1 (.t 12) (.t 13)⟩
 (.q ⟨(some 15), none, .load 1 false (.t 14)⟩
 (.q ⟨(some 16), none, .calv (.t 11) [(.t 15)]⟩
 .done)))))))
 (.cond (.t 16) (.seq (.reg (.q ⟨(some 17), none, .mov (.t 5)⟩
 (.q ⟨(some 4), none, .mov (.t 17)⟩
 .done)))
 .ret)
 .skip))))
 (.reg (.q ⟨(some 18), none, .bin .add (.t 8) (.c (.int .i64 1))⟩
 (.q ⟨(some 8), none, .mov (.t 18)⟩
 .done)))))))))
 (.cut (.seq (.reg (.q ⟨(some 4), none, .mov (.c (.int .i64 (-1)))⟩
 .done))
 .ret))))
theorem fc113 : fcomp Try.prog Try.f113 = some (c113.erase, [.mov (.t 4)], 19) := by kernel_rfl
def slices_IndexFunc_string_string_L1 (f_2 : (Str → Option Bool)) : List Str → Nat → Option (Fl Int Unit)
  | [], s8_17 =>
    some (.go ())
  | x_31 :: xs, s8_17 =>
    (f_2 x_31).bind fun r_32 =>
    if r_32 then
    some (.ret (s8_17 : Int))
    else
    slices_IndexFunc_string_string_L1 f_2 xs (s8_17 + 1)

def slices_IndexFunc_string_string (s_1 : (List Str)) (f_2 : (Str → Option Bool)) : Option Int :=
    (slices_IndexFunc_string_string_L1 f_2 s_1 0).bind fun q => (match q with
    | .ret r => some r
    | .go _ =>
    some (-1))
theorem w_slices_IndexFunc_string_string (s_1 : (List Str)) (f_2 : (Str → Option Bool)) (r : Int) (hf : slices_IndexFunc_string_string s_1 f_2 = some r) (kf_f_2 : Nat) (cf_f_2 : List AV) (okf_f_2 : okFn Try.prog kf_f_2 = true) (hcf_f_2 : ∀ h p, closeWs h p cf_f_2 = some cf_f_2) (hrf_f_2 : ∀ f, rens f cf_f_2 = cf_f_2) (hpf_f_2 : ∀ a0 r, f_2 a0 = some r → CallOK Try.prog kf_f_2 .flat ([(.str a0)] ++ cf_f_2) (.bool r)) : CallOK Try.prog 113 .flat [(.lst 1 (s_1.map AV.str)), (.fn kf_f_2 cf_f_2)] (.int .i64 r) := by
 refine CallOK.of_awp mixed Try.func113 fc113 nle ?_; rw [argT_eq]; unfold slices_IndexFunc_string_string at hf; unfold c113; refine (show awp Try.prog false 0 _ (ofL [(0, (.lst 1 (s_1.map AV.str))), (1, (.fn kf_f_2 cf_f_2))]) [] _ from ?_); refine awp_seq ?_; refine w_reg ?_; refine s_do (o_mov (.int .i64 0) rfl) ?_; refine w_done ?_; refine k_seq ?_; refine awp_seq ?_; refine awp_seq ?_; refine w_reg ?_; refine s_do (o_mov (.lst 1 (s_1.map AV.str)) rfl) ?_; refine s_dof (o_len (enc := AV.str) rfl) fun hl3 => ?_; refine s_do (o_mov (.int .i64 0) rfl) ?_; refine w_done ?_; refine k_seq ?_
 obtain ⟨p24, hb1, hf⟩ := ob hf
 refine awp_cutx (X := {q : Unit // p24 = .go q}) (fun q => ([], [])) ?_ ?_
 ·refine awp_loop (X := {q : Nat // slices_IndexFunc_string_string_L1 f_2 (s_1.drop q) q = some p24}) (fun q => ([(0, (.lst 1 (s_1.map AV.str))), (1, (.fn kf_f_2 cf_f_2)), (7, (.int .i64 (s_1.length : Int))), (8, (.int .i64 (q.1 : Int)))], [])) (fun q => s_1.length - q.1) ⟨0, hb1⟩ ⟨[], [], _, _, rfl, rfl, ⟨.refl _, ⟨.of_eq (congrArg (AV.fn _) (hrf_f_2 _)), ⟨.refl _, ⟨.refl _, trivial⟩⟩⟩⟩, (.refl _)⟩ ?_
  rintro ⟨s8_17, hc1⟩
  have hc1 : slices_IndexFunc_string_string_L1 f_2 (s_1.drop s8_17) s8_17 = some p24 := hc1
  refine (show awp Try.prog false 0 _ (ofL [(0, (.lst 1 (s_1.map AV.str))), (1, (.fn kf_f_2 cf_f_2)), (7, (.int .i64 (s_1.length : Int))), (8, (.int .i64 (s8_17 : Int)))]) [] _ from ?_)
  rcases dropc s_1 s8_17 with ⟨hie27, hd30⟩ | ⟨hlt25, x_31, hx26, hd30⟩
  ·rw [hd30, slices_IndexFunc_string_string_L1.eq_1] at hc1
   have hq29 := dlf hie27
   refine awp_seq ?_; refine w_reg ?_; refine s_do (o_q (.bool (decide ((s8_17 : Int) < (s_1.length : Int)))) rfl rfl rfl) ?_; refine w_done ?_; refine k_seq ?_; refine awp_seq ?_; refine w_condf rfl hq29 ?_; refine w_exit ?_; refine k_seqx ?_; refine k_loopx ?_; refine k_blkx ?_; obtain rfl := os hc1; exact k_cutn ⟨_, rfl⟩ ⟨[], [], _, _, rfl, rfl, trivial, (.refl _)⟩
  ·rw [hd30, slices_IndexFunc_string_string_L1.eq_2] at hc1
   have hq29 := dlt hlt25
   refine awp_seq ?_; refine w_reg ?_; refine s_do (o_q (.bool (decide ((s8_17 : Int) < (s_1.length : Int)))) rfl rfl rfl) ?_; refine w_done ?_; refine k_seq ?_; refine awp_seq ?_; refine w_condt rfl hq29 ?_; refine w_skip ?_; refine k_seq ?_; refine awp_seq ?_; refine w_blk ?_; refine awp_seq ?_; refine w_reg ?_; refine s_do (o_mov (.int .i64 (s8_17 : Int)) rfl) ?_; refine s_do (o_mov (.int .i64 (s8_17 : Int)) rfl) ?_; refine w_done ?_; refine k_seq ?_; refine awp_seq ?_; refine w_reg ?_
   obtain ⟨r_32, er33, hc1⟩ := ob hc1
   refine s_do (o_mov (.fn kf_f_2 cf_f_2) rfl) ?_; refine s_do (o_mov (.lst 1 (s_1.map AV.str)) rfl) ?_; refine s_do (o_mov (.int .i64 (s8_17 : Int)) rfl) ?_; refine s_do (o_iaddrn (enc := AV.str) rfl rfl hx26) ?_; refine s_do (o_q (.str x_31) rfl ⟨rfl, rfl⟩ rfl) ?_; refine s_do (o_calvp (v := (.bool r_32)) rfl okf_f_2 hcf_f_2 (hpf_f_2 _ _ er33) rfl (.refl _) rfl) ?_; refine w_done ?_; refine k_seq ?_
   rcases oi hc1 with ⟨c34, hc1⟩ | ⟨c34, hc1⟩
   ·refine w_condt rfl c34 ?_; refine awp_seq ?_; refine w_reg ?_; refine s_do (o_mov (.int .i64 (s8_17 : Int)) rfl) ?_; refine s_do (o_mov (.int .i64 (s8_17 : Int)) rfl) ?_; refine w_done ?_; refine k_seq ?_; refine w_ret ?_; obtain rfl := os hc1; obtain rfl := os hf; exact r_flat ⟨trivial, trivial⟩ rfl (.refl _)
   ·refine w_condf rfl (bf c34) ?_; refine w_skip ?_; refine k_blk ?_; refine k_seq ?_; refine w_reg ?_; refine s_do (o_q (.int .i64 (w64 ((s8_17 : Int) + 1))) rfl rfl rfl) ?_; refine s_do (o_mov (.int .i64 (w64 ((s8_17 : Int) + 1))) rfl) ?_; refine w_done ?_; exact k_loopn ⟨(s8_17 + 1), hc1⟩ (mul hlt25) ⟨[], [], _, _, rfl, rfl, ⟨.refl _, ⟨.of_eq (congrArg (AV.fn _) (hrf_f_2 _)), ⟨.refl _, ⟨.of_eq (congrArg (AV.int _) (w64_incr hlt25 hl3)), trivial⟩⟩⟩⟩, (.refl _)⟩
 ·rintro ⟨_, rfl⟩
  refine awp_seq ?_; refine w_reg ?_; refine s_do (o_mov (.int .i64 (-1)) rfl) ?_; refine w_done ?_; refine k_seq ?_; refine w_ret ?_; obtain rfl := os hf; exact r_flat ⟨trivial, trivial⟩ rfl (.refl _)

/- slices.ContainsFunc[[]string,string] -/
def c74 : ACode :=
 (.seq (.reg (.q ⟨(some 4), none, .mov (.c (.bool false))⟩
 .done))
 (.seq (.reg (.q ⟨(some 5), none, .mov (.t 0)⟩
 (.q ⟨(some 6), none, .mov (.t 1)⟩
 (.q ⟨(some 7), none, .call 113 [(.t 5), (.t 6)]⟩
 (.q ⟨(some 8), none, .bin .geq (.t 7) (.c (.int .i64 0))⟩
 (.q ⟨(some 4), none, .mov (.t 8)⟩
 .done))))))
 .ret))
theorem fc74 : fcomp Try.prog Try.f74 = some (c74.erase, [.mov (.t 4)], 9) := by kernel_rfl
def slices_ContainsFunc_string_string (s_1 : (List Str)) (f_2 : (Str → Option Bool)) : Option Bool :=
    (slices_IndexFunc_string_string s_1 f_2).bind fun r_3 =>
    some (decide (r_3 ≥ 0))
theorem w_slices_ContainsFunc_string_string (s_1 : (List Str)) (f_2 : (Str → Option Bool)) (r : Bool) (hf : slices_ContainsFunc_string_string s_1 f_2 = some r) (kf_f_2 : Nat) (cf_f_2 : List AV) (okf_f_2 : okFn Try.prog kf_f_2 = true) (hcf_f_2 : ∀ h p, closeWs h p cf_f_2 = some cf_f_2) (hrf_f_2 : ∀ f, rens f cf_f_2 = cf_f_2) (hpf_f_2 : ∀ a0 r, f_2 a0 = some r → CallOK Try.prog kf_f_2 .flat ([(.str a0)] ++ cf_f_2) (.bool r)) : CallOK Try.prog 74 .flat [(.lst 1 (s_1.map AV.str)), (.fn kf_f_2 cf_f_2)] (.bool r) := by
  refine CallOK.of_awp mixed Try.func74 fc74 nle ?_
  rw [argT_eq]
  unfold slices_ContainsFunc_string_string at hf
  unfold c74
  refine (show awp Try.prog false 0 _ (ofL [(0, (.lst 1 (s_1.map AV.str))), (1, (.fn kf_f_2 cf_f_2))]) [] _ from ?_)
  refine awp_seq ?_
  refine w_reg ?_
  refine s_do (o_mov (.bool false) rfl) ?_
  refine w_done ?_
  refine k_seq ?_
  refine awp_seq ?_
  refine w_reg ?_
  obtain ⟨r_3, er4, hf⟩ := ob hf
  refine s_do (o_mov (.lst 1 (s_1.map AV.str)) rfl) ?_
  refine s_do (o_mov (.fn kf_f_2 cf_f_2) rfl) ?_
  refine s_do (o_call (w_slices_IndexFunc_string_string _ _ _ er4 kf_f_2 cf_f_2 okf_f_2 hcf_f_2 hrf_f_2 hpf_f_2) (cls_cons rfl (cls_cons (cls_fn hcf_f_2) rfl)) (.refl _) rfl) ?_
  refine s_do (o_q (.bool (decide (r_3 ≥ 0))) rfl rfl rfl) ?_
  refine s_do (o_mov (.bool (decide (r_3 ≥ 0))) rfl) ?_
  refine w_done ?_
  refine k_seq ?_
  refine w_ret ?_
  obtain rfl := os hf
  exact r_flat ⟨trivial, trivial⟩ rfl (.refl _)

/- impl.areShort$1 -/
def c75 : ACode :=
 (.seq (.reg (.q ⟨(some 2), none, .mov (.c (.bool false))⟩
 .done))
 (.seq (.reg (.q ⟨(some 3), none, .mov (.t 0)⟩
 (.q ⟨(some 4), none, .lenS (.t 3)⟩
 (.q ⟨(some 5), none, .bin .gtr (.t 4) (.c (.int .i64 40))⟩
 (.q ⟨(some 2), none, .mov (.t 5)⟩
 .done)))))
 .ret))
theorem fc75 : fcomp Try.prog Try.f75 = some (c75.erase, [.mov (.t 2)], 6) := by kernel_rfl
def impl_areShort_1 (t_1 : Str) : Option Bool :=
    some (decide ((t_1.length : Int) > 40))
theorem w_impl_areShort_1 (t_1 : Str) (r : Bool) (hf : impl_areShort_1 t_1 = some r) : CallOK Try.prog 75 .flat [(.str t_1)] (.bool r) := by
  refine CallOK.of_awp mixed Try.func75 fc75 nle ?_
  rw [argT_eq]
  unfold impl_areShort_1 at hf
  unfold c75
  refine (show awp Try.prog false 0 _ (ofL [(0, (.str t_1))]) [] _ from ?_)
  refine awp_seq ?_
  refine w_reg ?_
  refine s_do (o_mov (.bool false) rfl) ?_
  refine w_done ?_
  refine k_seq ?_
  refine awp_seq ?_
  refine w_reg ?_
  refine s_do (o_mov (.str t_1) rfl) ?_
  refine s_dof (o_lenS rfl) fun hl2 => ?_
  refine s_do (o_q (.bool (decide ((t_1.length : Int) > 40))) rfl rfl rfl) ?_
  refine s_do (o_mov (.bool (decide ((t_1.length : Int) > 40))) rfl) ?_
  refine w_done ?_
  refine k_seq ?_
  refine w_ret ?_
  obtain rfl := os hf
  exact r_flat ⟨trivial, trivial⟩ rfl (.refl _)

/- impl.areShort -/
def c37 : ACode :=
 (.seq (.reg (.q ⟨(some 2), none, .mov (.c (.bool false))⟩
 .done))
 (.seq (.reg (.q ⟨(some 3), none, .mov (.t 0)⟩
 (.q ⟨(some 4), none, .call 74 [(.t 3), (.c (.fn 75 []))]⟩
 (.q ⟨(some 5), none, .not (.t 4)⟩
 (.q ⟨(some 2), none, .mov (.t 5)⟩
 .done)))))
 .ret))
theorem fc37 : fcomp Try.prog Try.f37 = some (c37.erase, [.mov (.t 2)], 6) := by kernel_rfl
def impl_areShort (list_1 : (List Str)) : Option Bool :=
    (slices_ContainsFunc_string_string list_1 impl_areShort_1).bind fun r_2 =>
    some (!r_2)
theorem w_impl_areShort (list_1 : (List Str)) (r : Bool) (hf : impl_areShort list_1 = some r) : CallOK Try.prog 37 .flat [(.lst 1 (list_1.map AV.str))] (.bool r) := by
  refine CallOK.of_awp mixed Try.func37 fc37 nle ?_
  rw [argT_eq]
  unfold impl_areShort at hf
  unfold c37
  refine (show awp Try.prog false 0 _ (ofL [(0, (.lst 1 (list_1.map AV.str)))]) [] _ from ?_)
  refine awp_seq ?_
  refine w_reg ?_
  refine s_do (o_mov (.bool false) rfl) ?_
  refine w_done ?_
  refine k_seq ?_
  refine awp_seq ?_
  refine w_reg ?_
  obtain ⟨r_2, er3, hf⟩ := ob hf
  refine s_do (o_mov (.lst 1 (list_1.map AV.str)) rfl) ?_
  refine s_do (o_call (w_slices_ContainsFunc_string_string _ _ _ er3 75 [] (by kernel_rfl) (fun _ _ => rfl) (fun _ => rfl) (fun a0 r h => w_impl_areShort_1 a0 r h)) rfl (.refl _) rfl) ?_
  refine s_do (o_q (.bool (!r_2)) rfl trivial rfl) ?_
  refine s_do (o_mov (.bool (!r_2)) rfl) ?_
  refine w_done ?_
  refine k_seq ?_
  refine w_ret ?_
  obtain rfl := os hf
  exact r_flat ⟨trivial, trivial⟩ rfl (.refl _)

/- slices.IndexFunc[[]impl.Cond,impl.Cond] -/
def c114 : ACode :=
 (.seq (.reg (.q ⟨(some 4), none, .mov (.c (.int .i64 0))⟩
 .done))
 (.seq (.seq (.reg (.q ⟨(some 6), none, .mov (.t 0)⟩
 (.q ⟨(some 7), none, .len (.t 6)⟩
 (.q ⟨(some 8), none, .mov (.c (.int .i64 0))⟩
 .done))))
 (.block 0 (.loop (.seq (.reg (.q ⟨(some 9), none, .bin .lss (.t 8) (.t 7)⟩
 .done))
 (.seq (.cond (.t 9) .skip
 (.exit 0))
 (.seq (.block 1 (.seq (.reg (.q ⟨(some 10), none, .mov (.t 8)⟩
 (.q ⟨(some 5), none, .mov (.t 10)⟩
 .done)))
 (.seq (.reg (.q ⟨(some 11), none, .mov (.t 1)⟩
 (.q ⟨(some 12), none, .mov (.t 0)⟩
 (.q ⟨(some 13), none, .mov (.t 5)⟩
 (.q ⟨(some 14), none, .iaddr 3 (.t 12) (.t 13)⟩
 (.q ⟨(some 15), none, .load 3 true (.t 14)⟩
 (.q ⟨(some 16), none, .calv (.t 11) [(.t 15)]⟩
 .done)))))))
 (.cond (.t 16) (.seq (.reg (.q ⟨(some 17), none, .mov (.t 5)⟩
 (.q ⟨(some 4), none, .mov (.t 17)⟩
 .done)))
 .ret)
 .skip))))
 (.reg (.q ⟨(some 18), none, .bin .add (.t 8) (.c (.int .i64 1))⟩
 (.q ⟨(some 8), none, .mov (.t 18)⟩
 .done)))))))))
 (.cut (.seq (.reg (.q ⟨(some 4), none, .mov (.c (.int .i64 (-1)))⟩
 .done))
 .ret))))
theorem fc114 : fcomp Try.prog Try.f114 = some (c114.erase, [.mov (.t 4)], 19) := by kernel_rfl
def slices_IndexFunc_impl_Cond_impl_Cond_L1 (f_2 : (GCond → Option Bool)) : List GCond → Nat → Option (Fl Int Unit)
  | [], s8_17 =>
    some (.go ())
  | x_31 :: xs, s8_17 =>
    (f_2 x_31).bind fun r_32 =>
    if r_32 then
    some (.ret (s8_17 : Int))
    else
    slices_IndexFunc_impl_Cond_impl_Cond_L1 f_2 xs (s8_17 + 1)

def slices_IndexFunc_impl_Cond_impl_Cond (s_1 : (List GCond)) (f_2 : (GCond → Option Bool)) : Option Int :=
    (slices_IndexFunc_impl_Cond_impl_Cond_L1 f_2 s_1 0).bind fun q => (match q with
    | .ret r => some r
    | .go _ =>
    some (-1))
theorem w_slices_IndexFunc_impl_Cond_impl_Cond (s_1 : (List GCond)) (f_2 : (GCond → Option Bool)) (r : Int) (hf : slices_IndexFunc_impl_Cond_impl_Cond s_1 f_2 = some r) (kf_f_2 : Nat) (cf_f_2 : List AV) (okf_f_2 : okFn Try.prog kf_f_2 = true) (hcf_f_2 : ∀ h p, closeWs h p cf_f_2 = some cf_f_2) (hrf_f_2 : ∀ f, rens f cf_f_2 = cf_f_2) (hpf_f_2 : ∀ a0 r, f_2 a0 = some r → CallOK Try.prog kf_f_2 .flat ([(encGCond a0)] ++ cf_f_2) (.bool r)) : CallOK Try.prog 114 .flat [(.lst 3 (s_1.map encGCond)), (.fn kf_f_2 cf_f_2)] (.int .i64 r) := by
 refine CallOK.of_awp mixed Try.func114 fc114 nle ?_; rw [argT_eq]; unfold slices_IndexFunc_impl_Cond_impl_Cond at hf; unfold c114; refine (show awp Try.prog false 0 _ (ofL [(0, (.lst 3 (s_1.map encGCond))), (1, (.fn kf_f_2 cf_f_2))]) [] _ from ?_); refine awp_seq ?_; refine w_reg ?_; refine s_do (o_mov (.int .i64 0) rfl) ?_; refine w_done ?_; refine k_seq ?_; refine awp_seq ?_; refine awp_seq ?_; refine w_reg ?_; refine s_do (o_mov (.lst 3 (s_1.map encGCond)) rfl) ?_; refine s_dof (o_len (enc := encGCond) rfl) fun hl3 => ?_; refine s_do (o_mov (.int .i64 0) rfl) ?_; refine w_done ?_; refine k_seq ?_
 obtain ⟨p24, hb1, hf⟩ := ob hf
 refine awp_cutx (X := {q : Unit // p24 = .go q}) (fun q => ([], [])) ?_ ?_
 ·refine awp_loop (X := {q : Nat // slices_IndexFunc_impl_Cond_impl_Cond_L1 f_2 (s_1.drop q) q = some p24}) (fun q => ([(0, (.lst 3 (s_1.map encGCond))), (1, (.fn kf_f_2 cf_f_2)), (7, (.int .i64 (s_1.length : Int))), (8, (.int .i64 (q.1 : Int)))], [])) (fun q => s_1.length - q.1) ⟨0, hb1⟩ ⟨[], [], _, _, rfl, rfl, ⟨.refl _, ⟨.of_eq (congrArg (AV.fn _) (hrf_f_2 _)), ⟨.refl _, ⟨.refl _, trivial⟩⟩⟩⟩, (.refl _)⟩ ?_
  rintro ⟨s8_17, hc1⟩
  have hc1 : slices_IndexFunc_impl_Cond_impl_Cond_L1 f_2 (s_1.drop s8_17) s8_17 = some p24 := hc1
  refine (show awp Try.prog false 0 _ (ofL [(0, (.lst 3 (s_1.map encGCond))), (1, (.fn kf_f_2 cf_f_2)), (7, (.int .i64 (s_1.length : Int))), (8, (.int .i64 (s8_17 : Int)))]) [] _ from ?_)
  rcases dropc s_1 s8_17 with ⟨hie27, hd30⟩ | ⟨hlt25, x_31, hx26, hd30⟩
  ·rw [hd30, slices_IndexFunc_impl_Cond_impl_Cond_L1.eq_1] at hc1
   have hq29 := dlf hie27
   refine awp_seq ?_; refine w_reg ?_; refine s_do (o_q (.bool (decide ((s8_17 : Int) < (s_1.length : Int)))) rfl rfl rfl) ?_; refine w_done ?_; refine k_seq ?_; refine awp_seq ?_; refine w_condf rfl hq29 ?_; refine w_exit ?_; refine k_seqx ?_; refine k_loopx ?_; refine k_blkx ?_; obtain rfl := os hc1; exact k_cutn ⟨_, rfl⟩ ⟨[], [], _, _, rfl, rfl, trivial, (.refl _)⟩
  ·rw [hd30, slices_IndexFunc_impl_Cond_impl_Cond_L1.eq_2] at hc1
   have hq29 := dlt hlt25
   refine awp_seq ?_; refine w_reg ?_; refine s_do (o_q (.bool (decide ((s8_17 : Int) < (s_1.length : Int)))) rfl rfl rfl) ?_; refine w_done ?_; refine k_seq ?_; refine awp_seq ?_; refine w_condt rfl hq29 ?_; refine w_skip ?_; refine k_seq ?_; refine awp_seq ?_; refine w_blk ?_; refine awp_seq ?_; refine w_reg ?_; refine s_do (o_mov (.int .i64 (s8_17 : Int)) rfl) ?_; refine s_do (o_mov (.int .i64 (s8_17 : Int)) rfl) ?_; refine w_done ?_; refine k_seq ?_; refine awp_seq ?_; refine w_reg ?_
   obtain ⟨r_32, er33, hc1⟩ := ob hc1
   refine s_do (o_mov (.fn kf_f_2 cf_f_2) rfl) ?_; refine s_do (o_mov (.lst 3 (s_1.map encGCond)) rfl) ?_; refine s_do (o_mov (.int .i64 (s8_17 : Int)) rfl) ?_; refine s_do (o_iaddrn (enc := encGCond) rfl rfl hx26) ?_; refine s_do (o_q (encGCond x_31) rfl nle rfl) ?_; refine s_do (o_calvp (v := (.bool r_32)) rfl okf_f_2 hcf_f_2 (hpf_f_2 _ _ er33) rfl (.refl _) rfl) ?_; refine w_done ?_; refine k_seq ?_
   rcases oi hc1 with ⟨c34, hc1⟩ | ⟨c34, hc1⟩
   ·refine w_condt rfl c34 ?_; refine awp_seq ?_; refine w_reg ?_; refine s_do (o_mov (.int .i64 (s8_17 : Int)) rfl) ?_; refine s_do (o_mov (.int .i64 (s8_17 : Int)) rfl) ?_; refine w_done ?_; refine k_seq ?_; refine w_ret ?_; obtain rfl := os hc1; obtain rfl := os hf; exact r_flat ⟨trivial, trivial⟩ rfl (.refl _)
   ·refine w_condf rfl (bf c34) ?_; refine w_skip ?_; refine k_blk ?_; refine k_seq ?_; refine w_reg ?_; refine s_do (o_q (.int .i64 (w64 ((s8_17 : Int) + 1))) rfl rfl rfl) ?_; refine s_do (o_mov (.int .i64 (w64 ((s8_17 : Int) + 1))) rfl) ?_; refine w_done ?_; exact k_loopn ⟨(s8_17 + 1), hc1⟩ (mul hlt25) ⟨[], [], _, _, rfl, rfl, ⟨.refl _, ⟨.of_eq (congrArg (AV.fn _) (hrf_f_2 _)), ⟨.refl _, ⟨.of_eq (congrArg (AV.int _) (w64_incr hlt25 hl3)), trivial⟩⟩⟩⟩, (.refl _)⟩
 ·rintro ⟨_, rfl⟩
  refine awp_seq ?_; refine w_reg ?_; refine s_do (o_mov (.int .i64 (-1)) rfl) ?_; refine w_done ?_; refine k_seq ?_; refine w_ret ?_; obtain rfl := os hf; exact r_flat ⟨trivial, trivial⟩ rfl (.refl _)

/- slices.ContainsFunc[[]impl.Cond,impl.Cond] -/
def c76 : ACode :=
 (.seq (.reg (.q ⟨(some 4), none, .mov (.c (.bool false))⟩
 .done))
 (.seq (.reg (.q ⟨(some 5), none, .mov (.t 0)⟩
 (.q ⟨(some 6), none, .mov (.t 1)⟩
 (.q ⟨(some 7), none, .call 114 [(.t 5), (.t 6)]⟩
 (.q ⟨(some 8), none, .bin .geq (.t 7) (.c (.int .i64 0))⟩
 (.q ⟨(some 4), none, .mov (.t 8)⟩
 .done))))))
 .ret))
theorem fc76 : fcomp Try.prog Try.f76 = some (c76.erase, [.mov (.t 4)], 9) := by kernel_rfl
def slices_ContainsFunc_impl_Cond_impl_Cond (s_1 : (List GCond)) (f_2 : (GCond → Option Bool)) : Option Bool :=
    (slices_IndexFunc_impl_Cond_impl_Cond s_1 f_2).bind fun r_3 =>
    some (decide (r_3 ≥ 0))
theorem w_slices_ContainsFunc_impl_Cond_impl_Cond (s_1 : (List GCond)) (f_2 : (GCond → Option Bool)) (r : Bool) (hf : slices_ContainsFunc_impl_Cond_impl_Cond s_1 f_2 = some r) (kf_f_2 : Nat) (cf_f_2 : List AV) (okf_f_2 : okFn Try.prog kf_f_2 = true) (hcf_f_2 : ∀ h p, closeWs h p cf_f_2 = some cf_f_2) (hrf_f_2 : ∀ f, rens f cf_f_2 = cf_f_2) (hpf_f_2 : ∀ a0 r, f_2 a0 = some r → CallOK Try.prog kf_f_2 .flat ([(encGCond a0)] ++ cf_f_2) (.bool r)) : CallOK Try.prog 76 .flat [(.lst 3 (s_1.map encGCond)), (.fn kf_f_2 cf_f_2)] (.bool r) := by
  refine CallOK.of_awp mixed Try.func76 fc76 nle ?_
  rw [argT_eq]
  unfold slices_ContainsFunc_impl_Cond_impl_Cond at hf
  unfold c76
  refine (show awp Try.prog false 0 _ (ofL [(0, (.lst 3 (s_1.map encGCond))), (1, (.fn kf_f_2 cf_f_2))]) [] _ from ?_)
  refine awp_seq ?_
  refine w_reg ?_
  refine s_do (o_mov (.bool false) rfl) ?_
  refine w_done ?_
  refine k_seq ?_
  refine awp_seq ?_
  refine w_reg ?_
  obtain ⟨r_3, er4, hf⟩ := ob hf
  refine s_do (o_mov (.lst 3 (s_1.map encGCond)) rfl) ?_
  refine s_do (o_mov (.fn kf_f_2 cf_f_2) rfl) ?_
  refine s_do (o_call (w_slices_IndexFunc_impl_Cond_impl_Cond _ _ _ er4 kf_f_2 cf_f_2 okf_f_2 hcf_f_2 hrf_f_2 hpf_f_2) (cls_cons rfl (cls_cons (cls_fn hcf_f_2) rfl)) (.refl _) rfl) ?_
  refine s_do (o_q (.bool (decide (r_3 ≥ 0))) rfl rfl rfl) ?_
  refine s_do (o_mov (.bool (decide (r_3 ≥ 0))) rfl) ?_
  refine w_done ?_
  refine k_seq ?_
  refine w_ret ?_
  obtain rfl := os hf
  exact r_flat ⟨trivial, trivial⟩ rfl (.refl _)

/- impl.within -/
def c92 : ACode :=
 (.seq (.reg (.q ⟨(some 6), none, .mov (.c (.bool false))⟩
 .done))
 (.seq (.reg (.q ⟨(some 7), none, .mov (.t 0)⟩
 (.q ⟨(some 8), none, .mov (.t 1)⟩
 (.q ⟨(some 9), none, .bin .geq (.t 7) (.t 8)⟩
 (.q ⟨(some 10), none, .mov (.t 9)⟩
 (.q ⟨(some 11), (some (10, true)), .mov (.t 0)⟩
 (.q ⟨(some 12), (some (10, true)), .mov (.t 2)⟩
 (.q ⟨(some 13), (some (10, true)), .bin .leq (.t 11) (.t 12)⟩
 (.q ⟨(some 14), none, .pick (.t 10) (.t 13) (.c (.bool false))⟩
 (.q ⟨(some 6), none, .mov (.t 14)⟩
 .done))))))))))
 .ret))
theorem fc92 : fcomp Try.prog Try.f92 = some (c92.erase, [.mov (.t 6)], 15) := by kernel_rfl
def impl_within (n_1 : Int) (low_2 : Int) (high_3 : Int) : Option Bool :=
    if (decide (n_1 ≥ low_2)) then
    some (decide (n_1 ≤ high_3))
    else
    some false
theorem w_impl_within (n_1 : Int) (low_2 : Int) (high_3 : Int) (r : Bool) (hf : impl_within n_1 low_2 high_3 = some r) : CallOK Try.prog 92 .flat [(.int .i64 n_1), (.int .i64 low_2), (.int .i64 high_3)] (.bool r) := by
  refine CallOK.of_awp mixed Try.func92 fc92 nle ?_
  rw [argT_eq]
  unfold impl_within at hf
  unfold c92
  refine (show awp Try.prog false 0 _ (ofL [(0, (.int .i64 n_1)), (1, (.int .i64 low_2)), (2, (.int .i64 high_3))]) [] _ from ?_)
  refine awp_seq ?_
  refine w_reg ?_
  refine s_do (o_mov (.bool false) rfl) ?_
  refine w_done ?_
  refine k_seq ?_
  refine awp_seq ?_
  refine w_reg ?_
  rcases oi hf with ⟨c4, hf⟩ | ⟨c4, hf⟩
  · refine s_do (o_mov (.int .i64 n_1) rfl) ?_
    refine s_do (o_mov (.int .i64 low_2) rfl) ?_
    refine s_do (o_q (.bool (decide (n_1 ≥ low_2))) rfl rfl rfl) ?_
    refine s_do (o_mov (.bool (decide (n_1 ≥ low_2))) rfl) ?_
    refine s_lit (s := 10) (b := true) rfl c4 ?_
    refine s_on rfl ?_
    refine s_do (o_mov (.int .i64 n_1) rfl) ?_
    refine s_on rfl ?_
    refine s_do (o_mov (.int .i64 high_3) rfl) ?_
    refine s_on rfl ?_
    refine s_do (o_q (.bool (decide (n_1 ≤ high_3))) rfl rfl rfl) ?_
    refine s_do (o_q (.bool (decide (n_1 ≤ high_3))) rfl trivial rfl) ?_
    refine s_do (o_mov (.bool (decide (n_1 ≤ high_3))) rfl) ?_
    refine w_done ?_
    refine k_seq ?_
    refine w_ret ?_
    obtain rfl := os hf
    exact r_flat ⟨trivial, trivial⟩ rfl (.refl _)
  · refine s_do (o_mov (.int .i64 n_1) rfl) ?_
    refine s_do (o_mov (.int .i64 low_2) rfl) ?_
    refine s_do (o_q (.bool (decide (n_1 ≥ low_2))) rfl rfl rfl) ?_
    refine s_do (o_mov (.bool (decide (n_1 ≥ low_2))) rfl) ?_
    refine s_lit (s := 10) (b := false) rfl (bf c4) ?_
    refine s_off rfl rfl ?_
    refine s_off rfl rfl ?_
    refine s_off rfl rfl ?_
    refine s_do (o_q (.bool false) rfl trivial rfl) ?_
    refine s_do (o_mov (.bool false) rfl) ?_
    refine w_done ?_
    refine k_seq ?_
    refine w_ret ?_
    obtain rfl := os hf
    exact r_flat ⟨trivial, trivial⟩ rfl (.refl _)

/- impl.isNumber -/
def c90 : ACode :=
 (.seq (.reg (.q ⟨(some 2), none, .mov (.c (.bool false))⟩
 .done))
 (.seq (.reg (.q ⟨(some 3), none, .mov (.t 0)⟩
 (.q ⟨(some 4), none, .call 92 [(.t 3), (.c (.int .i64 (-1000000000))), (.c (.int .i64 1000000000))]⟩
 (.q ⟨(some 2), none, .mov (.t 4)⟩
 .done))))
 .ret))
theorem fc90 : fcomp Try.prog Try.f90 = some (c90.erase, [.mov (.t 2)], 5) := by kernel_rfl
def impl_isNumber (n_1 : Int) : Option Bool :=
    (impl_within n_1 (-1000000000) 1000000000).bind fun r_2 =>
    some r_2
theorem w_impl_isNumber (n_1 : Int) (r : Bool) (hf : impl_isNumber n_1 = some r) : CallOK Try.prog 90 .flat [(.int .i64 n_1)] (.bool r) := by
  refine CallOK.of_awp mixed Try.func90 fc90 nle ?_
  rw [argT_eq]
  unfold impl_isNumber at hf
  unfold c90
  refine (show awp Try.prog false 0 _ (ofL [(0, (.int .i64 n_1))]) [] _ from ?_)
  refine awp_seq ?_
  refine w_reg ?_
  refine s_do (o_mov (.bool false) rfl) ?_
  refine w_done ?_
  refine k_seq ?_
  refine awp_seq ?_
  refine w_reg ?_
  obtain ⟨r_2, er3, hf⟩ := ob hf
  refine s_do (o_mov (.int .i64 n_1) rfl) ?_
  refine s_do (o_call (w_impl_within _ _ _ _ er3) rfl (.refl _) rfl) ?_
  refine s_do (o_mov (.bool r_2) rfl) ?_
  refine w_done ?_
  refine k_seq ?_
  refine w_ret ?_
  obtain rfl := os hf
  exact r_flat ⟨trivial, trivial⟩ rfl (.refl _)

/- impl.isPlain -/
def c91 : ACode :=
 (.seq (.reg (.q ⟨(some 2), none, .mov (.c (.bool false))⟩
 .done))
 (.seq (.seq (.reg (.q ⟨(some 4), none, .mov (.t 0)⟩
 (.q ⟨(some 5), none, .lenS (.t 4)⟩
 (.q ⟨(some 6), none, .mov (.c (.int .i64 0))⟩
 .done))))
 (.block 0 (.loop (.seq (.reg (.q ⟨(some 7), none, .bin .lss (.t 6) (.t 5)⟩
 .done))
 (.seq (.cond (.t 7) .skip
 (.exit 0))
 (.seq (.block 1 (.seq (.reg (.q ⟨(some 8), none, .mov (.t 6)⟩
 (.q ⟨(some 3), none, .mov (.t 8)⟩
 .done)))
 (.seq (.reg (.q ⟨(some 9), none, .mov (.t 0)⟩
 (.q ⟨(some 10), none, .mov (.t 3)⟩
 (.q ⟨(some 11), none, .idxs (.t 9) (.t 10)⟩
 (.q ⟨(some 12), none, .bin .lss (.t 11) (.c (.int .u8 32))⟩
 (.q ⟨(some 13), none, .mov (.t 12)⟩
 (.q ⟨(some 14), (some (13, false)), .mov (.t 0)⟩
 (.q ⟨(some 15), (some (13, false)), .mov (.t 3)⟩
 (.q ⟨(some 16), (some (13, false)), .idxs (.t 14) (.t 15)⟩
 (.q ⟨(some 17), (some (13, false)), .bin .gtr (.t 16) (.c (.int .u8 126))⟩
 (.q ⟨(some 18), none, .pick (.t 13) (.c (.bool true)) (.t 17)⟩
 .done)))))))))))
 (.cut (.cond (.t 18) (.seq (.reg (.q ⟨(some 2), none, .mov (.c (.bool false))⟩
 .done))
 .ret)
 .skip)))))
 (.reg (.q ⟨(some 19), none, .bin .add (.t 6) (.c (.int .i64 1))⟩
 (.q ⟨(some 6), none, .mov (.t 19)⟩
 .done)))))))))
 (.cut (.seq (.reg (.q ⟨(some 20), none, .mov (.t 0)⟩
 (.q ⟨(some 21), none, .lenS (.t 20)⟩
 (.q ⟨(some 22), none, .bin .leq (.t 21) (.c (.int .i64 200))⟩
 (.q ⟨(some 2), none, .mov (.t 22)⟩
 .done)))))
 .ret))))
theorem fc91 : fcomp Try.prog Try.f91 = some (c91.erase, [.mov (.t 2)], 23) := by kernel_rfl
def impl_isPlain_L1  : List UInt8 → Option (Fl Bool Unit)
  | [] =>
    some (.go ())
  | x_54 :: xs =>
    ((if (decide ((x_54.toNat : Int) < 32)) then
    some true
    else
    some (decide ((x_54.toNat : Int) > 126)) : Option Bool)).bind fun s18_56 =>
    if s18_56 then
    some (.ret false)
    else
    impl_isPlain_L1 xs 

def impl_isPlain (t_1 : Str) : Option Bool :=
    (impl_isPlain_L1 t_1 ).bind fun q => (match q with
    | .ret r => some r
    | .go _ =>
    some (decide ((t_1.length : Int) ≤ 200)))
theorem w_impl_isPlain (t_1 : Str) (r : Bool) (hf : impl_isPlain t_1 = some r) : CallOK Try.prog 91 .flat [(.str t_1)] (.bool r) := by
 refine CallOK.of_awp mixed Try.func91 fc91 nle ?_; rw [argT_eq]; unfold impl_isPlain at hf; unfold c91; refine (show awp Try.prog false 0 _ (ofL [(0, (.str t_1))]) [] _ from ?_); refine awp_seq ?_; refine w_reg ?_; refine s_do (o_mov (.bool false) rfl) ?_; refine w_done ?_; refine k_seq ?_; refine awp_seq ?_; refine awp_seq ?_; refine w_reg ?_; refine s_do (o_mov (.str t_1) rfl) ?_; refine s_dof (o_lenS rfl) fun hl2 => ?_; refine s_do (o_mov (.int .i64 0) rfl) ?_; refine w_done ?_; refine k_seq ?_
 obtain ⟨p47, hb1, hf⟩ := ob hf
 refine awp_cutx (X := {q : Unit // p47 = .go q}) (fun q => ([(0, (.str t_1))], [])) ?_ ?_
 ·refine awp_loop (X := {q : Nat // impl_isPlain_L1 (t_1.drop q)  = some p47}) (fun q => ([(0, (.str t_1)), (5, (.int .i64 (t_1.length : Int))), (6, (.int .i64 (q.1 : Int)))], [])) (fun q => t_1.length - q.1) ⟨0, hb1⟩ ⟨[], [], _, _, rfl, rfl, ⟨.refl _, ⟨.refl _, ⟨.refl _, trivial⟩⟩⟩, (.refl _)⟩ ?_
  rintro ⟨s6_32, hc1⟩
  have hc1 : impl_isPlain_L1 (t_1.drop s6_32)  = some p47 := hc1
  refine (show awp Try.prog false 0 _ (ofL [(0, (.str t_1)), (5, (.int .i64 (t_1.length : Int))), (6, (.int .i64 (s6_32 : Int)))]) [] _ from ?_)
  rcases dropc t_1 s6_32 with ⟨hie50, hd53⟩ | ⟨hlt48, x_54, hx49, hd53⟩
  ·rw [hd53, impl_isPlain_L1.eq_1] at hc1
   have hq52 := dlf hie50
   refine awp_seq ?_; refine w_reg ?_; refine s_do (o_q (.bool (decide ((s6_32 : Int) < (t_1.length : Int)))) rfl rfl rfl) ?_; refine w_done ?_; refine k_seq ?_; refine awp_seq ?_; refine w_condf rfl hq52 ?_; refine w_exit ?_; refine k_seqx ?_; refine k_loopx ?_; refine k_blkx ?_; obtain rfl := os hc1; exact k_cutn ⟨_, rfl⟩ ⟨[], [], _, _, rfl, rfl, ⟨.refl _, trivial⟩, (.refl _)⟩
  ·rw [hd53, impl_isPlain_L1.eq_2] at hc1
   have hq52 := dlt hlt48
   refine awp_seq ?_; refine w_reg ?_; refine s_do (o_q (.bool (decide ((s6_32 : Int) < (t_1.length : Int)))) rfl rfl rfl) ?_; refine w_done ?_; refine k_seq ?_; refine awp_seq ?_; refine w_condt rfl hq52 ?_; refine w_skip ?_; refine k_seq ?_; refine awp_seq ?_; refine w_blk ?_; refine awp_seq ?_; refine w_reg ?_; refine s_do (o_mov (.int .i64 (s6_32 : Int)) rfl) ?_; refine s_do (o_mov (.int .i64 (s6_32 : Int)) rfl) ?_; refine w_done ?_; refine k_seq ?_; refine awp_seq ?_
   obtain ⟨s18_56, hb2, hc1⟩ := ob hc1
   refine awp_cut ([(0, (.str t_1)), (5, (.int .i64 (t_1.length : Int))), (6, (.int .i64 (s6_32 : Int))), (18, (.bool s18_56))], []) ?_ ?_
   ·refine w_reg ?_
    rcases oi hb2 with ⟨c58, hb2⟩ | ⟨c58, hb2⟩
    ·refine s_do (o_mov (.str t_1) rfl) ?_; refine s_do (o_mov (.int .i64 (s6_32 : Int)) rfl) ?_; refine s_do (o_idxsn rfl rfl hx49) ?_; refine s_do (o_q (.bool (decide ((x_54.toNat : Int) < 32))) rfl rfl rfl) ?_; refine s_do (o_mov (.bool (decide ((x_54.toNat : Int) < 32))) rfl) ?_; refine s_lit (s := 13) (b := true) rfl c58 ?_; refine s_off rfl rfl ?_; refine s_off rfl rfl ?_; refine s_off rfl rfl ?_; refine s_off rfl rfl ?_; refine s_do (o_q (.bool true) rfl trivial rfl) ?_; refine w_done ?_; obtain rfl := os hb2; exact ⟨[], [], _, _, rfl, rfl, ⟨.refl _, ⟨.refl _, ⟨.refl _, ⟨.refl _, trivial⟩⟩⟩⟩, (.refl _)⟩
    ·refine s_do (o_mov (.str t_1) rfl) ?_; refine s_do (o_mov (.int .i64 (s6_32 : Int)) rfl) ?_; refine s_do (o_idxsn rfl rfl hx49) ?_; refine s_do (o_q (.bool (decide ((x_54.toNat : Int) < 32))) rfl rfl rfl) ?_; refine s_do (o_mov (.bool (decide ((x_54.toNat : Int) < 32))) rfl) ?_; refine s_lit (s := 13) (b := false) rfl (bf c58) ?_; refine s_on rfl ?_; refine s_do (o_mov (.str t_1) rfl) ?_; refine s_on rfl ?_; refine s_do (o_mov (.int .i64 (s6_32 : Int)) rfl) ?_; refine s_on rfl ?_; refine s_do (o_idxsn rfl rfl hx49) ?_; refine s_on rfl ?_; refine s_do (o_q (.bool (decide ((x_54.toNat : Int) > 126))) rfl rfl rfl) ?_
     refine s_do (o_q (.bool (decide ((x_54.toNat : Int) > 126))) rfl trivial rfl) ?_; refine w_done ?_; obtain rfl := os hb2; exact ⟨[], [], _, _, rfl, rfl, ⟨.refl _, ⟨.refl _, ⟨.refl _, ⟨.refl _, trivial⟩⟩⟩⟩, (.refl _)⟩
   ·rcases oi hc1 with ⟨c59, hc1⟩ | ⟨c59, hc1⟩
    ·refine w_condt rfl c59 ?_; refine awp_seq ?_; refine w_reg ?_; refine s_do (o_mov (.bool false) rfl) ?_; refine w_done ?_; refine k_seq ?_; refine w_ret ?_; obtain rfl := os hc1; obtain rfl := os hf; exact r_flat ⟨trivial, trivial⟩ rfl (.refl _)
    ·refine w_condf rfl (bf c59) ?_; refine w_skip ?_; refine k_blk ?_; refine k_seq ?_; refine w_reg ?_; refine s_do (o_q (.int .i64 (w64 ((s6_32 : Int) + 1))) rfl rfl rfl) ?_; refine s_do (o_mov (.int .i64 (w64 ((s6_32 : Int) + 1))) rfl) ?_; refine w_done ?_; exact k_loopn ⟨(s6_32 + 1), hc1⟩ (mul hlt48) ⟨[], [], _, _, rfl, rfl, ⟨.refl _, ⟨.refl _, ⟨.of_eq (congrArg (AV.int _) (w64_incr hlt48 hl2)), trivial⟩⟩⟩, (.refl _)⟩
 ·rintro ⟨_, rfl⟩
  refine awp_seq ?_; refine w_reg ?_; refine s_do (o_mov (.str t_1) rfl) ?_; refine s_dof (o_lenS rfl) fun hl60 => ?_; refine s_do (o_q (.bool (decide ((t_1.length : Int) ≤ 200))) rfl rfl rfl) ?_; refine s_do (o_mov (.bool (decide ((t_1.length : Int) ≤ 200))) rfl) ?_; refine w_done ?_; refine k_seq ?_; refine w_ret ?_; obtain rfl := os hf; exact r_flat ⟨trivial, trivial⟩ rfl (.refl _)

/- impl.isId -/
def c93 : ACode :=
 (.seq (.reg (.q ⟨(some 2), none, .mov (.c (.bool false))⟩
 .done))
 (.seq (.reg (.q ⟨(some 3), none, .mov (.t 0)⟩
 (.q ⟨(some 4), none, .call 92 [(.t 3), (.c (.int .i64 1)), (.c (.int .i64 1000000))]⟩
 (.q ⟨(some 2), none, .mov (.t 4)⟩
 .done))))
 .ret))
theorem fc93 : fcomp Try.prog Try.f93 = some (c93.erase, [.mov (.t 2)], 5) := by kernel_rfl
def impl_isId (n_1 : Int) : Option Bool :=
    (impl_within n_1 1 1000000).bind fun r_2 =>
    some r_2
theorem w_impl_isId (n_1 : Int) (r : Bool) (hf : impl_isId n_1 = some r) : CallOK Try.prog 93 .flat [(.int .i64 n_1)] (.bool r) := by
  refine CallOK.of_awp mixed Try.func93 fc93 nle ?_
  rw [argT_eq]
  unfold impl_isId at hf
  unfold c93
  refine (show awp Try.prog false 0 _ (ofL [(0, (.int .i64 n_1))]) [] _ from ?_)
  refine awp_seq ?_
  refine w_reg ?_
  refine s_do (o_mov (.bool false) rfl) ?_
  refine w_done ?_
  refine k_seq ?_
  refine awp_seq ?_
  refine w_reg ?_
  obtain ⟨r_2, er3, hf⟩ := ob hf
  refine s_do (o_mov (.int .i64 n_1) rfl) ?_
  refine s_do (o_call (w_impl_within _ _ _ _ er3) rfl (.refl _) rfl) ?_
  refine s_do (o_mov (.bool r_2) rfl) ?_
  refine w_done ?_
  refine k_seq ?_
  refine w_ret ?_
  obtain rfl := os hf
  exact r_flat ⟨trivial, trivial⟩ rfl (.refl _)

/- impl.AtomOK -/
def c50 : ACode :=
 (.seq (.reg (.q ⟨(some 1), none, .box 3 (.t 0)⟩
 (.q ⟨(some 2), none, .mov (.c (.bool false))⟩
 .done)))
 (.seq (.seq (.reg (.q ⟨(some 3), none, .faddr 0 (.t 1)⟩
 (.q ⟨(some 4), none, .load 1 false (.t 3)⟩
 .done)))
 (.block 0 (.seq (.reg (.q ⟨(some 6), none, .bin .eql (.t 4) (.c (.int .i64 1))⟩
 (.q ⟨(some 5), none, .mov (.t 6)⟩
 .done)))
 (.cond (.t 5) (.seq (.reg (.q ⟨(some 7), none, .faddr 1 (.t 1)⟩
 (.q ⟨(some 8), none, .load 1 false (.t 7)⟩
 (.q ⟨(some 9), none, .call 90 [(.t 8)]⟩
 (.q ⟨(some 10), none, .mov (.t 9)⟩
 (.q ⟨(some 11), (some (10, true)), .faddr 2 (.t 1)⟩
 (.q ⟨(some 12), (some (10, true)), .load 1 false (.t 11)⟩
 (.q ⟨(some 13), (some (10, true)), .bin .eql (.t 12) (.c (.str []))⟩
 (.q ⟨(some 14), none, .pick (.t 10) (.t 13) (.c (.bool false))⟩
 (.q ⟨(some 2), none, .mov (.t 14)⟩
 .done))))))))))
 .ret)
 (.seq (.reg (.q ⟨(some 16), none, .bin .eql (.t 4) (.c (.int .i64 2))⟩
 (.q ⟨(some 15), none, .mov (.t 16)⟩
 .done)))
 (.cond (.t 15) (.seq (.reg (.q ⟨(some 17), none, .faddr 1 (.t 1)⟩
 (.q ⟨(some 18), none, .load 1 false (.t 17)⟩
 (.q ⟨(some 19), none, .bin .eql (.t 18) (.c (.int .i64 0))⟩
 (.q ⟨(some 20), none, .mov (.t 19)⟩
 (.q ⟨(some 21), (some (20, true)), .faddr 2 (.t 1)⟩
 (.q ⟨(some 22), (some (20, true)), .load 1 false (.t 21)⟩
 (.q ⟨(some 23), (some (20, true)), .call 91 [(.t 22)]⟩
 (.q ⟨(some 24), none, .pick (.t 20) (.t 23) (.c (.bool false))⟩
 (.q ⟨(some 2), none, .mov (.t 24)⟩
 .done))))))))))
 .ret)
 (.seq (.reg (.q ⟨(some 26), none, .bin .eql (.t 4) (.c (.int .i64 3))⟩
 (.q ⟨(some 25), none, .mov (.t 26)⟩
 .done)))
 (.cond (.t 25) (.seq (.reg (.q ⟨(some 27), none, .faddr 1 (.t 1)⟩
 (.q ⟨(some 28), none, .load 1 false (.t 27)⟩
 (.q ⟨(some 29), none, .call 92 [(.t 28), (.c (.int .i64 0)), (.c (.int .i64 1))]⟩
 (.q ⟨(some 30), none, .mov (.t 29)⟩
 (.q ⟨(some 31), (some (30, true)), .faddr 2 (.t 1)⟩
 (.q ⟨(some 32), (some (30, true)), .load 1 false (.t 31)⟩
 (.q ⟨(some 33), (some (30, true)), .bin .eql (.t 32) (.c (.str []))⟩
 (.q ⟨(some 34), none, .pick (.t 30) (.t 33) (.c (.bool false))⟩
 (.q ⟨(some 2), none, .mov (.t 34)⟩
 .done))))))))))
 .ret)
 (.seq (.reg (.q ⟨(some 36), none, .bin .eql (.t 4) (.c (.int .i64 4))⟩
 (.q ⟨(some 35), none, .mov (.t 36)⟩
 .done)))
 (.cond (.t 35) (.seq (.reg (.q ⟨(some 37), none, .faddr 1 (.t 1)⟩
 (.q ⟨(some 38), none, .load 1 false (.t 37)⟩
 (.q ⟨(some 39), none, .call 93 [(.t 38)]⟩
 (.q ⟨(some 40), none, .mov (.t 39)⟩
 (.q ⟨(some 41), (some (40, true)), .faddr 2 (.t 1)⟩
 (.q ⟨(some 42), (some (40, true)), .load 1 false (.t 41)⟩
 (.q ⟨(some 43), (some (40, true)), .bin .eql (.t 42) (.c (.str []))⟩
 (.q ⟨(some 44), none, .pick (.t 40) (.t 43) (.c (.bool false))⟩
 (.q ⟨(some 2), none, .mov (.t 44)⟩
 .done))))))))))
 .ret)
 .skip))))))))))
 (.seq (.reg (.q ⟨(some 2), none, .mov (.c (.bool false))⟩
 .done))
 .ret)))
theorem fc50 : fcomp Try.prog Try.f50 = some (c50.erase, [.mov (.t 2)], 45) := by kernel_rfl
def impl_AtomOK (a_1 : GAtom) : Option Bool :=
    if (a_1.Kind == 1) then
    (impl_isNumber a_1.N).bind fun r_3 =>
    if r_3 then
    some (a_1.T == [])
    else
    some false
    else
    if (a_1.Kind == 2) then
    if (a_1.N == 0) then
    (impl_isPlain a_1.T).bind fun r_8 =>
    some r_8
    else
    some false
    else
    if (a_1.Kind == 3) then
    (impl_within a_1.N 0 1).bind fun r_11 =>
    if r_11 then
    some (a_1.T == [])
    else
    some false
    else
    if (a_1.Kind == 4) then
    (impl_isId a_1.N).bind fun r_15 =>
    if r_15 then
    some (a_1.T == [])
    else
    some false
    else
    some false
theorem w_impl_AtomOK (a_1 : GAtom) (r : Bool) (hf : impl_AtomOK a_1 = some r) : CallOK Try.prog 50 .flat [(encGAtom a_1)] (.bool r) := by
 refine CallOK.of_awp mixed Try.func50 fc50 nle ?_; rw [argT_eq]; unfold impl_AtomOK at hf; unfold c50; refine (show awp Try.prog false 0 _ (ofL [(0, (encGAtom a_1))]) [] _ from ?_); refine awp_seq ?_; refine w_reg ?_; refine s_do (o_box (j := 0) (c := (.agg [(.int .i64 a_1.Kind), (.int .i64 a_1.N), (.str a_1.T)])) rfl trivial rfl rfl) ?_; refine s_do (o_mov (.bool false) rfl) ?_; refine w_done ?_; refine k_seq ?_; refine awp_seq ?_; refine awp_seq ?_; refine w_reg ?_; refine s_do (o_q (.ptr 0 0 0) rfl trivial rfl) ?_; refine s_do (o_q (.int .i64 a_1.Kind) rfl nle rfl) ?_; refine w_done ?_; refine k_seq ?_
 refine w_blk ?_; refine awp_seq ?_; refine w_reg ?_; refine s_do (o_q (.bool (a_1.Kind == 1)) rfl rfl rfl) ?_; refine s_do (o_mov (.bool (a_1.Kind == 1)) rfl) ?_; refine w_done ?_; refine k_seq ?_
 rcases oi hf with ⟨c2, hf⟩ | ⟨c2, hf⟩
 ·refine w_condt rfl c2 ?_; refine awp_seq ?_; refine w_reg ?_
  obtain ⟨r_3, er4, hf⟩ := ob hf
  rcases oi hf with ⟨c5, hf⟩ | ⟨c5, hf⟩
  ·refine s_do (o_q (.ptr 0 0 1) rfl trivial rfl) ?_; refine s_do (o_q (.int .i64 a_1.N) rfl nle rfl) ?_; refine s_do (o_call (w_impl_isNumber _ _ er4) rfl (.refl _) rfl) ?_; refine s_do (o_mov (.bool r_3) rfl) ?_; refine s_lit (s := 10) (b := true) rfl c5 ?_; refine s_on rfl ?_; refine s_do (o_q (.ptr 0 0 2) rfl trivial rfl) ?_; refine s_on rfl ?_; refine s_do (o_q (.str a_1.T) rfl nle rfl) ?_; refine s_on rfl ?_; refine s_do (o_q (.bool (a_1.T == [])) rfl trivial rfl) ?_; refine s_do (o_q (.bool (a_1.T == [])) rfl trivial rfl) ?_; refine s_do (o_mov (.bool (a_1.T == [])) rfl) ?_; refine w_done ?_
   refine k_seq ?_; refine w_ret ?_; obtain rfl := os hf; exact r_flat ⟨trivial, trivial⟩ rfl (.refl _)
  ·refine s_do (o_q (.ptr 0 0 1) rfl trivial rfl) ?_; refine s_do (o_q (.int .i64 a_1.N) rfl nle rfl) ?_; refine s_do (o_call (w_impl_isNumber _ _ er4) rfl (.refl _) rfl) ?_; refine s_do (o_mov (.bool r_3) rfl) ?_; refine s_lit (s := 10) (b := false) rfl (bf c5) ?_; refine s_off rfl rfl ?_; refine s_off rfl rfl ?_; refine s_off rfl rfl ?_; refine s_do (o_q (.bool false) rfl trivial rfl) ?_; refine s_do (o_mov (.bool false) rfl) ?_; refine w_done ?_; refine k_seq ?_; refine w_ret ?_; obtain rfl := os hf; exact r_flat ⟨trivial, trivial⟩ rfl (.refl _)
 ·refine w_condf rfl (bf c2) ?_; refine awp_seq ?_; refine w_reg ?_; refine s_do (o_q (.bool (a_1.Kind == 2)) rfl rfl rfl) ?_; refine s_do (o_mov (.bool (a_1.Kind == 2)) rfl) ?_; refine w_done ?_; refine k_seq ?_
  rcases oi hf with ⟨c6, hf⟩ | ⟨c6, hf⟩
  ·refine w_condt rfl c6 ?_; refine awp_seq ?_; refine w_reg ?_
   rcases oi hf with ⟨c7, hf⟩ | ⟨c7, hf⟩
   ·obtain ⟨r_8, er9, hf⟩ := ob hf
    refine s_do (o_q (.ptr 0 0 1) rfl trivial rfl) ?_; refine s_do (o_q (.int .i64 a_1.N) rfl nle rfl) ?_; refine s_do (o_q (.bool (a_1.N == 0)) rfl rfl rfl) ?_; refine s_do (o_mov (.bool (a_1.N == 0)) rfl) ?_; refine s_lit (s := 20) (b := true) rfl c7 ?_; refine s_on rfl ?_; refine s_do (o_q (.ptr 0 0 2) rfl trivial rfl) ?_; refine s_on rfl ?_; refine s_do (o_q (.str a_1.T) rfl nle rfl) ?_; refine s_on rfl ?_; refine s_do (o_call (w_impl_isPlain _ _ er9) rfl (.refl _) rfl) ?_; refine s_do (o_q (.bool r_8) rfl trivial rfl) ?_; refine s_do (o_mov (.bool r_8) rfl) ?_; refine w_done ?_; refine k_seq ?_
    refine w_ret ?_; obtain rfl := os hf; exact r_flat ⟨trivial, trivial⟩ rfl (.refl _)
   ·refine s_do (o_q (.ptr 0 0 1) rfl trivial rfl) ?_; refine s_do (o_q (.int .i64 a_1.N) rfl nle rfl) ?_; refine s_do (o_q (.bool (a_1.N == 0)) rfl rfl rfl) ?_; refine s_do (o_mov (.bool (a_1.N == 0)) rfl) ?_; refine s_lit (s := 20) (b := false) rfl (bf c7) ?_; refine s_off rfl rfl ?_; refine s_off rfl rfl ?_; refine s_off rfl rfl ?_; refine s_do (o_q (.bool false) rfl trivial rfl) ?_; refine s_do (o_mov (.bool false) rfl) ?_; refine w_done ?_; refine k_seq ?_; refine w_ret ?_; obtain rfl := os hf; exact r_flat ⟨trivial, trivial⟩ rfl (.refl _)
  ·refine w_condf rfl (bf c6) ?_; refine awp_seq ?_; refine w_reg ?_; refine s_do (o_q (.bool (a_1.Kind == 3)) rfl rfl rfl) ?_; refine s_do (o_mov (.bool (a_1.Kind == 3)) rfl) ?_; refine w_done ?_; refine k_seq ?_
   rcases oi hf with ⟨c10, hf⟩ | ⟨c10, hf⟩
   ·refine w_condt rfl c10 ?_; refine awp_seq ?_; refine w_reg ?_
    obtain ⟨r_11, er12, hf⟩ := ob hf
    rcases oi hf with ⟨c13, hf⟩ | ⟨c13, hf⟩
    ·refine s_do (o_q (.ptr 0 0 1) rfl trivial rfl) ?_; refine s_do (o_q (.int .i64 a_1.N) rfl nle rfl) ?_; refine s_do (o_call (w_impl_within _ _ _ _ er12) rfl (.refl _) rfl) ?_; refine s_do (o_mov (.bool r_11) rfl) ?_; refine s_lit (s := 30) (b := true) rfl c13 ?_; refine s_on rfl ?_; refine s_do (o_q (.ptr 0 0 2) rfl trivial rfl) ?_; refine s_on rfl ?_; refine s_do (o_q (.str a_1.T) rfl nle rfl) ?_; refine s_on rfl ?_; refine s_do (o_q (.bool (a_1.T == [])) rfl trivial rfl) ?_; refine s_do (o_q (.bool (a_1.T == [])) rfl trivial rfl) ?_; refine s_do (o_mov (.bool (a_1.T == [])) rfl) ?_; refine w_done ?_
     refine k_seq ?_; refine w_ret ?_; obtain rfl := os hf; exact r_flat ⟨trivial, trivial⟩ rfl (.refl _)
    ·refine s_do (o_q (.ptr 0 0 1) rfl trivial rfl) ?_; refine s_do (o_q (.int .i64 a_1.N) rfl nle rfl) ?_; refine s_do (o_call (w_impl_within _ _ _ _ er12) rfl (.refl _) rfl) ?_; refine s_do (o_mov (.bool r_11) rfl) ?_; refine s_lit (s := 30) (b := false) rfl (bf c13) ?_; refine s_off rfl rfl ?_; refine s_off rfl rfl ?_; refine s_off rfl rfl ?_; refine s_do (o_q (.bool false) rfl trivial rfl) ?_; refine s_do (o_mov (.bool false) rfl) ?_; refine w_done ?_; refine k_seq ?_; refine w_ret ?_; obtain rfl := os hf; exact r_flat ⟨trivial, trivial⟩ rfl (.refl _)
   ·refine w_condf rfl (bf c10) ?_; refine awp_seq ?_; refine w_reg ?_; refine s_do (o_q (.bool (a_1.Kind == 4)) rfl rfl rfl) ?_; refine s_do (o_mov (.bool (a_1.Kind == 4)) rfl) ?_; refine w_done ?_; refine k_seq ?_
    rcases oi hf with ⟨c14, hf⟩ | ⟨c14, hf⟩
    ·refine w_condt rfl c14 ?_; refine awp_seq ?_; refine w_reg ?_
     obtain ⟨r_15, er16, hf⟩ := ob hf
     rcases oi hf with ⟨c17, hf⟩ | ⟨c17, hf⟩
     ·refine s_do (o_q (.ptr 0 0 1) rfl trivial rfl) ?_; refine s_do (o_q (.int .i64 a_1.N) rfl nle rfl) ?_; refine s_do (o_call (w_impl_isId _ _ er16) rfl (.refl _) rfl) ?_; refine s_do (o_mov (.bool r_15) rfl) ?_; refine s_lit (s := 40) (b := true) rfl c17 ?_; refine s_on rfl ?_; refine s_do (o_q (.ptr 0 0 2) rfl trivial rfl) ?_; refine s_on rfl ?_; refine s_do (o_q (.str a_1.T) rfl nle rfl) ?_; refine s_on rfl ?_; refine s_do (o_q (.bool (a_1.T == [])) rfl trivial rfl) ?_; refine s_do (o_q (.bool (a_1.T == [])) rfl trivial rfl) ?_; refine s_do (o_mov (.bool (a_1.T == [])) rfl) ?_; refine w_done ?_
      refine k_seq ?_; refine w_ret ?_; obtain rfl := os hf; exact r_flat ⟨trivial, trivial⟩ rfl (.refl _)
     ·refine s_do (o_q (.ptr 0 0 1) rfl trivial rfl) ?_; refine s_do (o_q (.int .i64 a_1.N) rfl nle rfl) ?_; refine s_do (o_call (w_impl_isId _ _ er16) rfl (.refl _) rfl) ?_; refine s_do (o_mov (.bool r_15) rfl) ?_; refine s_lit (s := 40) (b := false) rfl (bf c17) ?_; refine s_off rfl rfl ?_; refine s_off rfl rfl ?_; refine s_off rfl rfl ?_; refine s_do (o_q (.bool false) rfl trivial rfl) ?_; refine s_do (o_mov (.bool false) rfl) ?_; refine w_done ?_; refine k_seq ?_; refine w_ret ?_; obtain rfl := os hf; exact r_flat ⟨trivial, trivial⟩ rfl (.refl _)
    ·refine w_condf rfl (bf c14) ?_; refine w_skip ?_; refine k_blk ?_; refine k_seq ?_; refine awp_seq ?_; refine w_reg ?_; refine s_do (o_mov (.bool false) rfl) ?_; refine w_done ?_; refine k_seq ?_; refine w_ret ?_; obtain rfl := os hf; exact r_flat ⟨trivial, trivial⟩ rfl (.refl _)

/- cmp.isNaN[int] -/
def c121 : ACode :=
 (.seq (.reg (.q ⟨(some 2), none, .mov (.c (.bool false))⟩
 .done))
 (.seq (.reg (.q ⟨(some 3), none, .mov (.t 0)⟩
 (.q ⟨(some 4), none, .mov (.t 0)⟩
 (.q ⟨(some 5), none, .bin .neq (.t 3) (.t 4)⟩
 (.q ⟨(some 2), none, .mov (.t 5)⟩
 .done)))))
 .ret))
theorem fc121 : fcomp Try.prog Try.f121 = some (c121.erase, [.mov (.t 2)], 6) := by kernel_rfl
def cmp_isNaN_int (x_1 : Int) : Option Bool :=
    some (x_1 != x_1)
theorem w_cmp_isNaN_int (x_1 : Int) (r : Bool) (hf : cmp_isNaN_int x_1 = some r) : CallOK Try.prog 121 .flat [(.int .i64 x_1)] (.bool r) := by
  refine CallOK.of_awp mixed Try.func121 fc121 nle ?_
  rw [argT_eq]
  unfold cmp_isNaN_int at hf
  unfold c121
  refine (show awp Try.prog false 0 _ (ofL [(0, (.int .i64 x_1))]) [] _ from ?_)
  refine awp_seq ?_
  refine w_reg ?_
  refine s_do (o_mov (.bool false) rfl) ?_
  refine w_done ?_
  refine k_seq ?_
  refine awp_seq ?_
  refine w_reg ?_
  refine s_do (o_mov (.int .i64 x_1) rfl) ?_
  refine s_do (o_mov (.int .i64 x_1) rfl) ?_
  refine s_do (o_q (.bool (x_1 != x_1)) rfl rfl rfl) ?_
  refine s_do (o_mov (.bool (x_1 != x_1)) rfl) ?_
  refine w_done ?_
  refine k_seq ?_
  refine w_ret ?_
  obtain rfl := os hf
  exact r_flat ⟨trivial, trivial⟩ rfl (.refl _)

/- cmp.Compare[int] -/
def c95 : ACode :=
 (.seq (.reg (.q ⟨(some 4), none, .mov (.c (.int .i64 0))⟩
 .done))
 (.seq (.reg (.q ⟨(some 7), none, .mov (.t 0)⟩
 (.q ⟨(some 8), none, .call 121 [(.t 7)]⟩
 (.q ⟨(some 5), none, .mov (.t 8)⟩
 .done))))
 (.seq (.reg (.q ⟨(some 9), none, .mov (.t 1)⟩
 (.q ⟨(some 10), none, .call 121 [(.t 9)]⟩
 (.q ⟨(some 6), none, .mov (.t 10)⟩
 .done))))
 (.seq (.seq (.reg (.q ⟨(some 11), none, .mov (.t 5)⟩
 .done))
 (.cond (.t 11) (.seq (.seq (.reg (.q ⟨(some 12), none, .mov (.t 6)⟩
 .done))
 (.cond (.t 12) (.seq (.reg (.q ⟨(some 4), none, .mov (.c (.int .i64 0))⟩
 .done))
 .ret)
 .skip))
 (.seq (.reg (.q ⟨(some 4), none, .mov (.c (.int .i64 (-1)))⟩
 .done))
 .ret))
 .skip))
 (.seq (.seq (.reg (.q ⟨(some 13), none, .mov (.t 6)⟩
 .done))
 (.cond (.t 13) (.seq (.reg (.q ⟨(some 4), none, .mov (.c (.int .i64 1))⟩
 .done))
 .ret)
 .skip))
 (.seq (.seq (.reg (.q ⟨(some 14), none, .mov (.t 0)⟩
 (.q ⟨(some 15), none, .mov (.t 1)⟩
 (.q ⟨(some 16), none, .bin .lss (.t 14) (.t 15)⟩
 .done))))
 (.cond (.t 16) (.seq (.reg (.q ⟨(some 4), none, .mov (.c (.int .i64 (-1)))⟩
 .done))
 .ret)
 .skip))
 (.seq (.seq (.reg (.q ⟨(some 17), none, .mov (.t 0)⟩
 (.q ⟨(some 18), none, .mov (.t 1)⟩
 (.q ⟨(some 19), none, .bin .gtr (.t 17) (.t 18)⟩
 .done))))
 (.cond (.t 19) (.seq (.reg (.q ⟨(some 4), none, .mov (.c (.int .i64 1))⟩
 .done))
 .ret)
 .skip))
 (.seq (.reg (.q ⟨(some 4), none, .mov (.c (.int .i64 0))⟩
 .done))
 .ret))))))))
theorem fc95 : fcomp Try.prog Try.f95 = some (c95.erase, [.mov (.t 4)], 20) := by kernel_rfl
def cmp_Compare_int (x_1 : Int) (y_2 : Int) : Option Int :=
    (cmp_isNaN_int x_1).bind fun r_3 =>
    (cmp_isNaN_int y_2).bind fun r_5 =>
    if r_3 then
    if r_5 then
    some 0
    else
    some (-1)
    else
    if r_5 then
    some 1
    else
    if (decide (x_1 < y_2)) then
    some (-1)
    else
    if (decide (x_1 > y_2)) then
    some 1
    else
    some 0
theorem w_cmp_Compare_int (x_1 : Int) (y_2 : Int) (r : Int) (hf : cmp_Compare_int x_1 y_2 = some r) : CallOK Try.prog 95 .flat [(.int .i64 x_1), (.int .i64 y_2)] (.int .i64 r) := by
 refine CallOK.of_awp mixed Try.func95 fc95 nle ?_; rw [argT_eq]; unfold cmp_Compare_int at hf; unfold c95; refine (show awp Try.prog false 0 _ (ofL [(0, (.int .i64 x_1)), (1, (.int .i64 y_2))]) [] _ from ?_); refine awp_seq ?_; refine w_reg ?_; refine s_do (o_mov (.int .i64 0) rfl) ?_; refine w_done ?_; refine k_seq ?_; refine awp_seq ?_; refine w_reg ?_
 obtain ⟨r_3, er4, hf⟩ := ob hf
 refine s_do (o_mov (.int .i64 x_1) rfl) ?_; refine s_do (o_call (w_cmp_isNaN_int _ _ er4) rfl (.refl _) rfl) ?_; refine s_do (o_mov (.bool r_3) rfl) ?_; refine w_done ?_; refine k_seq ?_; refine awp_seq ?_; refine w_reg ?_
 obtain ⟨r_5, er6, hf⟩ := ob hf
 refine s_do (o_mov (.int .i64 y_2) rfl) ?_; refine s_do (o_call (w_cmp_isNaN_int _ _ er6) rfl (.refl _) rfl) ?_; refine s_do (o_mov (.bool r_5) rfl) ?_; refine w_done ?_; refine k_seq ?_; refine awp_seq ?_; refine awp_seq ?_; refine w_reg ?_; refine s_do (o_mov (.bool r_3) rfl) ?_; refine w_done ?_; refine k_seq ?_
 rcases oi hf with ⟨c7, hf⟩ | ⟨c7, hf⟩
 ·refine w_condt rfl c7 ?_; refine awp_seq ?_; refine awp_seq ?_; refine w_reg ?_; refine s_do (o_mov (.bool r_5) rfl) ?_; refine w_done ?_; refine k_seq ?_
  rcases oi hf with ⟨c8, hf⟩ | ⟨c8, hf⟩
  ·refine w_condt rfl c8 ?_; refine awp_seq ?_; refine w_reg ?_; refine s_do (o_mov (.int .i64 0) rfl) ?_; refine w_done ?_; refine k_seq ?_; refine w_ret ?_; obtain rfl := os hf; exact r_flat ⟨trivial, trivial⟩ rfl (.refl _)
  ·refine w_condf rfl (bf c8) ?_; refine w_skip ?_; refine k_seq ?_; refine awp_seq ?_; refine w_reg ?_; refine s_do (o_mov (.int .i64 (-1)) rfl) ?_; refine w_done ?_; refine k_seq ?_; refine w_ret ?_; obtain rfl := os hf; exact r_flat ⟨trivial, trivial⟩ rfl (.refl _)
 ·refine w_condf rfl (bf c7) ?_; refine w_skip ?_; refine k_seq ?_; refine awp_seq ?_; refine awp_seq ?_; refine w_reg ?_; refine s_do (o_mov (.bool r_5) rfl) ?_; refine w_done ?_; refine k_seq ?_
  rcases oi hf with ⟨c9, hf⟩ | ⟨c9, hf⟩
  ·refine w_condt rfl c9 ?_; refine awp_seq ?_; refine w_reg ?_; refine s_do (o_mov (.int .i64 1) rfl) ?_; refine w_done ?_; refine k_seq ?_; refine w_ret ?_; obtain rfl := os hf; exact r_flat ⟨trivial, trivial⟩ rfl (.refl _)
  ·refine w_condf rfl (bf c9) ?_; refine w_skip ?_; refine k_seq ?_; refine awp_seq ?_; refine awp_seq ?_; refine w_reg ?_; refine s_do (o_mov (.int .i64 x_1) rfl) ?_; refine s_do (o_mov (.int .i64 y_2) rfl) ?_; refine s_do (o_q (.bool (decide (x_1 < y_2))) rfl rfl rfl) ?_; refine w_done ?_; refine k_seq ?_
   rcases oi hf with ⟨c10, hf⟩ | ⟨c10, hf⟩
   ·refine w_condt rfl c10 ?_; refine awp_seq ?_; refine w_reg ?_; refine s_do (o_mov (.int .i64 (-1)) rfl) ?_; refine w_done ?_; refine k_seq ?_; refine w_ret ?_; obtain rfl := os hf; exact r_flat ⟨trivial, trivial⟩ rfl (.refl _)
   ·refine w_condf rfl (bf c10) ?_; refine w_skip ?_; refine k_seq ?_; refine awp_seq ?_; refine awp_seq ?_; refine w_reg ?_; refine s_do (o_mov (.int .i64 x_1) rfl) ?_; refine s_do (o_mov (.int .i64 y_2) rfl) ?_; refine s_do (o_q (.bool (decide (x_1 > y_2))) rfl rfl rfl) ?_; refine w_done ?_; refine k_seq ?_
    rcases oi hf with ⟨c11, hf⟩ | ⟨c11, hf⟩
    ·refine w_condt rfl c11 ?_; refine awp_seq ?_; refine w_reg ?_; refine s_do (o_mov (.int .i64 1) rfl) ?_; refine w_done ?_; refine k_seq ?_; refine w_ret ?_; obtain rfl := os hf; exact r_flat ⟨trivial, trivial⟩ rfl (.refl _)
    ·refine w_condf rfl (bf c11) ?_; refine w_skip ?_; refine k_seq ?_; refine awp_seq ?_; refine w_reg ?_; refine s_do (o_mov (.int .i64 0) rfl) ?_; refine w_done ?_; refine k_seq ?_; refine w_ret ?_; obtain rfl := os hf; exact r_flat ⟨trivial, trivial⟩ rfl (.refl _)

/- internal/bytealg.CompareString -/
def internal_bytealg_CompareString (a b : Str) : Option Int := some (Lib.compareBytes a b)
set_option maxRecDepth 100000 in
open Go.RowKit in
theorem cmps_run (a b : ByteArray) (w : World) : Calls Try.prog 122 #[.string a, .string b] w fun e w' => e = .returned (.int .i64 (Lib.compareBytes a.data.toList b.data.toList)) ∧ w' = w := by
  go_enter Try.func122, (show Try.f122.ntmps = _ from rfl)
  go_wp2
  rw [run_callFunc_extern Try.func134 (by kernel_rfl) (by kernel_rfl) (by kernel_rfl) (e := Extern.BytealgCompare.compare) (by kernel_rfl), Lib.run_compareString]
  simp only [Result.andThen]
  rw [Oper.upon_value]
  go_wp2
  go_ret
  exact ⟨rfl, rfl⟩
open Go.RowKit in
theorem w_internal_bytealg_CompareString (a b : Str) (r : Int) (hf : internal_bytealg_CompareString a b = some r) : CallOK Try.prog 122 .flat [(.str a), (.str b)] (.int .i64 r) := by
  intro w vals fps hr
  simp only [RepVs, Rep] at hr
  obtain ⟨v1, vs1, f1, f2, rfl, ⟨rfl, h1, rfl⟩, ⟨v2, vs2, f3, f4, rfl, ⟨rfl, h2, rfl⟩, ⟨rfl, rfl⟩, rfl⟩, rfl⟩ := hr
  unfold internal_bytealg_CompareString at hf
  obtain rfl := os hf
  refine (cmps_run ⟨a.toArray⟩ ⟨b.toArray⟩ w).mono ?_
  rintro e w' ⟨rfl, rfl⟩
  refine ⟨Below.refl _ _, ?_⟩
  exact ⟨[.int .i64 (Lib.compareBytes a b)], rfl, by simp [Rep]⟩

/- strings.Compare -/
def c96 : ACode :=
 (.seq (.reg (.q ⟨(some 4), none, .mov (.c (.int .i64 0))⟩
 .done))
 (.seq (.reg (.q ⟨(some 5), none, .mov (.t 0)⟩
 (.q ⟨(some 6), none, .mov (.t 1)⟩
 (.q ⟨(some 7), none, .call 122 [(.t 5), (.t 6)]⟩
 (.q ⟨(some 4), none, .mov (.t 7)⟩
 .done)))))
 .ret))
theorem fc96 : fcomp Try.prog Try.f96 = some (c96.erase, [.mov (.t 4)], 8) := by kernel_rfl
def strings_Compare (a_1 : Str) (b_2 : Str) : Option Int :=
    (internal_bytealg_CompareString a_1 b_2).bind fun r_3 =>
    some r_3
theorem w_strings_Compare (a_1 : Str) (b_2 : Str) (r : Int) (hf : strings_Compare a_1 b_2 = some r) : CallOK Try.prog 96 .flat [(.str a_1), (.str b_2)] (.int .i64 r) := by
  refine CallOK.of_awp mixed Try.func96 fc96 nle ?_
  rw [argT_eq]
  unfold strings_Compare at hf
  unfold c96
  refine (show awp Try.prog false 0 _ (ofL [(0, (.str a_1)), (1, (.str b_2))]) [] _ from ?_)
  refine awp_seq ?_
  refine w_reg ?_
  refine s_do (o_mov (.int .i64 0) rfl) ?_
  refine w_done ?_
  refine k_seq ?_
  refine awp_seq ?_
  refine w_reg ?_
  obtain ⟨r_3, er4, hf⟩ := ob hf
  refine s_do (o_mov (.str a_1) rfl) ?_
  refine s_do (o_mov (.str b_2) rfl) ?_
  refine s_do (o_call (w_internal_bytealg_CompareString _ _ _ er4) rfl (.refl _) rfl) ?_
  refine s_do (o_mov (.int .i64 r_3) rfl) ?_
  refine w_done ?_
  refine k_seq ?_
  refine w_ret ?_
  obtain rfl := os hf
  exact r_flat ⟨trivial, trivial⟩ rfl (.refl _)

/- cmp.Or[int] -/
def c94 : ACode :=
 (.seq (.reg (.q ⟨(some 2), none, .mov (.c (.int .i64 0))⟩
 .done))
 (.seq (.reg (.q ⟨(some 3), none, .mov (.c (.int .i64 0))⟩
 .done))
 (.seq (.seq (.reg (.q ⟨(some 6), none, .mov (.t 0)⟩
 (.q ⟨(some 7), none, .len (.t 6)⟩
 (.q ⟨(some 8), none, .mov (.c (.int .i64 0))⟩
 .done))))
 (.block 0 (.loop (.seq (.reg (.q ⟨(some 9), none, .bin .lss (.t 8) (.t 7)⟩
 .done))
 (.seq (.cond (.t 9) .skip
 (.exit 0))
 (.seq (.block 1 (.seq (.reg (.q ⟨(some 10), none, .iaddr 1 (.t 6) (.t 8)⟩
 (.q ⟨(some 11), none, .load 1 false (.t 10)⟩
 (.q ⟨(some 5), none, .mov (.t 11)⟩
 .done))))
 (.seq (.reg (.q ⟨(some 12), none, .mov (.t 5)⟩
 (.q ⟨(some 13), none, .mov (.t 3)⟩
 (.q ⟨(some 14), none, .bin .neq (.t 12) (.t 13)⟩
 .done))))
 (.cond (.t 14) (.seq (.reg (.q ⟨(some 15), none, .mov (.t 5)⟩
 (.q ⟨(some 2), none, .mov (.t 15)⟩
 .done)))
 .ret)
 .skip))))
 (.reg (.q ⟨(some 16), none, .bin .add (.t 8) (.c (.int .i64 1))⟩
 (.q ⟨(some 8), none, .mov (.t 16)⟩
 .done)))))))))
 (.cut (.seq (.reg (.q ⟨(some 17), none, .mov (.t 3)⟩
 (.q ⟨(some 2), none, .mov (.t 17)⟩
 .done)))
 .ret)))))
theorem fc94 : fcomp Try.prog Try.f94 = some (c94.erase, [.mov (.t 2)], 18) := by kernel_rfl
def cmp_Or_int_L1  : List Int → Option (Fl Int Unit)
  | [] =>
    some (.go ())
  | x_24 :: xs =>
    if (x_24 != 0) then
    some (.ret x_24)
    else
    cmp_Or_int_L1 xs 

def cmp_Or_int (vals_1 : (List Int)) : Option Int :=
    (cmp_Or_int_L1 vals_1 ).bind fun q => (match q with
    | .ret r => some r
    | .go _ =>
    some 0)
theorem w_cmp_Or_int (vals_1 : (List Int)) (r : Int) (hf : cmp_Or_int vals_1 = some r) : CallOK Try.prog 94 .flat [(.lst 1 (vals_1.map encI))] (.int .i64 r) := by
 refine CallOK.of_awp mixed Try.func94 fc94 nle ?_; rw [argT_eq]; unfold cmp_Or_int at hf; unfold c94; refine (show awp Try.prog false 0 _ (ofL [(0, (.lst 1 (vals_1.map encI)))]) [] _ from ?_); refine awp_seq ?_; refine w_reg ?_; refine s_do (o_mov (.int .i64 0) rfl) ?_; refine w_done ?_; refine k_seq ?_; refine awp_seq ?_; refine w_reg ?_; refine s_do (o_mov (.int .i64 0) rfl) ?_; refine w_done ?_; refine k_seq ?_; refine awp_seq ?_; refine awp_seq ?_; refine w_reg ?_; refine s_do (o_mov (.lst 1 (vals_1.map encI)) rfl) ?_; refine s_dof (o_len (enc := encI) rfl) fun hl2 => ?_; refine s_do (o_mov (.int .i64 0) rfl) ?_
 refine w_done ?_; refine k_seq ?_
 obtain ⟨p17, hb1, hf⟩ := ob hf
 refine awp_cutx (X := {q : Unit // p17 = .go q}) (fun q => ([(3, (.int .i64 0))], [])) ?_ ?_
 ·refine awp_loop (X := {q : Nat // cmp_Or_int_L1 (vals_1.drop q)  = some p17}) (fun q => ([(3, (.int .i64 0)), (6, (.lst 1 (vals_1.map encI))), (7, (.int .i64 (vals_1.length : Int))), (8, (.int .i64 (q.1 : Int)))], [])) (fun q => vals_1.length - q.1) ⟨0, hb1⟩ ⟨[], [], _, _, rfl, rfl, ⟨.refl _, ⟨.refl _, ⟨.refl _, ⟨.refl _, trivial⟩⟩⟩⟩, (.refl _)⟩ ?_
  rintro ⟨s8_12, hc1⟩
  have hc1 : cmp_Or_int_L1 (vals_1.drop s8_12)  = some p17 := hc1
  refine (show awp Try.prog false 0 _ (ofL [(3, (.int .i64 0)), (6, (.lst 1 (vals_1.map encI))), (7, (.int .i64 (vals_1.length : Int))), (8, (.int .i64 (s8_12 : Int)))]) [] _ from ?_)
  rcases dropc vals_1 s8_12 with ⟨hie20, hd23⟩ | ⟨hlt18, x_24, hx19, hd23⟩
  ·rw [hd23, cmp_Or_int_L1.eq_1] at hc1
   have hq22 := dlf hie20
   refine awp_seq ?_; refine w_reg ?_; refine s_do (o_q (.bool (decide ((s8_12 : Int) < (vals_1.length : Int)))) rfl rfl rfl) ?_; refine w_done ?_; refine k_seq ?_; refine awp_seq ?_; refine w_condf rfl hq22 ?_; refine w_exit ?_; refine k_seqx ?_; refine k_loopx ?_; refine k_blkx ?_; obtain rfl := os hc1; exact k_cutn ⟨_, rfl⟩ ⟨[], [], _, _, rfl, rfl, ⟨.refl _, trivial⟩, (.refl _)⟩
  ·rw [hd23, cmp_Or_int_L1.eq_2] at hc1
   have hq22 := dlt hlt18
   refine awp_seq ?_; refine w_reg ?_; refine s_do (o_q (.bool (decide ((s8_12 : Int) < (vals_1.length : Int)))) rfl rfl rfl) ?_; refine w_done ?_; refine k_seq ?_; refine awp_seq ?_; refine w_condt rfl hq22 ?_; refine w_skip ?_; refine k_seq ?_; refine awp_seq ?_; refine w_blk ?_; refine awp_seq ?_; refine w_reg ?_; refine s_do (o_iaddrn (enc := encI) rfl rfl hx19) ?_; refine s_do (o_q (.int .i64 x_24) rfl ⟨rfl, rfl⟩ rfl) ?_; refine s_do (o_mov (.int .i64 x_24) rfl) ?_; refine w_done ?_; refine k_seq ?_; refine awp_seq ?_; refine w_reg ?_; refine s_do (o_mov (.int .i64 x_24) rfl) ?_; refine s_do (o_mov (.int .i64 0) rfl) ?_
   refine s_do (o_q (.bool (x_24 != 0)) rfl rfl rfl) ?_; refine w_done ?_; refine k_seq ?_
   rcases oi hc1 with ⟨c25, hc1⟩ | ⟨c25, hc1⟩
   ·refine w_condt rfl c25 ?_; refine awp_seq ?_; refine w_reg ?_; refine s_do (o_mov (.int .i64 x_24) rfl) ?_; refine s_do (o_mov (.int .i64 x_24) rfl) ?_; refine w_done ?_; refine k_seq ?_; refine w_ret ?_; obtain rfl := os hc1; obtain rfl := os hf; exact r_flat ⟨trivial, trivial⟩ rfl (.refl _)
   ·refine w_condf rfl (bf c25) ?_; refine w_skip ?_; refine k_blk ?_; refine k_seq ?_; refine w_reg ?_; refine s_do (o_q (.int .i64 (w64 ((s8_12 : Int) + 1))) rfl rfl rfl) ?_; refine s_do (o_mov (.int .i64 (w64 ((s8_12 : Int) + 1))) rfl) ?_; refine w_done ?_; exact k_loopn ⟨(s8_12 + 1), hc1⟩ (mul hlt18) ⟨[], [], _, _, rfl, rfl, ⟨.refl _, ⟨.refl _, ⟨.refl _, ⟨.of_eq (congrArg (AV.int _) (w64_incr hlt18 hl2)), trivial⟩⟩⟩⟩, (.refl _)⟩
 ·rintro ⟨_, rfl⟩
  refine awp_seq ?_; refine w_reg ?_; refine s_do (o_mov (.int .i64 0) rfl) ?_; refine s_do (o_mov (.int .i64 0) rfl) ?_; refine w_done ?_; refine k_seq ?_; refine w_ret ?_; obtain rfl := os hf; exact r_flat ⟨trivial, trivial⟩ rfl (.refl _)

/- impl.compareAtoms -/
def c51 : ACode :=
 (.seq (.reg (.q ⟨(some 2), none, .box 3 (.t 0)⟩
 (.q ⟨(some 3), none, .box 3 (.t 1)⟩
 (.q ⟨(some 4), none, .mov (.c (.int .i64 0))⟩
 .done))))
 (.seq (.reg (.q ⟨(some 5), none, .faddr 0 (.t 2)⟩
 (.q ⟨(some 6), none, .load 1 false (.t 5)⟩
 (.q ⟨(some 7), none, .faddr 0 (.t 3)⟩
 (.q ⟨(some 8), none, .load 1 false (.t 7)⟩
 (.q ⟨(some 10), none, .faddr 1 (.t 2)⟩
 (.q ⟨(some 11), none, .load 1 false (.t 10)⟩
 (.q ⟨(some 12), none, .faddr 1 (.t 3)⟩
 (.q ⟨(some 13), none, .load 1 false (.t 12)⟩
 (.q ⟨(some 15), none, .faddr 2 (.t 2)⟩
 (.q ⟨(some 16), none, .load 1 false (.t 15)⟩
 (.q ⟨(some 17), none, .faddr 2 (.t 3)⟩
 (.q ⟨(some 18), none, .load 1 false (.t 17)⟩
 (.l ⟨(some 9), none, .call 95 [(.t 6), (.t 8)]⟩ [⟨(some 18), none, .load 1 false (.t 17)⟩, ⟨(some 17), none, .faddr 2 (.t 3)⟩, ⟨(some 16), none, .load 1 false (.t 15)⟩, ⟨(some 15), none, .faddr 2 (.t 2)⟩, ⟨(some 13), none, .load 1 false (.t 12)⟩, ⟨(some 12), none, .faddr 1 (.t 3)⟩, ⟨(some 11), none, .load 1 false (.t 10)⟩, ⟨(some 10), none, .faddr 1 (.t 2)⟩]
 (.l ⟨(some 14), none, .call 95 [(.t 11), (.t 13)]⟩ [⟨(some 18), none, .load 1 false (.t 17)⟩, ⟨(some 17), none, .faddr 2 (.t 3)⟩, ⟨(some 16), none, .load 1 false (.t 15)⟩, ⟨(some 15), none, .faddr 2 (.t 2)⟩]
 (.l ⟨(some 19), none, .call 96 [(.t 16), (.t 18)]⟩ []
 (.l ⟨(some 20), none, .bslice 1 [(.t 9), (.t 14), (.t 19)]⟩ []
 (.l ⟨(some 21), none, .call 94 [(.t 20)]⟩ []
 (.q ⟨(some 4), none, .mov (.t 21)⟩
 .done) .non) .non) .non) .non) .non))))))))))))))
 .ret))
theorem fc51 : fcomp Try.prog Try.f51 = some (c51.erase, [.mov (.t 4)], 22) := by kernel_rfl
def impl_compareAtoms (a_1 : GAtom) (b_2 : GAtom) : Option Int :=
    (cmp_Compare_int a_1.Kind b_2.Kind).bind fun r_3 =>
    (cmp_Compare_int a_1.N b_2.N).bind fun r_5 =>
    (strings_Compare a_1.T b_2.T).bind fun r_7 =>
    (cmp_Or_int [r_3, r_5, r_7]).bind fun r_9 =>
    some r_9
theorem w_impl_compareAtoms (a_1 : GAtom) (b_2 : GAtom) (r : Int) (hf : impl_compareAtoms a_1 b_2 = some r) : CallOK Try.prog 51 .flat [(encGAtom a_1), (encGAtom b_2)] (.int .i64 r) := by
  refine CallOK.of_awp mixed Try.func51 fc51 nle ?_
  rw [argT_eq]
  unfold impl_compareAtoms at hf
  unfold c51
  refine (show awp Try.prog false 0 _ (ofL [(0, (encGAtom a_1)), (1, (encGAtom b_2))]) [] _ from ?_)
  refine awp_seq ?_
  refine w_reg ?_
  refine s_do (o_box (j := 0) (c := (.agg [(.int .i64 a_1.Kind), (.int .i64 a_1.N), (.str a_1.T)])) rfl trivial rfl rfl) ?_
  refine s_do (o_box (j := 1) (c := (.agg [(.int .i64 b_2.Kind), (.int .i64 b_2.N), (.str b_2.T)])) rfl trivial rfl rfl) ?_
  refine s_do (o_mov (.int .i64 0) rfl) ?_
  refine w_done ?_
  refine k_seq ?_
  refine awp_seq ?_
  refine w_reg ?_
  refine s_do (o_q (.ptr 0 0 0) rfl trivial rfl) ?_
  refine s_do (o_q (.int .i64 a_1.Kind) rfl nle rfl) ?_
  refine s_do (o_q (.ptr 1 0 0) rfl trivial rfl) ?_
  refine s_do (o_q (.int .i64 b_2.Kind) rfl nle rfl) ?_
  refine s_do (o_q (.ptr 0 0 1) rfl trivial rfl) ?_
  refine s_do (o_q (.int .i64 a_1.N) rfl nle rfl) ?_
  refine s_do (o_q (.ptr 1 0 1) rfl trivial rfl) ?_
  refine s_do (o_q (.int .i64 b_2.N) rfl nle rfl) ?_
  refine s_do (o_q (.ptr 0 0 2) rfl trivial rfl) ?_
  refine s_do (o_q (.str a_1.T) rfl nle rfl) ?_
  refine s_do (o_q (.ptr 1 0 2) rfl trivial rfl) ?_
  refine s_do (o_q (.str b_2.T) rfl nle rfl) ?_
  obtain ⟨r_3, er4, hf⟩ := ob hf
  refine s_dol (o_call (w_cmp_Compare_int _ _ _ er4) rfl (.refl _) rfl) a_same trivial ?_
  obtain ⟨r_5, er6, hf⟩ := ob hf
  refine s_dol (o_call (w_cmp_Compare_int _ _ _ er6) rfl (.refl _) rfl) a_same trivial ?_
  obtain ⟨r_7, er8, hf⟩ := ob hf
  refine s_dol (o_call (w_strings_Compare _ _ _ er8) rfl (.refl _) rfl) a_same trivial ?_
  refine s_dol (o_bslice (j := 2) (as' := [(.int .i64 r_3), (.int .i64 r_5), (.int .i64 r_7)]) rfl (fun _ => by decide) ⟨rfl, ⟨rfl, ⟨rfl, trivial⟩⟩⟩ (.refl _) rfl rfl rfl) trivial trivial ?_
  obtain ⟨r_9, er10, hf⟩ := ob hf
  refine s_dol (o_call (w_cmp_Or_int _ _ er10) rfl (.cons (.of_eq (congrArg (AV.lst _) (tko [r_3, r_5, r_7]))) .nil) rfl) a_same trivial ?_
  refine s_do (o_mov (.int .i64 r_9) rfl) ?_
  refine w_done ?_
  refine k_seq ?_
  refine w_ret ?_
  obtain rfl := os hf
  exact r_flat ⟨trivial, trivial⟩ rfl (.refl _)

/- impl.DatumOK -/
def c16 : ACode :=
 (.seq (.reg (.q ⟨(some 2), none, .mov (.c (.bool false))⟩
 .done))
 (.seq (.seq (.reg (.q ⟨(some 5), none, .mov (.t 0)⟩
 (.q ⟨(some 6), none, .len (.t 5)⟩
 (.q ⟨(some 7), none, .mov (.c (.int .i64 0))⟩
 .done))))
 (.block 0 (.loop (.seq (.reg (.q ⟨(some 8), none, .bin .lss (.t 7) (.t 6)⟩
 .done))
 (.seq (.cond (.t 8) .skip
 (.exit 0))
 (.seq (.block 1 (.seq (.reg (.q ⟨(some 9), none, .mov (.t 7)⟩
 (.q ⟨(some 10), none, .iaddr 3 (.t 5) (.t 7)⟩
 (.q ⟨(some 11), none, .load 3 true (.t 10)⟩
 (.q ⟨(some 4), none, .box 3 (.c (.agg [(.int .i64 0), (.int .i64 0), (.str [])]))⟩
 (.q ⟨(some 3), none, .mov (.t 9)⟩
 (.q ⟨none, none, .store 3 (.t 4) (.t 11)⟩
 .done)))))))
 (.seq (.reg (.q ⟨(some 12), none, .load 3 true (.t 4)⟩
 (.l ⟨(some 13), none, .call 50 [(.t 12)]⟩ []
 (.q ⟨(some 14), none, .not (.t 13)⟩
 (.q ⟨(some 15), none, .mov (.t 14)⟩
 (.q ⟨(some 16), (some (15, false)), .faddr 0 (.t 4)⟩
 (.q ⟨(some 17), (some (15, false)), .load 1 false (.t 16)⟩
 (.q ⟨(some 18), (some (15, false)), .mov (.t 0)⟩
 (.q ⟨(some 19), (some (15, false)), .iaddr 3 (.t 18) (.c (.int .i64 0))⟩
 (.q ⟨(some 20), (some (15, false)), .faddr 0 (.t 19)⟩
 (.q ⟨(some 21), (some (15, false)), .load 1 false (.t 20)⟩
 (.q ⟨(some 22), (some (15, false)), .bin .neq (.t 17) (.t 21)⟩
 (.q ⟨(some 23), none, .pick (.t 15) (.c (.bool true)) (.t 22)⟩
 (.q ⟨(some 24), none, .mov (.t 23)⟩
 (.q ⟨(some 25), (some (24, false)), .mov (.t 3)⟩
 (.q ⟨(some 26), (some (24, false)), .bin .gtr (.t 25) (.c (.int .i64 0))⟩
 (.q ⟨(some 27), (some (24, false)), .mov (.t 26)⟩
 (.q ⟨(some 28), (some (27, true)), .mov (.t 0)⟩
 (.q ⟨(some 29), (some (27, true)), .mov (.t 3)⟩
 (.q ⟨(some 30), (some (27, true)), .bin .sub (.t 29) (.c (.int .i64 1))⟩
 (.q ⟨(some 31), (some (27, true)), .iaddr 3 (.t 28) (.t 30)⟩
 (.q ⟨(some 32), (some (27, true)), .load 3 true (.t 31)⟩
 (.q ⟨(some 33), (some (27, true)), .load 3 true (.t 4)⟩
 (.l ⟨(some 34), (some (27, true)), .call 51 [(.t 32), (.t 33)]⟩ []
 (.q ⟨(some 35), (some (27, true)), .bin .geq (.t 34) (.c (.int .i64 0))⟩
 (.q ⟨(some 36), (some (24, false)), .pick (.t 27) (.t 35) (.c (.bool false))⟩
 (.q ⟨(some 37), none, .pick (.t 24) (.c (.bool true)) (.t 36)⟩
 .done))) .non))))))))))))))))))))) .non)))
 (.cut (.cond (.t 37) (.seq (.reg (.q ⟨(some 2), none, .mov (.c (.bool false))⟩
 .done))
 .ret)
 .skip)))))
 (.reg (.q ⟨(some 38), none, .bin .add (.t 7) (.c (.int .i64 1))⟩
 (.q ⟨(some 7), none, .mov (.t 38)⟩
 .done)))))))))
 (.cut (.seq (.reg (.q ⟨(some 39), none, .mov (.t 0)⟩
 (.q ⟨(some 40), none, .len (.t 39)⟩
 (.q ⟨(some 41), none, .bin .leq (.t 40) (.c (.int .i64 8))⟩
 (.q ⟨(some 2), none, .mov (.t 41)⟩
 .done)))))
 .ret))))
theorem fc16 : fcomp Try.prog Try.f16 = some (c16.erase, [.mov (.t 2)], 42) := by kernel_rfl
def impl_DatumOK_L1 (d_1 : (List GAtom)) : List GAtom → Nat → Option (Fl Bool Unit)
  | [], s7_60 =>
    some (.go ())
  | x_96 :: xs, s7_60 =>
    (((impl_AtomOK x_96).bind fun r_110 =>
    if (!r_110) then
    some true
    else
    (idx d_1 0).bind fun x_113 =>
    if (x_96.Kind != x_113.Kind) then
    some true
    else
    if (decide ((s7_60 : Int) > 0)) then
    (idx d_1 (w64 ((s7_60 : Int) - 1))).bind fun x_117 =>
    (impl_compareAtoms x_117 x_96).bind fun r_119 =>
    some (decide (r_119 ≥ 0))
    else
    some false : Option Bool)).bind fun s37_108 =>
    if s37_108 then
    some (.ret false)
    else
    impl_DatumOK_L1 d_1 xs (s7_60 + 1)

def impl_DatumOK (d_1 : (List GAtom)) : Option Bool :=
    (impl_DatumOK_L1 d_1 d_1 0).bind fun q => (match q with
    | .ret r => some r
    | .go _ =>
    some (decide ((d_1.length : Int) ≤ 8)))
theorem w_impl_DatumOK (d_1 : (List GAtom)) (r : Bool) (hf : impl_DatumOK d_1 = some r) : CallOK Try.prog 16 .flat [(.lst 3 (d_1.map encGAtom))] (.bool r) := by
 refine CallOK.of_awp mixed Try.func16 fc16 nle ?_; rw [argT_eq]; unfold impl_DatumOK at hf; unfold c16; refine (show awp Try.prog false 0 _ (ofL [(0, (.lst 3 (d_1.map encGAtom)))]) [] _ from ?_); refine awp_seq ?_; refine w_reg ?_; refine s_do (o_mov (.bool false) rfl) ?_; refine w_done ?_; refine k_seq ?_; refine awp_seq ?_; refine awp_seq ?_; refine w_reg ?_; refine s_do (o_mov (.lst 3 (d_1.map encGAtom)) rfl) ?_; refine s_dof (o_len (enc := encGAtom) rfl) fun hl2 => ?_; refine s_do (o_mov (.int .i64 0) rfl) ?_; refine w_done ?_; refine k_seq ?_
 obtain ⟨p89, hb1, hf⟩ := ob hf
 refine awp_cutx (X := {q : Unit // p89 = .go q}) (fun q => ([(0, (.lst 3 (d_1.map encGAtom)))], [])) ?_ ?_
 ·refine awp_loop (X := {q : Nat // impl_DatumOK_L1 d_1 (d_1.drop q) q = some p89}) (fun q => ([(0, (.lst 3 (d_1.map encGAtom))), (5, (.lst 3 (d_1.map encGAtom))), (6, (.int .i64 (d_1.length : Int))), (7, (.int .i64 (q.1 : Int)))], [])) (fun q => d_1.length - q.1) ⟨0, hb1⟩ ⟨[], [], _, _, rfl, rfl, ⟨.refl _, ⟨.refl _, ⟨.refl _, ⟨.refl _, trivial⟩⟩⟩⟩, (.refl _)⟩ ?_
  rintro ⟨s7_60, hc1⟩
  have hc1 : impl_DatumOK_L1 d_1 (d_1.drop s7_60) s7_60 = some p89 := hc1
  refine (show awp Try.prog false 0 _ (ofL [(0, (.lst 3 (d_1.map encGAtom))), (5, (.lst 3 (d_1.map encGAtom))), (6, (.int .i64 (d_1.length : Int))), (7, (.int .i64 (s7_60 : Int)))]) [] _ from ?_)
  rcases dropc d_1 s7_60 with ⟨hie92, hd95⟩ | ⟨hlt90, x_96, hx91, hd95⟩
  ·rw [hd95, impl_DatumOK_L1.eq_1] at hc1
   have hq94 := dlf hie92
   refine awp_seq ?_; refine w_reg ?_; refine s_do (o_q (.bool (decide ((s7_60 : Int) < (d_1.length : Int)))) rfl rfl rfl) ?_; refine w_done ?_; refine k_seq ?_; refine awp_seq ?_; refine w_condf rfl hq94 ?_; refine w_exit ?_; refine k_seqx ?_; refine k_loopx ?_; refine k_blkx ?_; obtain rfl := os hc1; exact k_cutn ⟨_, rfl⟩ ⟨[], [], _, _, rfl, rfl, ⟨.refl _, trivial⟩, (.refl _)⟩
  ·rw [hd95, impl_DatumOK_L1.eq_2] at hc1
   have hq94 := dlt hlt90
   refine awp_seq ?_; refine w_reg ?_; refine s_do (o_q (.bool (decide ((s7_60 : Int) < (d_1.length : Int)))) rfl rfl rfl) ?_; refine w_done ?_; refine k_seq ?_; refine awp_seq ?_; refine w_condt rfl hq94 ?_; refine w_skip ?_; refine k_seq ?_; refine awp_seq ?_; refine w_blk ?_; refine awp_seq ?_; refine w_reg ?_; refine s_do (o_mov (.int .i64 (s7_60 : Int)) rfl) ?_; refine s_do (o_iaddrn (enc := encGAtom) rfl rfl hx91) ?_; refine s_do (o_q (encGAtom x_96) rfl nle rfl) ?_; refine s_do (o_box (j := 0) (c := (.agg [(.int .i64 0), (.int .i64 0), (.str [])])) rfl trivial rfl rfl) ?_; refine s_do (o_mov (.int .i64 (s7_60 : Int)) rfl) ?_
   refine s_do0 (o_storebox (v := (.agg [(.int .i64 x_96.Kind), (.int .i64 x_96.N), (.str x_96.T)])) (y' := (.agg [(.int .i64 x_96.Kind), (.int .i64 x_96.N), (.str x_96.T)])) rfl rfl rfl trivial ⟨rfl, nle⟩ ⟨⟨rfl, trivial⟩, ⟨⟨rfl, trivial⟩, ⟨⟨rfl, trivial⟩, trivial⟩⟩⟩ rfl) ?_; refine w_done ?_; refine k_seq ?_; refine awp_seq ?_
   obtain ⟨s37_108, hb2, hc1⟩ := ob hc1
   refine awp_cut ([(0, (.lst 3 (d_1.map encGAtom))), (5, (.lst 3 (d_1.map encGAtom))), (6, (.int .i64 (d_1.length : Int))), (7, (.int .i64 (s7_60 : Int))), (37, (.bool s37_108))], []) ?_ ?_
   ·refine w_reg ?_; refine s_do (o_q (.agg [(.int .i64 x_96.Kind), (.int .i64 x_96.N), (.str x_96.T)]) rfl nle rfl) ?_
    obtain ⟨r_110, er111, hb2⟩ := ob hb2
    refine s_dol (o_call (w_impl_AtomOK _ _ er111) rfl (.refl _) rfl) a_same trivial ?_; refine s_do (o_q (.bool (!r_110)) rfl trivial rfl) ?_; refine s_do (o_mov (.bool (!r_110)) rfl) ?_
    rcases oi hb2 with ⟨c112, hb2⟩ | ⟨c112, hb2⟩
    ·refine s_lit (s := 15) (b := true) rfl c112 ?_; refine s_off rfl rfl ?_; refine s_off rfl rfl ?_; refine s_off rfl rfl ?_; refine s_off rfl rfl ?_; refine s_off rfl rfl ?_; refine s_off rfl rfl ?_; refine s_off rfl rfl ?_; refine s_do (o_q (.bool true) rfl trivial rfl) ?_; refine s_do (o_mov (.bool true) rfl) ?_; refine s_off rfl rfl ?_; refine s_off rfl rfl ?_; refine s_off rfl rfl ?_; refine s_offs rfl ?_; refine s_offs rfl ?_; refine s_offs rfl ?_; refine s_offs rfl ?_; refine s_offs rfl ?_; refine s_offs rfl ?_; refine s_offsl rfl trivial ?_; refine s_offs rfl ?_; refine s_off rfl rfl ?_
     refine s_do (o_q (.bool true) rfl trivial rfl) ?_; refine w_done ?_; obtain rfl := os hb2; exact ⟨[], [], _, _, rfl, rfl, ⟨.refl _, ⟨.refl _, ⟨.refl _, ⟨.refl _, ⟨.refl _, trivial⟩⟩⟩⟩⟩, (.refl _)⟩
    ·refine s_lit (s := 15) (b := false) rfl (bf c112) ?_; refine s_on rfl ?_; refine s_do (o_q (.ptr 0 0 0) rfl trivial rfl) ?_; refine s_on rfl ?_; refine s_do (o_q (.int .i64 x_96.Kind) rfl nle rfl) ?_; refine s_on rfl ?_; refine s_do (o_mov (.lst 3 (d_1.map encGAtom)) rfl) ?_; refine s_on rfl ?_
     obtain ⟨x_113, ex114, hb2⟩ := ob hb2
     refine s_do (o_iaddr (enc := encGAtom) rfl rfl (idx0 ex114) (idx1 ex114)) ?_; refine s_on rfl ?_; refine s_do (o_q (.iptr (encGAtom x_113) 0) rfl trivial rfl) ?_; refine s_on rfl ?_; refine s_do (o_q (.int .i64 x_113.Kind) rfl nle rfl) ?_; refine s_on rfl ?_; refine s_do (o_q (.bool (x_96.Kind != x_113.Kind)) rfl rfl rfl) ?_; refine s_do (o_q (.bool (x_96.Kind != x_113.Kind)) rfl trivial rfl) ?_; refine s_do (o_mov (.bool (x_96.Kind != x_113.Kind)) rfl) ?_
     rcases oi hb2 with ⟨c115, hb2⟩ | ⟨c115, hb2⟩
     ·refine s_lit (s := 24) (b := true) rfl c115 ?_; refine s_off rfl rfl ?_; refine s_off rfl rfl ?_; refine s_off rfl rfl ?_; refine s_offs rfl ?_; refine s_offs rfl ?_; refine s_offs rfl ?_; refine s_offs rfl ?_; refine s_offs rfl ?_; refine s_offs rfl ?_; refine s_offsl rfl trivial ?_; refine s_offs rfl ?_; refine s_off rfl rfl ?_; refine s_do (o_q (.bool true) rfl trivial rfl) ?_; refine w_done ?_; obtain rfl := os hb2; exact ⟨[], [], _, _, rfl, rfl, ⟨.refl _, ⟨.refl _, ⟨.refl _, ⟨.refl _, ⟨.refl _, trivial⟩⟩⟩⟩⟩, (.refl _)⟩
     ·refine s_lit (s := 24) (b := false) rfl (bf c115) ?_; refine s_on rfl ?_; refine s_do (o_mov (.int .i64 (s7_60 : Int)) rfl) ?_; refine s_on rfl ?_; refine s_do (o_q (.bool (decide ((s7_60 : Int) > 0))) rfl rfl rfl) ?_; refine s_on rfl ?_; refine s_do (o_mov (.bool (decide ((s7_60 : Int) > 0))) rfl) ?_
      rcases oi hb2 with ⟨c116, hb2⟩ | ⟨c116, hb2⟩
      ·refine s_lit (s := 27) (b := true) rfl c116 ?_; refine s_on rfl ?_; refine s_do (o_mov (.lst 3 (d_1.map encGAtom)) rfl) ?_; refine s_on rfl ?_; refine s_do (o_mov (.int .i64 (s7_60 : Int)) rfl) ?_; refine s_on rfl ?_; refine s_do (o_q (.int .i64 (w64 ((s7_60 : Int) - 1))) rfl rfl rfl) ?_; refine s_on rfl ?_
       obtain ⟨x_117, ex118, hb2⟩ := ob hb2
       refine s_do (o_iaddr (enc := encGAtom) rfl rfl (idx0 ex118) (idx1 ex118)) ?_; refine s_on rfl ?_; refine s_do (o_q (encGAtom x_117) rfl nle rfl) ?_; refine s_on rfl ?_; refine s_do (o_q (.agg [(.int .i64 x_96.Kind), (.int .i64 x_96.N), (.str x_96.T)]) rfl nle rfl) ?_; refine s_onl rfl ?_
       obtain ⟨r_119, er120, hb2⟩ := ob hb2
       refine s_dol (o_call (w_impl_compareAtoms _ _ _ er120) rfl (.refl _) rfl) a_same trivial ?_; refine s_on rfl ?_; refine s_do (o_q (.bool (decide (r_119 ≥ 0))) rfl rfl rfl) ?_; refine s_on rfl ?_; refine s_do (o_q (.bool (decide (r_119 ≥ 0))) rfl trivial rfl) ?_; refine s_do (o_q (.bool (decide (r_119 ≥ 0))) rfl trivial rfl) ?_; refine w_done ?_; obtain rfl := os hb2; exact ⟨[], [], _, _, rfl, rfl, ⟨.refl _, ⟨.refl _, ⟨.refl _, ⟨.refl _, ⟨.refl _, trivial⟩⟩⟩⟩⟩, (.refl _)⟩
      ·refine s_lit (s := 27) (b := false) rfl (bf c116) ?_; refine s_off rfl rfl ?_; refine s_off rfl rfl ?_; refine s_off rfl rfl ?_; refine s_off rfl rfl ?_; refine s_off rfl rfl ?_; refine s_off rfl rfl ?_; refine s_offl rfl rfl trivial ?_; refine s_off rfl rfl ?_; refine s_on rfl ?_; refine s_do (o_q (.bool false) rfl trivial rfl) ?_; refine s_do (o_q (.bool false) rfl trivial rfl) ?_; refine w_done ?_; obtain rfl := os hb2; exact ⟨[], [], _, _, rfl, rfl, ⟨.refl _, ⟨.refl _, ⟨.refl _, ⟨.refl _, ⟨.refl _, trivial⟩⟩⟩⟩⟩, (.refl _)⟩
   ·rcases oi hc1 with ⟨c121, hc1⟩ | ⟨c121, hc1⟩
    ·refine w_condt rfl c121 ?_; refine awp_seq ?_; refine w_reg ?_; refine s_do (o_mov (.bool false) rfl) ?_; refine w_done ?_; refine k_seq ?_; refine w_ret ?_; obtain rfl := os hc1; obtain rfl := os hf; exact r_flat ⟨trivial, trivial⟩ rfl (.refl _)
    ·refine w_condf rfl (bf c121) ?_; refine w_skip ?_; refine k_blk ?_; refine k_seq ?_; refine w_reg ?_; refine s_do (o_q (.int .i64 (w64 ((s7_60 : Int) + 1))) rfl rfl rfl) ?_; refine s_do (o_mov (.int .i64 (w64 ((s7_60 : Int) + 1))) rfl) ?_; refine w_done ?_; exact k_loopn ⟨(s7_60 + 1), hc1⟩ (mul hlt90) ⟨[], [], _, _, rfl, rfl, ⟨.refl _, ⟨.refl _, ⟨.refl _, ⟨.of_eq (congrArg (AV.int _) (w64_incr hlt90 hl2)), trivial⟩⟩⟩⟩, (.refl _)⟩
 ·rintro ⟨_, rfl⟩
  refine awp_seq ?_; refine w_reg ?_; refine s_do (o_mov (.lst 3 (d_1.map encGAtom)) rfl) ?_; refine s_dof (o_len (enc := encGAtom) rfl) fun hl122 => ?_; refine s_do (o_q (.bool (decide ((d_1.length : Int) ≤ 8))) rfl rfl rfl) ?_; refine s_do (o_mov (.bool (decide ((d_1.length : Int) ≤ 8))) rfl) ?_; refine w_done ?_; refine k_seq ?_; refine w_ret ?_; obtain rfl := os hf; exact r_flat ⟨trivial, trivial⟩ rfl (.refl _)

/- impl.condOK -/
def c78 : ACode :=
 (.seq (.reg (.q ⟨(some 1), none, .box 3 (.t 0)⟩
 (.q ⟨(some 2), none, .mov (.c (.bool false))⟩
 .done)))
 (.seq (.reg (.q ⟨(some 3), none, .faddr 1 (.t 1)⟩
 (.q ⟨(some 4), none, .load 1 false (.t 3)⟩
 (.q ⟨(some 5), none, .call 92 [(.t 4), (.c (.int .i64 1)), (.c (.int .i64 8))]⟩
 (.q ⟨(some 6), none, .mov (.t 5)⟩
 (.q ⟨(some 7), (some (6, true)), .faddr 2 (.t 1)⟩
 (.q ⟨(some 8), (some (6, true)), .load 1 false (.t 7)⟩
 (.q ⟨(some 9), (some (6, true)), .call 16 [(.t 8)]⟩
 (.q ⟨(some 10), none, .pick (.t 6) (.t 9) (.c (.bool false))⟩
 (.q ⟨(some 11), none, .mov (.t 10)⟩
 (.q ⟨(some 12), (some (11, true)), .faddr 0 (.t 1)⟩
 (.q ⟨(some 13), (some (11, true)), .load 1 false (.t 12)⟩
 (.q ⟨(some 14), (some (11, true)), .bslice 1 [(.t 13)]⟩
 (.q ⟨(some 15), (some (11, true)), .call 37 [(.t 14)]⟩
 (.q ⟨(some 16), none, .pick (.t 11) (.t 15) (.c (.bool false))⟩
 (.q ⟨(some 2), none, .mov (.t 16)⟩
 .done))))))))))))))))
 .ret))
theorem fc78 : fcomp Try.prog Try.f78 = some (c78.erase, [.mov (.t 2)], 17) := by kernel_rfl
def impl_condOK (c_1 : GCond) : Option Bool :=
    (impl_within c_1.Func 1 8).bind fun r_2 =>
    if r_2 then
    (impl_DatumOK c_1.Value).bind fun r_5 =>
    if r_5 then
    (impl_areShort [c_1.Column]).bind fun r_8 =>
    some r_8
    else
    some false
    else
    some false
theorem w_impl_condOK (c_1 : GCond) (r : Bool) (hf : impl_condOK c_1 = some r) : CallOK Try.prog 78 .flat [(encGCond c_1)] (.bool r) := by
  refine CallOK.of_awp mixed Try.func78 fc78 nle ?_
  rw [argT_eq]
  unfold impl_condOK at hf
  unfold c78
  refine (show awp Try.prog false 0 _ (ofL [(0, (encGCond c_1))]) [] _ from ?_)
  refine awp_seq ?_
  refine w_reg ?_
  refine s_do (o_box (j := 0) (c := (.agg [(.str c_1.Column), (.int .i64 c_1.Func), (.lst 3 (c_1.Value.map encGAtom))])) rfl trivial rfl rfl) ?_
  refine s_do (o_mov (.bool false) rfl) ?_
  refine w_done ?_
  refine k_seq ?_
  refine awp_seq ?_
  refine w_reg ?_
  refine s_do (o_q (.ptr 0 0 1) rfl trivial rfl) ?_
  refine s_do (o_q (.int .i64 c_1.Func) rfl nle rfl) ?_
  obtain ⟨r_2, er3, hf⟩ := ob hf
  refine s_do (o_call (w_impl_within _ _ _ _ er3) rfl (.refl _) rfl) ?_
  refine s_do (o_mov (.bool r_2) rfl) ?_
  rcases oi hf with ⟨c4, hf⟩ | ⟨c4, hf⟩
  · refine s_lit (s := 6) (b := true) rfl c4 ?_
    refine s_on rfl ?_
    refine s_do (o_q (.ptr 0 0 2) rfl trivial rfl) ?_
    refine s_on rfl ?_
    refine s_do (o_q (.lst 3 (c_1.Value.map encGAtom)) rfl nle rfl) ?_
    refine s_on rfl ?_
    obtain ⟨r_5, er6, hf⟩ := ob hf
    refine s_do (o_call (w_impl_DatumOK _ _ er6) rfl (.refl _) rfl) ?_
    refine s_do (o_q (.bool r_5) rfl trivial rfl) ?_
    refine s_do (o_mov (.bool r_5) rfl) ?_
    rcases oi hf with ⟨c7, hf⟩ | ⟨c7, hf⟩
    · refine s_lit (s := 11) (b := true) rfl c7 ?_
      refine s_on rfl ?_
      refine s_do (o_q (.ptr 0 0 0) rfl trivial rfl) ?_
      refine s_on rfl ?_
      refine s_do (o_q (.str c_1.Column) rfl nle rfl) ?_
      refine s_on rfl ?_
      refine s_do (o_bslice (j := 1) (as' := [(.str c_1.Column)]) rfl (fun _ => by decide) ⟨rfl, trivial⟩ (.refl _) rfl rfl rfl) ?_
      refine s_on rfl ?_
      obtain ⟨r_8, er9, hf⟩ := ob hf
      refine s_do (o_call (w_impl_areShort _ _ er9) rfl (.cons (.of_eq (congrArg (AV.lst _) (tko [c_1.Column]))) .nil) rfl) ?_
      refine s_do (o_q (.bool r_8) rfl trivial rfl) ?_
      refine s_do (o_mov (.bool r_8) rfl) ?_
      refine w_done ?_
      refine k_seq ?_
      refine w_ret ?_
      obtain rfl := os hf
      exact r_flat ⟨trivial, trivial⟩ rfl (.refl _)
    · refine s_lit (s := 11) (b := false) rfl (bf c7) ?_
      refine s_off rfl rfl ?_
      refine s_off rfl rfl ?_
      refine s_off rfl rfl ?_
      refine s_off rfl rfl ?_
      refine s_do (o_q (.bool false) rfl trivial rfl) ?_
      refine s_do (o_mov (.bool false) rfl) ?_
      refine w_done ?_
      refine k_seq ?_
      refine w_ret ?_
      obtain rfl := os hf
      exact r_flat ⟨trivial, trivial⟩ rfl (.refl _)
  · refine s_lit (s := 6) (b := false) rfl (bf c4) ?_
    refine s_off rfl rfl ?_
    refine s_off rfl rfl ?_
    refine s_off rfl rfl ?_
    refine s_do (o_q (.bool false) rfl trivial rfl) ?_
    refine s_do (o_mov (.bool false) rfl) ?_
    refine s_off rfl rfl ?_
    refine s_off rfl rfl ?_
    refine s_off rfl rfl ?_
    refine s_off rfl rfl ?_
    refine s_do (o_q (.bool false) rfl trivial rfl) ?_
    refine s_do (o_mov (.bool false) rfl) ?_
    refine w_done ?_
    refine k_seq ?_
    refine w_ret ?_
    obtain rfl := os hf
    exact r_flat ⟨trivial, trivial⟩ rfl (.refl _)

/- impl.condsOK$1 -/
def c77 : ACode :=
 (.seq (.reg (.q ⟨(some 1), none, .box 3 (.t 0)⟩
 (.q ⟨(some 2), none, .mov (.c (.bool false))⟩
 .done)))
 (.seq (.reg (.q ⟨(some 3), none, .load 3 true (.t 1)⟩
 (.q ⟨(some 4), none, .call 78 [(.t 3)]⟩
 (.q ⟨(some 5), none, .not (.t 4)⟩
 (.q ⟨(some 2), none, .mov (.t 5)⟩
 .done)))))
 .ret))
theorem fc77 : fcomp Try.prog Try.f77 = some (c77.erase, [.mov (.t 2)], 6) := by kernel_rfl
def impl_condsOK_1 (c_1 : GCond) : Option Bool :=
    (impl_condOK c_1).bind fun r_2 =>
    some (!r_2)
theorem w_impl_condsOK_1 (c_1 : GCond) (r : Bool) (hf : impl_condsOK_1 c_1 = some r) : CallOK Try.prog 77 .flat [(encGCond c_1)] (.bool r) := by
  refine CallOK.of_awp mixed Try.func77 fc77 nle ?_
  rw [argT_eq]
  unfold impl_condsOK_1 at hf
  unfold c77
  refine (show awp Try.prog false 0 _ (ofL [(0, (encGCond c_1))]) [] _ from ?_)
  refine awp_seq ?_
  refine w_reg ?_
  refine s_do (o_box (j := 0) (c := (.agg [(.str c_1.Column), (.int .i64 c_1.Func), (.lst 3 (c_1.Value.map encGAtom))])) rfl trivial rfl rfl) ?_
  refine s_do (o_mov (.bool false) rfl) ?_
  refine w_done ?_
  refine k_seq ?_
  refine awp_seq ?_
  refine w_reg ?_
  obtain ⟨r_2, er3, hf⟩ := ob hf
  refine s_do (o_q (.agg [(.str c_1.Column), (.int .i64 c_1.Func), (.lst 3 (c_1.Value.map encGAtom))]) rfl nle rfl) ?_
  refine s_do (o_call (w_impl_condOK _ _ er3) rfl (.refl _) rfl) ?_
  refine s_do (o_q (.bool (!r_2)) rfl trivial rfl) ?_
  refine s_do (o_mov (.bool (!r_2)) rfl) ?_
  refine w_done ?_
  refine k_seq ?_
  refine w_ret ?_
  obtain rfl := os hf
  exact r_flat ⟨trivial, trivial⟩ rfl (.refl _)

/- impl.condsOK -/
def c38 : ACode :=
 (.seq (.reg (.q ⟨(some 2), none, .mov (.c (.bool false))⟩
 .done))
 (.seq (.reg (.q ⟨(some 3), none, .mov (.t 0)⟩
 (.q ⟨(some 4), none, .len (.t 3)⟩
 (.q ⟨(some 5), none, .bin .leq (.t 4) (.c (.int .i64 8))⟩
 (.q ⟨(some 6), none, .mov (.t 5)⟩
 (.q ⟨(some 7), (some (6, true)), .mov (.t 0)⟩
 (.q ⟨(some 8), (some (6, true)), .call 76 [(.t 7), (.c (.fn 77 []))]⟩
 (.q ⟨(some 9), (some (6, true)), .not (.t 8)⟩
 (.q ⟨(some 10), none, .pick (.t 6) (.t 9) (.c (.bool false))⟩
 (.q ⟨(some 2), none, .mov (.t 10)⟩
 .done))))))))))
 .ret))
theorem fc38 : fcomp Try.prog Try.f38 = some (c38.erase, [.mov (.t 2)], 11) := by kernel_rfl
def impl_condsOK (list_1 : (List GCond)) : Option Bool :=
    if (decide ((list_1.length : Int) ≤ 8)) then
    (slices_ContainsFunc_impl_Cond_impl_Cond list_1 impl_condsOK_1).bind fun r_4 =>
    some (!r_4)
    else
    some false
theorem w_impl_condsOK (list_1 : (List GCond)) (r : Bool) (hf : impl_condsOK list_1 = some r) : CallOK Try.prog 38 .flat [(.lst 3 (list_1.map encGCond))] (.bool r) := by
  refine CallOK.of_awp mixed Try.func38 fc38 nle ?_
  rw [argT_eq]
  unfold impl_condsOK at hf
  unfold c38
  refine (show awp Try.prog false 0 _ (ofL [(0, (.lst 3 (list_1.map encGCond)))]) [] _ from ?_)
  refine awp_seq ?_
  refine w_reg ?_
  refine s_do (o_mov (.bool false) rfl) ?_
  refine w_done ?_
  refine k_seq ?_
  refine awp_seq ?_
  refine w_reg ?_
  rcases oi hf with ⟨c3, hf⟩ | ⟨c3, hf⟩
  · obtain ⟨r_4, er5, hf⟩ := ob hf
    refine s_do (o_mov (.lst 3 (list_1.map encGCond)) rfl) ?_
    refine s_dof (o_len (enc := encGCond) rfl) fun hl2 => ?_
    refine s_do (o_q (.bool (decide ((list_1.length : Int) ≤ 8))) rfl rfl rfl) ?_
    refine s_do (o_mov (.bool (decide ((list_1.length : Int) ≤ 8))) rfl) ?_
    refine s_lit (s := 6) (b := true) rfl c3 ?_
    refine s_on rfl ?_
    refine s_do (o_mov (.lst 3 (list_1.map encGCond)) rfl) ?_
    refine s_on rfl ?_
    refine s_do (o_call (w_slices_ContainsFunc_impl_Cond_impl_Cond _ _ _ er5 77 [] (by kernel_rfl) (fun _ _ => rfl) (fun _ => rfl) (fun a0 r h => w_impl_condsOK_1 a0 r h)) rfl (.refl _) rfl) ?_
    refine s_on rfl ?_
    refine s_do (o_q (.bool (!r_4)) rfl trivial rfl) ?_
    refine s_do (o_q (.bool (!r_4)) rfl trivial rfl) ?_
    refine s_do (o_mov (.bool (!r_4)) rfl) ?_
    refine w_done ?_
    refine k_seq ?_
    refine w_ret ?_
    obtain rfl := os hf
    exact r_flat ⟨trivial, trivial⟩ rfl (.refl _)
  · refine s_do (o_mov (.lst 3 (list_1.map encGCond)) rfl) ?_
    refine s_dof (o_len (enc := encGCond) rfl) fun hl2 => ?_
    refine s_do (o_q (.bool (decide ((list_1.length : Int) ≤ 8))) rfl rfl rfl) ?_
    refine s_do (o_mov (.bool (decide ((list_1.length : Int) ≤ 8))) rfl) ?_
    refine s_lit (s := 6) (b := false) rfl (bf c3) ?_
    refine s_off rfl rfl ?_
    refine s_off rfl rfl ?_
    refine s_off rfl rfl ?_
    refine s_do (o_q (.bool false) rfl trivial rfl) ?_
    refine s_do (o_mov (.bool false) rfl) ?_
    refine w_done ?_
    refine k_seq ?_
    refine w_ret ?_
    obtain rfl := os hf
    exact r_flat ⟨trivial, trivial⟩ rfl (.refl _)

/- slices.IndexFunc[[]impl.Mut,impl.Mut] -/
def c115 : ACode :=
 (.seq (.reg (.q ⟨(some 4), none, .mov (.c (.int .i64 0))⟩
 .done))
 (.seq (.seq (.reg (.q ⟨(some 6), none, .mov (.t 0)⟩
 (.q ⟨(some 7), none, .len (.t 6)⟩
 (.q ⟨(some 8), none, .mov (.c (.int .i64 0))⟩
 .done))))
 (.block 0 (.loop (.seq (.reg (.q ⟨(some 9), none, .bin .lss (.t 8) (.t 7)⟩
 .done))
 (.seq (.cond (.t 9) .skip
 (.exit 0))
 (.seq (.block 1 (.seq (.reg (.q ⟨(some 10), none, .mov (.t 8)⟩
 (.q ⟨(some 5), none, .mov (.t 10)⟩
 .done)))
 (.seq (.reg (.q ⟨(some 11), none, .mov (.t 1)⟩
 (.q ⟨(some 12), none, .mov (.t 0)⟩
 (.q ⟨(some 13), none, .mov (.t 5)⟩
 (.q ⟨(some 14), none, .iaddr 3 (.t 12) (.t 13)⟩
 (.q ⟨(some 15), none, .load 3 true (.t 14)⟩
 (.q ⟨(some 16), none, .calv (.t 11) [(.t 15)]⟩
 .done)))))))
 (.cond (.t 16) (.seq (.reg (.q ⟨(some 17), none, .mov (.t 5)⟩
 (.q ⟨(some 4), none, .mov (.t 17)⟩
 .done)))
 .ret)
 .skip))))
 (.reg (.q ⟨(some 18), none, .bin .add (.t 8) (.c (.int .i64 1))⟩
 (.q ⟨(some 8), none, .mov (.t 18)⟩
 .done)))))))))
 (.cut (.seq (.reg (.q ⟨(some 4), none, .mov (.c (.int .i64 (-1)))⟩
 .done))
 .ret))))
theorem fc115 : fcomp Try.prog Try.f115 = some (c115.erase, [.mov (.t 4)], 19) := by kernel_rfl
def slices_IndexFunc_impl_Mut_impl_Mut_L1 (f_2 : (GMut → Option Bool)) : List GMut → Nat → Option (Fl Int Unit)
  | [], s8_17 =>
    some (.go ())
  | x_31 :: xs, s8_17 =>
    (f_2 x_31).bind fun r_32 =>
    if r_32 then
    some (.ret (s8_17 : Int))
    else
    slices_IndexFunc_impl_Mut_impl_Mut_L1 f_2 xs (s8_17 + 1)

def slices_IndexFunc_impl_Mut_impl_Mut (s_1 : (List GMut)) (f_2 : (GMut → Option Bool)) : Option Int :=
    (slices_IndexFunc_impl_Mut_impl_Mut_L1 f_2 s_1 0).bind fun q => (match q with
    | .ret r => some r
    | .go _ =>
    some (-1))
theorem w_slices_IndexFunc_impl_Mut_impl_Mut (s_1 : (List GMut)) (f_2 : (GMut → Option Bool)) (r : Int) (hf : slices_IndexFunc_impl_Mut_impl_Mut s_1 f_2 = some r) (kf_f_2 : Nat) (cf_f_2 : List AV) (okf_f_2 : okFn Try.prog kf_f_2 = true) (hcf_f_2 : ∀ h p, closeWs h p cf_f_2 = some cf_f_2) (hrf_f_2 : ∀ f, rens f cf_f_2 = cf_f_2) (hpf_f_2 : ∀ a0 r, f_2 a0 = some r → CallOK Try.prog kf_f_2 .flat ([(encGMut a0)] ++ cf_f_2) (.bool r)) : CallOK Try.prog 115 .flat [(.lst 3 (s_1.map encGMut)), (.fn kf_f_2 cf_f_2)] (.int .i64 r) := by
 refine CallOK.of_awp mixed Try.func115 fc115 nle ?_; rw [argT_eq]; unfold slices_IndexFunc_impl_Mut_impl_Mut at hf; unfold c115; refine (show awp Try.prog false 0 _ (ofL [(0, (.lst 3 (s_1.map encGMut))), (1, (.fn kf_f_2 cf_f_2))]) [] _ from ?_); refine awp_seq ?_; refine w_reg ?_; refine s_do (o_mov (.int .i64 0) rfl) ?_; refine w_done ?_; refine k_seq ?_; refine awp_seq ?_; refine awp_seq ?_; refine w_reg ?_; refine s_do (o_mov (.lst 3 (s_1.map encGMut)) rfl) ?_; refine s_dof (o_len (enc := encGMut) rfl) fun hl3 => ?_; refine s_do (o_mov (.int .i64 0) rfl) ?_; refine w_done ?_; refine k_seq ?_
 obtain ⟨p24, hb1, hf⟩ := ob hf
 refine awp_cutx (X := {q : Unit // p24 = .go q}) (fun q => ([], [])) ?_ ?_
 ·refine awp_loop (X := {q : Nat // slices_IndexFunc_impl_Mut_impl_Mut_L1 f_2 (s_1.drop q) q = some p24}) (fun q => ([(0, (.lst 3 (s_1.map encGMut))), (1, (.fn kf_f_2 cf_f_2)), (7, (.int .i64 (s_1.length : Int))), (8, (.int .i64 (q.1 : Int)))], [])) (fun q => s_1.length - q.1) ⟨0, hb1⟩ ⟨[], [], _, _, rfl, rfl, ⟨.refl _, ⟨.of_eq (congrArg (AV.fn _) (hrf_f_2 _)), ⟨.refl _, ⟨.refl _, trivial⟩⟩⟩⟩, (.refl _)⟩ ?_
  rintro ⟨s8_17, hc1⟩
  have hc1 : slices_IndexFunc_impl_Mut_impl_Mut_L1 f_2 (s_1.drop s8_17) s8_17 = some p24 := hc1
  refine (show awp Try.prog false 0 _ (ofL [(0, (.lst 3 (s_1.map encGMut))), (1, (.fn kf_f_2 cf_f_2)), (7, (.int .i64 (s_1.length : Int))), (8, (.int .i64 (s8_17 : Int)))]) [] _ from ?_)
  rcases dropc s_1 s8_17 with ⟨hie27, hd30⟩ | ⟨hlt25, x_31, hx26, hd30⟩
  ·rw [hd30, slices_IndexFunc_impl_Mut_impl_Mut_L1.eq_1] at hc1
   have hq29 := dlf hie27
   refine awp_seq ?_; refine w_reg ?_; refine s_do (o_q (.bool (decide ((s8_17 : Int) < (s_1.length : Int)))) rfl rfl rfl) ?_; refine w_done ?_; refine k_seq ?_; refine awp_seq ?_; refine w_condf rfl hq29 ?_; refine w_exit ?_; refine k_seqx ?_; refine k_loopx ?_; refine k_blkx ?_; obtain rfl := os hc1; exact k_cutn ⟨_, rfl⟩ ⟨[], [], _, _, rfl, rfl, trivial, (.refl _)⟩
  ·rw [hd30, slices_IndexFunc_impl_Mut_impl_Mut_L1.eq_2] at hc1
   have hq29 := dlt hlt25
   refine awp_seq ?_; refine w_reg ?_; refine s_do (o_q (.bool (decide ((s8_17 : Int) < (s_1.length : Int)))) rfl rfl rfl) ?_; refine w_done ?_; refine k_seq ?_; refine awp_seq ?_; refine w_condt rfl hq29 ?_; refine w_skip ?_; refine k_seq ?_; refine awp_seq ?_; refine w_blk ?_; refine awp_seq ?_; refine w_reg ?_; refine s_do (o_mov (.int .i64 (s8_17 : Int)) rfl) ?_; refine s_do (o_mov (.int .i64 (s8_17 : Int)) rfl) ?_; refine w_done ?_; refine k_seq ?_; refine awp_seq ?_; refine w_reg ?_
   obtain ⟨r_32, er33, hc1⟩ := ob hc1
   refine s_do (o_mov (.fn kf_f_2 cf_f_2) rfl) ?_; refine s_do (o_mov (.lst 3 (s_1.map encGMut)) rfl) ?_; refine s_do (o_mov (.int .i64 (s8_17 : Int)) rfl) ?_; refine s_do (o_iaddrn (enc := encGMut) rfl rfl hx26) ?_; refine s_do (o_q (encGMut x_31) rfl nle rfl) ?_; refine s_do (o_calvp (v := (.bool r_32)) rfl okf_f_2 hcf_f_2 (hpf_f_2 _ _ er33) rfl (.refl _) rfl) ?_; refine w_done ?_; refine k_seq ?_
   rcases oi hc1 with ⟨c34, hc1⟩ | ⟨c34, hc1⟩
   ·refine w_condt rfl c34 ?_; refine awp_seq ?_; refine w_reg ?_; refine s_do (o_mov (.int .i64 (s8_17 : Int)) rfl) ?_; refine s_do (o_mov (.int .i64 (s8_17 : Int)) rfl) ?_; refine w_done ?_; refine k_seq ?_; refine w_ret ?_; obtain rfl := os hc1; obtain rfl := os hf; exact r_flat ⟨trivial, trivial⟩ rfl (.refl _)
   ·refine w_condf rfl (bf c34) ?_; refine w_skip ?_; refine k_blk ?_; refine k_seq ?_; refine w_reg ?_; refine s_do (o_q (.int .i64 (w64 ((s8_17 : Int) + 1))) rfl rfl rfl) ?_; refine s_do (o_mov (.int .i64 (w64 ((s8_17 : Int) + 1))) rfl) ?_; refine w_done ?_; exact k_loopn ⟨(s8_17 + 1), hc1⟩ (mul hlt25) ⟨[], [], _, _, rfl, rfl, ⟨.refl _, ⟨.of_eq (congrArg (AV.fn _) (hrf_f_2 _)), ⟨.refl _, ⟨.of_eq (congrArg (AV.int _) (w64_incr hlt25 hl3)), trivial⟩⟩⟩⟩, (.refl _)⟩
 ·rintro ⟨_, rfl⟩
  refine awp_seq ?_; refine w_reg ?_; refine s_do (o_mov (.int .i64 (-1)) rfl) ?_; refine w_done ?_; refine k_seq ?_; refine w_ret ?_; obtain rfl := os hf; exact r_flat ⟨trivial, trivial⟩ rfl (.refl _)

/- slices.ContainsFunc[[]impl.Mut,impl.Mut] -/
def c79 : ACode :=
 (.seq (.reg (.q ⟨(some 4), none, .mov (.c (.bool false))⟩
 .done))
 (.seq (.reg (.q ⟨(some 5), none, .mov (.t 0)⟩
 (.q ⟨(some 6), none, .mov (.t 1)⟩
 (.q ⟨(some 7), none, .call 115 [(.t 5), (.t 6)]⟩
 (.q ⟨(some 8), none, .bin .geq (.t 7) (.c (.int .i64 0))⟩
 (.q ⟨(some 4), none, .mov (.t 8)⟩
 .done))))))
 .ret))
theorem fc79 : fcomp Try.prog Try.f79 = some (c79.erase, [.mov (.t 4)], 9) := by kernel_rfl
def slices_ContainsFunc_impl_Mut_impl_Mut (s_1 : (List GMut)) (f_2 : (GMut → Option Bool)) : Option Bool :=
    (slices_IndexFunc_impl_Mut_impl_Mut s_1 f_2).bind fun r_3 =>
    some (decide (r_3 ≥ 0))
theorem w_slices_ContainsFunc_impl_Mut_impl_Mut (s_1 : (List GMut)) (f_2 : (GMut → Option Bool)) (r : Bool) (hf : slices_ContainsFunc_impl_Mut_impl_Mut s_1 f_2 = some r) (kf_f_2 : Nat) (cf_f_2 : List AV) (okf_f_2 : okFn Try.prog kf_f_2 = true) (hcf_f_2 : ∀ h p, closeWs h p cf_f_2 = some cf_f_2) (hrf_f_2 : ∀ f, rens f cf_f_2 = cf_f_2) (hpf_f_2 : ∀ a0 r, f_2 a0 = some r → CallOK Try.prog kf_f_2 .flat ([(encGMut a0)] ++ cf_f_2) (.bool r)) : CallOK Try.prog 79 .flat [(.lst 3 (s_1.map encGMut)), (.fn kf_f_2 cf_f_2)] (.bool r) := by
  refine CallOK.of_awp mixed Try.func79 fc79 nle ?_
  rw [argT_eq]
  unfold slices_ContainsFunc_impl_Mut_impl_Mut at hf
  unfold c79
  refine (show awp Try.prog false 0 _ (ofL [(0, (.lst 3 (s_1.map encGMut))), (1, (.fn kf_f_2 cf_f_2))]) [] _ from ?_)
  refine awp_seq ?_
  refine w_reg ?_
  refine s_do (o_mov (.bool false) rfl) ?_
  refine w_done ?_
  refine k_seq ?_
  refine awp_seq ?_
  refine w_reg ?_
  obtain ⟨r_3, er4, hf⟩ := ob hf
  refine s_do (o_mov (.lst 3 (s_1.map encGMut)) rfl) ?_
  refine s_do (o_mov (.fn kf_f_2 cf_f_2) rfl) ?_
  refine s_do (o_call (w_slices_IndexFunc_impl_Mut_impl_Mut _ _ _ er4 kf_f_2 cf_f_2 okf_f_2 hcf_f_2 hrf_f_2 hpf_f_2) (cls_cons rfl (cls_cons (cls_fn hcf_f_2) rfl)) (.refl _) rfl) ?_
  refine s_do (o_q (.bool (decide (r_3 ≥ 0))) rfl rfl rfl) ?_
  refine s_do (o_mov (.bool (decide (r_3 ≥ 0))) rfl) ?_
  refine w_done ?_
  refine k_seq ?_
  refine w_ret ?_
  obtain rfl := os hf
  exact r_flat ⟨trivial, trivial⟩ rfl (.refl _)

/- impl.mutOK -/
def c61 : ACode :=
 (.seq (.reg (.q ⟨(some 1), none, .box 3 (.t 0)⟩
 (.q ⟨(some 2), none, .mov (.c (.bool false))⟩
 .done)))
 (.seq (.reg (.q ⟨(some 3), none, .faddr 1 (.t 1)⟩
 (.q ⟨(some 4), none, .load 1 false (.t 3)⟩
 (.q ⟨(some 5), none, .call 92 [(.t 4), (.c (.int .i64 1)), (.c (.int .i64 7))]⟩
 (.q ⟨(some 6), none, .mov (.t 5)⟩
 (.q ⟨(some 7), (some (6, true)), .faddr 2 (.t 1)⟩
 (.q ⟨(some 8), (some (6, true)), .load 1 false (.t 7)⟩
 (.q ⟨(some 9), (some (6, true)), .call 16 [(.t 8)]⟩
 (.q ⟨(some 10), none, .pick (.t 6) (.t 9) (.c (.bool false))⟩
 (.q ⟨(some 11), none, .mov (.t 10)⟩
 (.q ⟨(some 12), (some (11, true)), .faddr 0 (.t 1)⟩
 (.q ⟨(some 13), (some (11, true)), .load 1 false (.t 12)⟩
 (.q ⟨(some 14), (some (11, true)), .bslice 1 [(.t 13)]⟩
 (.q ⟨(some 15), (some (11, true)), .call 37 [(.t 14)]⟩
 (.q ⟨(some 16), none, .pick (.t 11) (.t 15) (.c (.bool false))⟩
 (.q ⟨(some 2), none, .mov (.t 16)⟩
 .done))))))))))))))))
 .ret))
theorem fc61 : fcomp Try.prog Try.f61 = some (c61.erase, [.mov (.t 2)], 17) := by kernel_rfl
def impl_mutOK (m_1 : GMut) : Option Bool :=
    (impl_within m_1.Func 1 7).bind fun r_2 =>
    if r_2 then
    (impl_DatumOK m_1.Value).bind fun r_5 =>
    if r_5 then
    (impl_areShort [m_1.Column]).bind fun r_8 =>
    some r_8
    else
    some false
    else
    some false
theorem w_impl_mutOK (m_1 : GMut) (r : Bool) (hf : impl_mutOK m_1 = some r) : CallOK Try.prog 61 .flat [(encGMut m_1)] (.bool r) := by
  refine CallOK.of_awp mixed Try.func61 fc61 nle ?_
  rw [argT_eq]
  unfold impl_mutOK at hf
  unfold c61
  refine (show awp Try.prog false 0 _ (ofL [(0, (encGMut m_1))]) [] _ from ?_)
  refine awp_seq ?_
  refine w_reg ?_
  refine s_do (o_box (j := 0) (c := (.agg [(.str m_1.Column), (.int .i64 m_1.Func), (.lst 3 (m_1.Value.map encGAtom))])) rfl trivial rfl rfl) ?_
  refine s_do (o_mov (.bool false) rfl) ?_
  refine w_done ?_
  refine k_seq ?_
  refine awp_seq ?_
  refine w_reg ?_
  refine s_do (o_q (.ptr 0 0 1) rfl trivial rfl) ?_
  refine s_do (o_q (.int .i64 m_1.Func) rfl nle rfl) ?_
  obtain ⟨r_2, er3, hf⟩ := ob hf
  refine s_do (o_call (w_impl_within _ _ _ _ er3) rfl (.refl _) rfl) ?_
  refine s_do (o_mov (.bool r_2) rfl) ?_
  rcases oi hf with ⟨c4, hf⟩ | ⟨c4, hf⟩
  · refine s_lit (s := 6) (b := true) rfl c4 ?_
    refine s_on rfl ?_
    refine s_do (o_q (.ptr 0 0 2) rfl trivial rfl) ?_
    refine s_on rfl ?_
    refine s_do (o_q (.lst 3 (m_1.Value.map encGAtom)) rfl nle rfl) ?_
    refine s_on rfl ?_
    obtain ⟨r_5, er6, hf⟩ := ob hf
    refine s_do (o_call (w_impl_DatumOK _ _ er6) rfl (.refl _) rfl) ?_
    refine s_do (o_q (.bool r_5) rfl trivial rfl) ?_
    refine s_do (o_mov (.bool r_5) rfl) ?_
    rcases oi hf with ⟨c7, hf⟩ | ⟨c7, hf⟩
    · refine s_lit (s := 11) (b := true) rfl c7 ?_
      refine s_on rfl ?_
      refine s_do (o_q (.ptr 0 0 0) rfl trivial rfl) ?_
      refine s_on rfl ?_
      refine s_do (o_q (.str m_1.Column) rfl nle rfl) ?_
      refine s_on rfl ?_
      refine s_do (o_bslice (j := 1) (as' := [(.str m_1.Column)]) rfl (fun _ => by decide) ⟨rfl, trivial⟩ (.refl _) rfl rfl rfl) ?_
      refine s_on rfl ?_
      obtain ⟨r_8, er9, hf⟩ := ob hf
      refine s_do (o_call (w_impl_areShort _ _ er9) rfl (.cons (.of_eq (congrArg (AV.lst _) (tko [m_1.Column]))) .nil) rfl) ?_
      refine s_do (o_q (.bool r_8) rfl trivial rfl) ?_
      refine s_do (o_mov (.bool r_8) rfl) ?_
      refine w_done ?_
      refine k_seq ?_
      refine w_ret ?_
      obtain rfl := os hf
      exact r_flat ⟨trivial, trivial⟩ rfl (.refl _)
    · refine s_lit (s := 11) (b := false) rfl (bf c7) ?_
      refine s_off rfl rfl ?_
      refine s_off rfl rfl ?_
      refine s_off rfl rfl ?_
      refine s_off rfl rfl ?_
      refine s_do (o_q (.bool false) rfl trivial rfl) ?_
      refine s_do (o_mov (.bool false) rfl) ?_
      refine w_done ?_
      refine k_seq ?_
      refine w_ret ?_
      obtain rfl := os hf
      exact r_flat ⟨trivial, trivial⟩ rfl (.refl _)
  · refine s_lit (s := 6) (b := false) rfl (bf c4) ?_
    refine s_off rfl rfl ?_
    refine s_off rfl rfl ?_
    refine s_off rfl rfl ?_
    refine s_do (o_q (.bool false) rfl trivial rfl) ?_
    refine s_do (o_mov (.bool false) rfl) ?_
    refine s_off rfl rfl ?_
    refine s_off rfl rfl ?_
    refine s_off rfl rfl ?_
    refine s_off rfl rfl ?_
    refine s_do (o_q (.bool false) rfl trivial rfl) ?_
    refine s_do (o_mov (.bool false) rfl) ?_
    refine w_done ?_
    refine k_seq ?_
    refine w_ret ?_
    obtain rfl := os hf
    exact r_flat ⟨trivial, trivial⟩ rfl (.refl _)

/- impl.mutsOK$1 -/
def c80 : ACode :=
 (.seq (.reg (.q ⟨(some 1), none, .box 3 (.t 0)⟩
 (.q ⟨(some 2), none, .mov (.c (.bool false))⟩
 .done)))
 (.seq (.reg (.q ⟨(some 3), none, .load 3 true (.t 1)⟩
 (.q ⟨(some 4), none, .call 61 [(.t 3)]⟩
 (.q ⟨(some 5), none, .not (.t 4)⟩
 (.q ⟨(some 2), none, .mov (.t 5)⟩
 .done)))))
 .ret))
theorem fc80 : fcomp Try.prog Try.f80 = some (c80.erase, [.mov (.t 2)], 6) := by kernel_rfl
def impl_mutsOK_1 (m_1 : GMut) : Option Bool :=
    (impl_mutOK m_1).bind fun r_2 =>
    some (!r_2)
theorem w_impl_mutsOK_1 (m_1 : GMut) (r : Bool) (hf : impl_mutsOK_1 m_1 = some r) : CallOK Try.prog 80 .flat [(encGMut m_1)] (.bool r) := by
  refine CallOK.of_awp mixed Try.func80 fc80 nle ?_
  rw [argT_eq]
  unfold impl_mutsOK_1 at hf
  unfold c80
  refine (show awp Try.prog false 0 _ (ofL [(0, (encGMut m_1))]) [] _ from ?_)
  refine awp_seq ?_
  refine w_reg ?_
  refine s_do (o_box (j := 0) (c := (.agg [(.str m_1.Column), (.int .i64 m_1.Func), (.lst 3 (m_1.Value.map encGAtom))])) rfl trivial rfl rfl) ?_
  refine s_do (o_mov (.bool false) rfl) ?_
  refine w_done ?_
  refine k_seq ?_
  refine awp_seq ?_
  refine w_reg ?_
  obtain ⟨r_2, er3, hf⟩ := ob hf
  refine s_do (o_q (.agg [(.str m_1.Column), (.int .i64 m_1.Func), (.lst 3 (m_1.Value.map encGAtom))]) rfl nle rfl) ?_
  refine s_do (o_call (w_impl_mutOK _ _ er3) rfl (.refl _) rfl) ?_
  refine s_do (o_q (.bool (!r_2)) rfl trivial rfl) ?_
  refine s_do (o_mov (.bool (!r_2)) rfl) ?_
  refine w_done ?_
  refine k_seq ?_
  refine w_ret ?_
  obtain rfl := os hf
  exact r_flat ⟨trivial, trivial⟩ rfl (.refl _)

/- impl.mutsOK -/
def c39 : ACode :=
 (.seq (.reg (.q ⟨(some 2), none, .mov (.c (.bool false))⟩
 .done))
 (.seq (.reg (.q ⟨(some 3), none, .mov (.t 0)⟩
 (.q ⟨(some 4), none, .len (.t 3)⟩
 (.q ⟨(some 5), none, .bin .leq (.t 4) (.c (.int .i64 8))⟩
 (.q ⟨(some 6), none, .mov (.t 5)⟩
 (.q ⟨(some 7), (some (6, true)), .mov (.t 0)⟩
 (.q ⟨(some 8), (some (6, true)), .call 79 [(.t 7), (.c (.fn 80 []))]⟩
 (.q ⟨(some 9), (some (6, true)), .not (.t 8)⟩
 (.q ⟨(some 10), none, .pick (.t 6) (.t 9) (.c (.bool false))⟩
 (.q ⟨(some 2), none, .mov (.t 10)⟩
 .done))))))))))
 .ret))
theorem fc39 : fcomp Try.prog Try.f39 = some (c39.erase, [.mov (.t 2)], 11) := by kernel_rfl
def impl_mutsOK (list_1 : (List GMut)) : Option Bool :=
    if (decide ((list_1.length : Int) ≤ 8)) then
    (slices_ContainsFunc_impl_Mut_impl_Mut list_1 impl_mutsOK_1).bind fun r_4 =>
    some (!r_4)
    else
    some false
theorem w_impl_mutsOK (list_1 : (List GMut)) (r : Bool) (hf : impl_mutsOK list_1 = some r) : CallOK Try.prog 39 .flat [(.lst 3 (list_1.map encGMut))] (.bool r) := by
  refine CallOK.of_awp mixed Try.func39 fc39 nle ?_
  rw [argT_eq]
  unfold impl_mutsOK at hf
  unfold c39
  refine (show awp Try.prog false 0 _ (ofL [(0, (.lst 3 (list_1.map encGMut)))]) [] _ from ?_)
  refine awp_seq ?_
  refine w_reg ?_
  refine s_do (o_mov (.bool false) rfl) ?_
  refine w_done ?_
  refine k_seq ?_
  refine awp_seq ?_
  refine w_reg ?_
  rcases oi hf with ⟨c3, hf⟩ | ⟨c3, hf⟩
  · obtain ⟨r_4, er5, hf⟩ := ob hf
    refine s_do (o_mov (.lst 3 (list_1.map encGMut)) rfl) ?_
    refine s_dof (o_len (enc := encGMut) rfl) fun hl2 => ?_
    refine s_do (o_q (.bool (decide ((list_1.length : Int) ≤ 8))) rfl rfl rfl) ?_
    refine s_do (o_mov (.bool (decide ((list_1.length : Int) ≤ 8))) rfl) ?_
    refine s_lit (s := 6) (b := true) rfl c3 ?_
    refine s_on rfl ?_
    refine s_do (o_mov (.lst 3 (list_1.map encGMut)) rfl) ?_
    refine s_on rfl ?_
    refine s_do (o_call (w_slices_ContainsFunc_impl_Mut_impl_Mut _ _ _ er5 80 [] (by kernel_rfl) (fun _ _ => rfl) (fun _ => rfl) (fun a0 r h => w_impl_mutsOK_1 a0 r h)) rfl (.refl _) rfl) ?_
    refine s_on rfl ?_
    refine s_do (o_q (.bool (!r_4)) rfl trivial rfl) ?_
    refine s_do (o_q (.bool (!r_4)) rfl trivial rfl) ?_
    refine s_do (o_mov (.bool (!r_4)) rfl) ?_
    refine w_done ?_
    refine k_seq ?_
    refine w_ret ?_
    obtain rfl := os hf
    exact r_flat ⟨trivial, trivial⟩ rfl (.refl _)
  · refine s_do (o_mov (.lst 3 (list_1.map encGMut)) rfl) ?_
    refine s_dof (o_len (enc := encGMut) rfl) fun hl2 => ?_
    refine s_do (o_q (.bool (decide ((list_1.length : Int) ≤ 8))) rfl rfl rfl) ?_
    refine s_do (o_mov (.bool (decide ((list_1.length : Int) ≤ 8))) rfl) ?_
    refine s_lit (s := 6) (b := false) rfl (bf c3) ?_
    refine s_off rfl rfl ?_
    refine s_off rfl rfl ?_
    refine s_off rfl rfl ?_
    refine s_do (o_q (.bool false) rfl trivial rfl) ?_
    refine s_do (o_mov (.bool false) rfl) ?_
    refine w_done ?_
    refine k_seq ?_
    refine w_ret ?_
    obtain rfl := os hf
    exact r_flat ⟨trivial, trivial⟩ rfl (.refl _)

/- slices.IndexFunc[[]impl.Set,impl.Set] -/
def c116 : ACode :=
 (.seq (.reg (.q ⟨(some 4), none, .mov (.c (.int .i64 0))⟩
 .done))
 (.seq (.seq (.reg (.q ⟨(some 6), none, .mov (.t 0)⟩
 (.q ⟨(some 7), none, .len (.t 6)⟩
 (.q ⟨(some 8), none, .mov (.c (.int .i64 0))⟩
 .done))))
 (.block 0 (.loop (.seq (.reg (.q ⟨(some 9), none, .bin .lss (.t 8) (.t 7)⟩
 .done))
 (.seq (.cond (.t 9) .skip
 (.exit 0))
 (.seq (.block 1 (.seq (.reg (.q ⟨(some 10), none, .mov (.t 8)⟩
 (.q ⟨(some 5), none, .mov (.t 10)⟩
 .done)))
 (.seq (.reg (.q ⟨(some 11), none, .mov (.t 1)⟩
 (.q ⟨(some 12), none, .mov (.t 0)⟩
 (.q ⟨(some 13), none, .mov (.t 5)⟩
 (.q ⟨(some 14), none, .iaddr 3 (.t 12) (.t 13)⟩
 (.q ⟨(some 15), none, .load 3 true (.t 14)⟩
 (.q ⟨(some 16), none, .calv (.t 11) [(.t 15)]⟩
 .done)))))))
 (.cond (.t 16) (.seq (.reg (.q ⟨(some 17), none, .mov (.t 5)⟩
 (.q ⟨(some 4), none, .mov (.t 17)⟩
 .done)))
 .ret)
 .skip))))
 (.reg (.q ⟨(some 18), none, .bin .add (.t 8) (.c (.int .i64 1))⟩
 (.q ⟨(some 8), none, .mov (.t 18)⟩
 .done)))))))))
 (.cut (.seq (.reg (.q ⟨(some 4), none, .mov (.c (.int .i64 (-1)))⟩
 .done))
 .ret))))
theorem fc116 : fcomp Try.prog Try.f116 = some (c116.erase, [.mov (.t 4)], 19) := by kernel_rfl
def slices_IndexFunc_impl_Set_impl_Set_L1 (f_2 : (GSet → Option Bool)) : List GSet → Nat → Option (Fl Int Unit)
  | [], s8_17 =>
    some (.go ())
  | x_31 :: xs, s8_17 =>
    (f_2 x_31).bind fun r_32 =>
    if r_32 then
    some (.ret (s8_17 : Int))
    else
    slices_IndexFunc_impl_Set_impl_Set_L1 f_2 xs (s8_17 + 1)

def slices_IndexFunc_impl_Set_impl_Set (s_1 : (List GSet)) (f_2 : (GSet → Option Bool)) : Option Int :=
    (slices_IndexFunc_impl_Set_impl_Set_L1 f_2 s_1 0).bind fun q => (match q with
    | .ret r => some r
    | .go _ =>
    some (-1))
theorem w_slices_IndexFunc_impl_Set_impl_Set (s_1 : (List GSet)) (f_2 : (GSet → Option Bool)) (r : Int) (hf : slices_IndexFunc_impl_Set_impl_Set s_1 f_2 = some r) (kf_f_2 : Nat) (cf_f_2 : List AV) (okf_f_2 : okFn Try.prog kf_f_2 = true) (hcf_f_2 : ∀ h p, closeWs h p cf_f_2 = some cf_f_2) (hrf_f_2 : ∀ f, rens f cf_f_2 = cf_f_2) (hpf_f_2 : ∀ a0 r, f_2 a0 = some r → CallOK Try.prog kf_f_2 .flat ([(encGSet a0)] ++ cf_f_2) (.bool r)) : CallOK Try.prog 116 .flat [(.lst 3 (s_1.map encGSet)), (.fn kf_f_2 cf_f_2)] (.int .i64 r) := by
 refine CallOK.of_awp mixed Try.func116 fc116 nle ?_; rw [argT_eq]; unfold slices_IndexFunc_impl_Set_impl_Set at hf; unfold c116; refine (show awp Try.prog false 0 _ (ofL [(0, (.lst 3 (s_1.map encGSet))), (1, (.fn kf_f_2 cf_f_2))]) [] _ from ?_); refine awp_seq ?_; refine w_reg ?_; refine s_do (o_mov (.int .i64 0) rfl) ?_; refine w_done ?_; refine k_seq ?_; refine awp_seq ?_; refine awp_seq ?_; refine w_reg ?_; refine s_do (o_mov (.lst 3 (s_1.map encGSet)) rfl) ?_; refine s_dof (o_len (enc := encGSet) rfl) fun hl3 => ?_; refine s_do (o_mov (.int .i64 0) rfl) ?_; refine w_done ?_; refine k_seq ?_
 obtain ⟨p24, hb1, hf⟩ := ob hf
 refine awp_cutx (X := {q : Unit // p24 = .go q}) (fun q => ([], [])) ?_ ?_
 ·refine awp_loop (X := {q : Nat // slices_IndexFunc_impl_Set_impl_Set_L1 f_2 (s_1.drop q) q = some p24}) (fun q => ([(0, (.lst 3 (s_1.map encGSet))), (1, (.fn kf_f_2 cf_f_2)), (7, (.int .i64 (s_1.length : Int))), (8, (.int .i64 (q.1 : Int)))], [])) (fun q => s_1.length - q.1) ⟨0, hb1⟩ ⟨[], [], _, _, rfl, rfl, ⟨.refl _, ⟨.of_eq (congrArg (AV.fn _) (hrf_f_2 _)), ⟨.refl _, ⟨.refl _, trivial⟩⟩⟩⟩, (.refl _)⟩ ?_
  rintro ⟨s8_17, hc1⟩
  have hc1 : slices_IndexFunc_impl_Set_impl_Set_L1 f_2 (s_1.drop s8_17) s8_17 = some p24 := hc1
  refine (show awp Try.prog false 0 _ (ofL [(0, (.lst 3 (s_1.map encGSet))), (1, (.fn kf_f_2 cf_f_2)), (7, (.int .i64 (s_1.length : Int))), (8, (.int .i64 (s8_17 : Int)))]) [] _ from ?_)
  rcases dropc s_1 s8_17 with ⟨hie27, hd30⟩ | ⟨hlt25, x_31, hx26, hd30⟩
  ·rw [hd30, slices_IndexFunc_impl_Set_impl_Set_L1.eq_1] at hc1
   have hq29 := dlf hie27
   refine awp_seq ?_; refine w_reg ?_; refine s_do (o_q (.bool (decide ((s8_17 : Int) < (s_1.length : Int)))) rfl rfl rfl) ?_; refine w_done ?_; refine k_seq ?_; refine awp_seq ?_; refine w_condf rfl hq29 ?_; refine w_exit ?_; refine k_seqx ?_; refine k_loopx ?_; refine k_blkx ?_; obtain rfl := os hc1; exact k_cutn ⟨_, rfl⟩ ⟨[], [], _, _, rfl, rfl, trivial, (.refl _)⟩
  ·rw [hd30, slices_IndexFunc_impl_Set_impl_Set_L1.eq_2] at hc1
   have hq29 := dlt hlt25
   refine awp_seq ?_; refine w_reg ?_; refine s_do (o_q (.bool (decide ((s8_17 : Int) < (s_1.length : Int)))) rfl rfl rfl) ?_; refine w_done ?_; refine k_seq ?_; refine awp_seq ?_; refine w_condt rfl hq29 ?_; refine w_skip ?_; refine k_seq ?_; refine awp_seq ?_; refine w_blk ?_; refine awp_seq ?_; refine w_reg ?_; refine s_do (o_mov (.int .i64 (s8_17 : Int)) rfl) ?_; refine s_do (o_mov (.int .i64 (s8_17 : Int)) rfl) ?_; refine w_done ?_; refine k_seq ?_; refine awp_seq ?_; refine w_reg ?_
   obtain ⟨r_32, er33, hc1⟩ := ob hc1
   refine s_do (o_mov (.fn kf_f_2 cf_f_2) rfl) ?_; refine s_do (o_mov (.lst 3 (s_1.map encGSet)) rfl) ?_; refine s_do (o_mov (.int .i64 (s8_17 : Int)) rfl) ?_; refine s_do (o_iaddrn (enc := encGSet) rfl rfl hx26) ?_; refine s_do (o_q (encGSet x_31) rfl nle rfl) ?_; refine s_do (o_calvp (v := (.bool r_32)) rfl okf_f_2 hcf_f_2 (hpf_f_2 _ _ er33) rfl (.refl _) rfl) ?_; refine w_done ?_; refine k_seq ?_
   rcases oi hc1 with ⟨c34, hc1⟩ | ⟨c34, hc1⟩
   ·refine w_condt rfl c34 ?_; refine awp_seq ?_; refine w_reg ?_; refine s_do (o_mov (.int .i64 (s8_17 : Int)) rfl) ?_; refine s_do (o_mov (.int .i64 (s8_17 : Int)) rfl) ?_; refine w_done ?_; refine k_seq ?_; refine w_ret ?_; obtain rfl := os hc1; obtain rfl := os hf; exact r_flat ⟨trivial, trivial⟩ rfl (.refl _)
   ·refine w_condf rfl (bf c34) ?_; refine w_skip ?_; refine k_blk ?_; refine k_seq ?_; refine w_reg ?_; refine s_do (o_q (.int .i64 (w64 ((s8_17 : Int) + 1))) rfl rfl rfl) ?_; refine s_do (o_mov (.int .i64 (w64 ((s8_17 : Int) + 1))) rfl) ?_; refine w_done ?_; exact k_loopn ⟨(s8_17 + 1), hc1⟩ (mul hlt25) ⟨[], [], _, _, rfl, rfl, ⟨.refl _, ⟨.of_eq (congrArg (AV.fn _) (hrf_f_2 _)), ⟨.refl _, ⟨.of_eq (congrArg (AV.int _) (w64_incr hlt25 hl3)), trivial⟩⟩⟩⟩, (.refl _)⟩
 ·rintro ⟨_, rfl⟩
  refine awp_seq ?_; refine w_reg ?_; refine s_do (o_mov (.int .i64 (-1)) rfl) ?_; refine w_done ?_; refine k_seq ?_; refine w_ret ?_; obtain rfl := os hf; exact r_flat ⟨trivial, trivial⟩ rfl (.refl _)

/- slices.ContainsFunc[[]impl.Set,impl.Set] -/
def c81 : ACode :=
 (.seq (.reg (.q ⟨(some 4), none, .mov (.c (.bool false))⟩
 .done))
 (.seq (.reg (.q ⟨(some 5), none, .mov (.t 0)⟩
 (.q ⟨(some 6), none, .mov (.t 1)⟩
 (.q ⟨(some 7), none, .call 116 [(.t 5), (.t 6)]⟩
 (.q ⟨(some 8), none, .bin .geq (.t 7) (.c (.int .i64 0))⟩
 (.q ⟨(some 4), none, .mov (.t 8)⟩
 .done))))))
 .ret))
theorem fc81 : fcomp Try.prog Try.f81 = some (c81.erase, [.mov (.t 4)], 9) := by kernel_rfl
def slices_ContainsFunc_impl_Set_impl_Set (s_1 : (List GSet)) (f_2 : (GSet → Option Bool)) : Option Bool :=
    (slices_IndexFunc_impl_Set_impl_Set s_1 f_2).bind fun r_3 =>
    some (decide (r_3 ≥ 0))
theorem w_slices_ContainsFunc_impl_Set_impl_Set (s_1 : (List GSet)) (f_2 : (GSet → Option Bool)) (r : Bool) (hf : slices_ContainsFunc_impl_Set_impl_Set s_1 f_2 = some r) (kf_f_2 : Nat) (cf_f_2 : List AV) (okf_f_2 : okFn Try.prog kf_f_2 = true) (hcf_f_2 : ∀ h p, closeWs h p cf_f_2 = some cf_f_2) (hrf_f_2 : ∀ f, rens f cf_f_2 = cf_f_2) (hpf_f_2 : ∀ a0 r, f_2 a0 = some r → CallOK Try.prog kf_f_2 .flat ([(encGSet a0)] ++ cf_f_2) (.bool r)) : CallOK Try.prog 81 .flat [(.lst 3 (s_1.map encGSet)), (.fn kf_f_2 cf_f_2)] (.bool r) := by
  refine CallOK.of_awp mixed Try.func81 fc81 nle ?_
  rw [argT_eq]
  unfold slices_ContainsFunc_impl_Set_impl_Set at hf
  unfold c81
  refine (show awp Try.prog false 0 _ (ofL [(0, (.lst 3 (s_1.map encGSet))), (1, (.fn kf_f_2 cf_f_2))]) [] _ from ?_)
  refine awp_seq ?_
  refine w_reg ?_
  refine s_do (o_mov (.bool false) rfl) ?_
  refine w_done ?_
  refine k_seq ?_
  refine awp_seq ?_
  refine w_reg ?_
  obtain ⟨r_3, er4, hf⟩ := ob hf
  refine s_do (o_mov (.lst 3 (s_1.map encGSet)) rfl) ?_
  refine s_do (o_mov (.fn kf_f_2 cf_f_2) rfl) ?_
  refine s_do (o_call (w_slices_IndexFunc_impl_Set_impl_Set _ _ _ er4 kf_f_2 cf_f_2 okf_f_2 hcf_f_2 hrf_f_2 hpf_f_2) (cls_cons rfl (cls_cons (cls_fn hcf_f_2) rfl)) (.refl _) rfl) ?_
  refine s_do (o_q (.bool (decide (r_3 ≥ 0))) rfl rfl rfl) ?_
  refine s_do (o_mov (.bool (decide (r_3 ≥ 0))) rfl) ?_
  refine w_done ?_
  refine k_seq ?_
  refine w_ret ?_
  obtain rfl := os hf
  exact r_flat ⟨trivial, trivial⟩ rfl (.refl _)

/- impl.isDigit -/
def c125 : ACode :=
 (.seq (.reg (.q ⟨(some 2), none, .mov (.c (.bool false))⟩
 .done))
 (.seq (.reg (.q ⟨(some 3), none, .mov (.t 0)⟩
 (.q ⟨(some 4), none, .bin .geq (.t 3) (.c (.int .u8 48))⟩
 (.q ⟨(some 5), none, .mov (.t 4)⟩
 (.q ⟨(some 6), (some (5, true)), .mov (.t 0)⟩
 (.q ⟨(some 7), (some (5, true)), .bin .leq (.t 6) (.c (.int .u8 57))⟩
 (.q ⟨(some 8), none, .pick (.t 5) (.t 7) (.c (.bool false))⟩
 (.q ⟨(some 2), none, .mov (.t 8)⟩
 .done))))))))
 .ret))
theorem fc125 : fcomp Try.prog Try.f125 = some (c125.erase, [.mov (.t 2)], 9) := by kernel_rfl
def impl_isDigit (b_1 : Int) : Option Bool :=
    if (decide (b_1 ≥ 48)) then
    some (decide (b_1 ≤ 57))
    else
    some false
theorem w_impl_isDigit (b_1 : Int) (r : Bool) (hf : impl_isDigit b_1 = some r) : CallOK Try.prog 125 .flat [(.int .u8 b_1)] (.bool r) := by
  refine CallOK.of_awp mixed Try.func125 fc125 nle ?_
  rw [argT_eq]
  unfold impl_isDigit at hf
  unfold c125
  refine (show awp Try.prog false 0 _ (ofL [(0, (.int .u8 b_1))]) [] _ from ?_)
  refine awp_seq ?_
  refine w_reg ?_
  refine s_do (o_mov (.bool false) rfl) ?_
  refine w_done ?_
  refine k_seq ?_
  refine awp_seq ?_
  refine w_reg ?_
  rcases oi hf with ⟨c2, hf⟩ | ⟨c2, hf⟩
  · refine s_do (o_mov (.int .u8 b_1) rfl) ?_
    refine s_do (o_q (.bool (decide (b_1 ≥ 48))) rfl rfl rfl) ?_
    refine s_do (o_mov (.bool (decide (b_1 ≥ 48))) rfl) ?_
    refine s_lit (s := 5) (b := true) rfl c2 ?_
    refine s_on rfl ?_
    refine s_do (o_mov (.int .u8 b_1) rfl) ?_
    refine s_on rfl ?_
    refine s_do (o_q (.bool (decide (b_1 ≤ 57))) rfl rfl rfl) ?_
    refine s_do (o_q (.bool (decide (b_1 ≤ 57))) rfl trivial rfl) ?_
    refine s_do (o_mov (.bool (decide (b_1 ≤ 57))) rfl) ?_
    refine w_done ?_
    refine k_seq ?_
    refine w_ret ?_
    obtain rfl := os hf
    exact r_flat ⟨trivial, trivial⟩ rfl (.refl _)
  · refine s_do (o_mov (.int .u8 b_1) rfl) ?_
    refine s_do (o_q (.bool (decide (b_1 ≥ 48))) rfl rfl rfl) ?_
    refine s_do (o_mov (.bool (decide (b_1 ≥ 48))) rfl) ?_
    refine s_lit (s := 5) (b := false) rfl (bf c2) ?_
    refine s_off rfl rfl ?_
    refine s_off rfl rfl ?_
    refine s_do (o_q (.bool false) rfl trivial rfl) ?_
    refine s_do (o_mov (.bool false) rfl) ?_
    refine w_done ?_
    refine k_seq ?_
    refine w_ret ?_
    obtain rfl := os hf
    exact r_flat ⟨trivial, trivial⟩ rfl (.refl _)

/- impl.NameOK -/
def c104 : ACode :=
 (.seq (.reg (.q ⟨(some 2), none, .mov (.c (.bool false))⟩
 .done))
 (.seq (.seq (.reg (.q ⟨(some 6), none, .mov (.t 0)⟩
 (.q ⟨(some 7), none, .lenS (.t 6)⟩
 (.q ⟨(some 8), none, .mov (.c (.int .i64 0))⟩
 .done))))
 (.block 0 (.loop (.seq (.reg (.q ⟨(some 9), none, .bin .lss (.t 8) (.t 7)⟩
 .done))
 (.seq (.cond (.t 9) .skip
 (.exit 0))
 (.seq (.block 1 (.seq (.reg (.q ⟨(some 10), none, .mov (.t 8)⟩
 (.q ⟨(some 3), none, .mov (.t 10)⟩
 .done)))
 (.seq (.reg (.q ⟨(some 11), none, .mov (.t 0)⟩
 (.q ⟨(some 12), none, .mov (.t 3)⟩
 (.q ⟨(some 13), none, .idxs (.t 11) (.t 12)⟩
 (.q ⟨(some 4), none, .mov (.t 13)⟩
 .done)))))
 (.seq (.reg (.q ⟨(some 14), none, .mov (.t 4)⟩
 (.q ⟨(some 15), none, .bin .geq (.t 14) (.c (.int .u8 97))⟩
 (.q ⟨(some 16), none, .mov (.t 15)⟩
 (.q ⟨(some 17), (some (16, true)), .mov (.t 4)⟩
 (.q ⟨(some 18), (some (16, true)), .bin .leq (.t 17) (.c (.int .u8 122))⟩
 (.q ⟨(some 19), none, .pick (.t 16) (.t 18) (.c (.bool false))⟩
 (.q ⟨(some 20), none, .mov (.t 19)⟩
 (.q ⟨(some 21), (some (20, false)), .mov (.t 4)⟩
 (.q ⟨(some 22), (some (20, false)), .bin .geq (.t 21) (.c (.int .u8 65))⟩
 (.q ⟨(some 23), (some (20, false)), .mov (.t 22)⟩
 (.q ⟨(some 24), (some (23, true)), .mov (.t 4)⟩
 (.q ⟨(some 25), (some (23, true)), .bin .leq (.t 24) (.c (.int .u8 90))⟩
 (.q ⟨(some 26), (some (20, false)), .pick (.t 23) (.t 25) (.c (.bool false))⟩
 (.q ⟨(some 27), none, .pick (.t 20) (.c (.bool true)) (.t 26)⟩
 (.q ⟨(some 28), none, .mov (.t 27)⟩
 (.q ⟨(some 29), (some (28, false)), .mov (.t 4)⟩
 (.q ⟨(some 30), (some (28, false)), .bin .eql (.t 29) (.c (.int .u8 95))⟩
 (.q ⟨(some 31), none, .pick (.t 28) (.c (.bool true)) (.t 30)⟩
 (.q ⟨(some 5), none, .mov (.t 31)⟩
 .done))))))))))))))))))))
 (.cut (.seq (.reg (.q ⟨(some 32), none, .mov (.t 5)⟩
 (.q ⟨(some 33), none, .not (.t 32)⟩
 (.q ⟨(some 34), none, .mov (.t 33)⟩
 (.q ⟨(some 35), (some (34, true)), .mov (.t 3)⟩
 (.q ⟨(some 36), (some (34, true)), .bin .eql (.t 35) (.c (.int .i64 0))⟩
 (.q ⟨(some 37), (some (34, true)), .mov (.t 36)⟩
 (.q ⟨(some 38), (some (37, false)), .mov (.t 4)⟩
 (.q ⟨(some 39), (some (37, false)), .call 125 [(.t 38)]⟩
 (.q ⟨(some 40), (some (37, false)), .not (.t 39)⟩
 (.q ⟨(some 41), (some (34, true)), .pick (.t 37) (.c (.bool true)) (.t 40)⟩
 (.q ⟨(some 42), none, .pick (.t 34) (.t 41) (.c (.bool false))⟩
 .done))))))))))))
 (.cut (.cond (.t 42) (.seq (.reg (.q ⟨(some 2), none, .mov (.c (.bool false))⟩
 .done))
 .ret)
 .skip))))))))
 (.reg (.q ⟨(some 43), none, .bin .add (.t 8) (.c (.int .i64 1))⟩
 (.q ⟨(some 8), none, .mov (.t 43)⟩
 .done)))))))))
 (.cut (.seq (.reg (.q ⟨(some 44), none, .mov (.t 0)⟩
 (.q ⟨(some 45), none, .lenS (.t 44)⟩
 (.q ⟨(some 46), none, .call 92 [(.t 45), (.c (.int .i64 1)), (.c (.int .i64 40))]⟩
 (.q ⟨(some 2), none, .mov (.t 46)⟩
 .done)))))
 .ret))))
theorem fc104 : fcomp Try.prog Try.f104 = some (c104.erase, [.mov (.t 2)], 47) := by kernel_rfl
def impl_NameOK_L1  : List UInt8 → Nat → Option (Fl Bool Unit)
  | [], s8_60 =>
    some (.go ())
  | x_96 :: xs, s8_60 =>
    ((if (decide ((x_96.toNat : Int) ≥ 97)) then
    if (decide ((x_96.toNat : Int) ≤ 122)) then
    some true
    else
    if (decide ((x_96.toNat : Int) ≥ 65)) then
    if (decide ((x_96.toNat : Int) ≤ 90)) then
    some true
    else
    some ((x_96.toNat : Int) == 95)
    else
    some ((x_96.toNat : Int) == 95)
    else
    if (decide ((x_96.toNat : Int) ≥ 65)) then
    if (decide ((x_96.toNat : Int) ≤ 90)) then
    some true
    else
    some ((x_96.toNat : Int) == 95)
    else
    some ((x_96.toNat : Int) == 95) : Option Bool)).bind fun letter_103 =>
    ((if (!letter_103) then
    if ((s8_60 : Int) == 0) then
    some true
    else
    (impl_isDigit (x_96.toNat : Int)).bind fun r_119 =>
    some (!r_119)
    else
    some false : Option Bool)).bind fun s42_115 =>
    if s42_115 then
    some (.ret false)
    else
    impl_NameOK_L1 xs (s8_60 + 1)

def impl_NameOK (t_1 : Str) : Option Bool :=
    (impl_NameOK_L1 t_1 0).bind fun q => (match q with
    | .ret r => some r
    | .go _ =>
    (impl_within (t_1.length : Int) 1 40).bind fun r_123 =>
    some r_123)
theorem w_impl_NameOK (t_1 : Str) (r : Bool) (hf : impl_NameOK t_1 = some r) : CallOK Try.prog 104 .flat [(.str t_1)] (.bool r) := by
 refine CallOK.of_awp mixed Try.func104 fc104 nle ?_; rw [argT_eq]; unfold impl_NameOK at hf; unfold c104; refine (show awp Try.prog false 0 _ (ofL [(0, (.str t_1))]) [] _ from ?_); refine awp_seq ?_; refine w_reg ?_; refine s_do (o_mov (.bool false) rfl) ?_; refine w_done ?_; refine k_seq ?_; refine awp_seq ?_; refine awp_seq ?_; refine w_reg ?_; refine s_do (o_mov (.str t_1) rfl) ?_; refine s_dof (o_lenS rfl) fun hl2 => ?_; refine s_do (o_mov (.int .i64 0) rfl) ?_; refine w_done ?_; refine k_seq ?_
 obtain ⟨p89, hb1, hf⟩ := ob hf
 refine awp_cutx (X := {q : Unit // p89 = .go q}) (fun q => ([(0, (.str t_1))], [])) ?_ ?_
 ·refine awp_loop (X := {q : Nat // impl_NameOK_L1 (t_1.drop q) q = some p89}) (fun q => ([(0, (.str t_1)), (7, (.int .i64 (t_1.length : Int))), (8, (.int .i64 (q.1 : Int)))], [])) (fun q => t_1.length - q.1) ⟨0, hb1⟩ ⟨[], [], _, _, rfl, rfl, ⟨.refl _, ⟨.refl _, ⟨.refl _, trivial⟩⟩⟩, (.refl _)⟩ ?_
  rintro ⟨s8_60, hc1⟩
  have hc1 : impl_NameOK_L1 (t_1.drop s8_60) s8_60 = some p89 := hc1
  refine (show awp Try.prog false 0 _ (ofL [(0, (.str t_1)), (7, (.int .i64 (t_1.length : Int))), (8, (.int .i64 (s8_60 : Int)))]) [] _ from ?_)
  rcases dropc t_1 s8_60 with ⟨hie92, hd95⟩ | ⟨hlt90, x_96, hx91, hd95⟩
  ·rw [hd95, impl_NameOK_L1.eq_1] at hc1
   have hq94 := dlf hie92
   refine awp_seq ?_; refine w_reg ?_; refine s_do (o_q (.bool (decide ((s8_60 : Int) < (t_1.length : Int)))) rfl rfl rfl) ?_; refine w_done ?_; refine k_seq ?_; refine awp_seq ?_; refine w_condf rfl hq94 ?_; refine w_exit ?_; refine k_seqx ?_; refine k_loopx ?_; refine k_blkx ?_; obtain rfl := os hc1; exact k_cutn ⟨_, rfl⟩ ⟨[], [], _, _, rfl, rfl, ⟨.refl _, trivial⟩, (.refl _)⟩
  ·rw [hd95, impl_NameOK_L1.eq_2] at hc1
   have hq94 := dlt hlt90
   refine awp_seq ?_; refine w_reg ?_; refine s_do (o_q (.bool (decide ((s8_60 : Int) < (t_1.length : Int)))) rfl rfl rfl) ?_; refine w_done ?_; refine k_seq ?_; refine awp_seq ?_; refine w_condt rfl hq94 ?_; refine w_skip ?_; refine k_seq ?_; refine awp_seq ?_; refine w_blk ?_; refine awp_seq ?_; refine w_reg ?_; refine s_do (o_mov (.int .i64 (s8_60 : Int)) rfl) ?_; refine s_do (o_mov (.int .i64 (s8_60 : Int)) rfl) ?_; refine w_done ?_; refine k_seq ?_; refine awp_seq ?_; refine w_reg ?_; refine s_do (o_mov (.str t_1) rfl) ?_; refine s_do (o_mov (.int .i64 (s8_60 : Int)) rfl) ?_; refine s_do (o_idxsn rfl rfl hx91) ?_
   refine s_do (o_mov (.int .u8 (x_96.toNat : Int)) rfl) ?_; refine w_done ?_; refine k_seq ?_; refine awp_seq ?_
   obtain ⟨letter_103, hb2, hc1⟩ := ob hc1
   refine awp_cut ([(0, (.str t_1)), (3, (.int .i64 (s8_60 : Int))), (4, (.int .u8 (x_96.toNat : Int))), (5, (.bool letter_103)), (7, (.int .i64 (t_1.length : Int))), (8, (.int .i64 (s8_60 : Int)))], []) ?_ ?_
   ·refine w_reg ?_; refine s_do (o_mov (.int .u8 (x_96.toNat : Int)) rfl) ?_; refine s_do (o_q (.bool (decide ((x_96.toNat : Int) ≥ 97))) rfl rfl rfl) ?_; refine s_do (o_mov (.bool (decide ((x_96.toNat : Int) ≥ 97))) rfl) ?_
    rcases oi hb2 with ⟨c105, hb2⟩ | ⟨c105, hb2⟩
    ·refine s_lit (s := 16) (b := true) rfl c105 ?_; refine s_on rfl ?_; refine s_do (o_mov (.int .u8 (x_96.toNat : Int)) rfl) ?_; refine s_on rfl ?_; refine s_do (o_q (.bool (decide ((x_96.toNat : Int) ≤ 122))) rfl rfl rfl) ?_; refine s_do (o_q (.bool (decide ((x_96.toNat : Int) ≤ 122))) rfl trivial rfl) ?_; refine s_do (o_mov (.bool (decide ((x_96.toNat : Int) ≤ 122))) rfl) ?_
     rcases oi hb2 with ⟨c106, hb2⟩ | ⟨c106, hb2⟩
     ·refine s_lit (s := 20) (b := true) rfl c106 ?_; refine s_off rfl rfl ?_; refine s_off rfl rfl ?_; refine s_off rfl rfl ?_; refine s_offs rfl ?_; refine s_offs rfl ?_; refine s_off rfl rfl ?_; refine s_do (o_q (.bool true) rfl trivial rfl) ?_; refine s_do (o_mov (.bool true) rfl) ?_; refine s_off rfl rfl ?_; refine s_off rfl rfl ?_; refine s_do (o_q (.bool true) rfl trivial rfl) ?_; refine s_do (o_mov (.bool true) rfl) ?_; refine w_done ?_; obtain rfl := os hb2; exact ⟨[], [], _, _, rfl, rfl, ⟨.refl _, ⟨.refl _, ⟨.refl _, ⟨.refl _, ⟨.refl _, ⟨.refl _, trivial⟩⟩⟩⟩⟩⟩, (.refl _)⟩
     ·refine s_lit (s := 20) (b := false) rfl (bf c106) ?_; refine s_on rfl ?_; refine s_do (o_mov (.int .u8 (x_96.toNat : Int)) rfl) ?_; refine s_on rfl ?_; refine s_do (o_q (.bool (decide ((x_96.toNat : Int) ≥ 65))) rfl rfl rfl) ?_; refine s_on rfl ?_; refine s_do (o_mov (.bool (decide ((x_96.toNat : Int) ≥ 65))) rfl) ?_
      rcases oi hb2 with ⟨c107, hb2⟩ | ⟨c107, hb2⟩
      ·refine s_lit (s := 23) (b := true) rfl c107 ?_; refine s_on rfl ?_; refine s_do (o_mov (.int .u8 (x_96.toNat : Int)) rfl) ?_; refine s_on rfl ?_; refine s_do (o_q (.bool (decide ((x_96.toNat : Int) ≤ 90))) rfl rfl rfl) ?_; refine s_on rfl ?_; refine s_do (o_q (.bool (decide ((x_96.toNat : Int) ≤ 90))) rfl trivial rfl) ?_; refine s_do (o_q (.bool (decide ((x_96.toNat : Int) ≤ 90))) rfl trivial rfl) ?_; refine s_do (o_mov (.bool (decide ((x_96.toNat : Int) ≤ 90))) rfl) ?_
       rcases oi hb2 with ⟨c108, hb2⟩ | ⟨c108, hb2⟩
       ·refine s_lit (s := 28) (b := true) rfl c108 ?_; refine s_off rfl rfl ?_; refine s_off rfl rfl ?_; refine s_do (o_q (.bool true) rfl trivial rfl) ?_; refine s_do (o_mov (.bool true) rfl) ?_; refine w_done ?_; obtain rfl := os hb2; exact ⟨[], [], _, _, rfl, rfl, ⟨.refl _, ⟨.refl _, ⟨.refl _, ⟨.refl _, ⟨.refl _, ⟨.refl _, trivial⟩⟩⟩⟩⟩⟩, (.refl _)⟩
       ·refine s_lit (s := 28) (b := false) rfl (bf c108) ?_; refine s_on rfl ?_; refine s_do (o_mov (.int .u8 (x_96.toNat : Int)) rfl) ?_; refine s_on rfl ?_; refine s_do (o_q (.bool ((x_96.toNat : Int) == 95)) rfl rfl rfl) ?_; refine s_do (o_q (.bool ((x_96.toNat : Int) == 95)) rfl trivial rfl) ?_; refine s_do (o_mov (.bool ((x_96.toNat : Int) == 95)) rfl) ?_; refine w_done ?_; obtain rfl := os hb2; exact ⟨[], [], _, _, rfl, rfl, ⟨.refl _, ⟨.refl _, ⟨.refl _, ⟨.refl _, ⟨.refl _, ⟨.refl _, trivial⟩⟩⟩⟩⟩⟩, (.refl _)⟩
      ·refine s_lit (s := 23) (b := false) rfl (bf c107) ?_; refine s_off rfl rfl ?_; refine s_off rfl rfl ?_; refine s_on rfl ?_; refine s_do (o_q (.bool false) rfl trivial rfl) ?_; refine s_do (o_q (.bool false) rfl trivial rfl) ?_; refine s_do (o_mov (.bool false) rfl) ?_; refine s_on rfl ?_; refine s_do (o_mov (.int .u8 (x_96.toNat : Int)) rfl) ?_; refine s_on rfl ?_; refine s_do (o_q (.bool ((x_96.toNat : Int) == 95)) rfl rfl rfl) ?_; refine s_do (o_q (.bool ((x_96.toNat : Int) == 95)) rfl trivial rfl) ?_; refine s_do (o_mov (.bool ((x_96.toNat : Int) == 95)) rfl) ?_; refine w_done ?_; obtain rfl := os hb2
       exact ⟨[], [], _, _, rfl, rfl, ⟨.refl _, ⟨.refl _, ⟨.refl _, ⟨.refl _, ⟨.refl _, ⟨.refl _, trivial⟩⟩⟩⟩⟩⟩, (.refl _)⟩
    ·refine s_lit (s := 16) (b := false) rfl (bf c105) ?_; refine s_off rfl rfl ?_; refine s_off rfl rfl ?_; refine s_do (o_q (.bool false) rfl trivial rfl) ?_; refine s_do (o_mov (.bool false) rfl) ?_; refine s_on rfl ?_; refine s_do (o_mov (.int .u8 (x_96.toNat : Int)) rfl) ?_; refine s_on rfl ?_; refine s_do (o_q (.bool (decide ((x_96.toNat : Int) ≥ 65))) rfl rfl rfl) ?_; refine s_on rfl ?_; refine s_do (o_mov (.bool (decide ((x_96.toNat : Int) ≥ 65))) rfl) ?_
     rcases oi hb2 with ⟨c109, hb2⟩ | ⟨c109, hb2⟩
     ·refine s_lit (s := 23) (b := true) rfl c109 ?_; refine s_on rfl ?_; refine s_do (o_mov (.int .u8 (x_96.toNat : Int)) rfl) ?_; refine s_on rfl ?_; refine s_do (o_q (.bool (decide ((x_96.toNat : Int) ≤ 90))) rfl rfl rfl) ?_; refine s_on rfl ?_; refine s_do (o_q (.bool (decide ((x_96.toNat : Int) ≤ 90))) rfl trivial rfl) ?_; refine s_do (o_q (.bool (decide ((x_96.toNat : Int) ≤ 90))) rfl trivial rfl) ?_; refine s_do (o_mov (.bool (decide ((x_96.toNat : Int) ≤ 90))) rfl) ?_
      rcases oi hb2 with ⟨c110, hb2⟩ | ⟨c110, hb2⟩
      ·refine s_lit (s := 28) (b := true) rfl c110 ?_; refine s_off rfl rfl ?_; refine s_off rfl rfl ?_; refine s_do (o_q (.bool true) rfl trivial rfl) ?_; refine s_do (o_mov (.bool true) rfl) ?_; refine w_done ?_; obtain rfl := os hb2; exact ⟨[], [], _, _, rfl, rfl, ⟨.refl _, ⟨.refl _, ⟨.refl _, ⟨.refl _, ⟨.refl _, ⟨.refl _, trivial⟩⟩⟩⟩⟩⟩, (.refl _)⟩
      ·refine s_lit (s := 28) (b := false) rfl (bf c110) ?_; refine s_on rfl ?_; refine s_do (o_mov (.int .u8 (x_96.toNat : Int)) rfl) ?_; refine s_on rfl ?_; refine s_do (o_q (.bool ((x_96.toNat : Int) == 95)) rfl rfl rfl) ?_; refine s_do (o_q (.bool ((x_96.toNat : Int) == 95)) rfl trivial rfl) ?_; refine s_do (o_mov (.bool ((x_96.toNat : Int) == 95)) rfl) ?_; refine w_done ?_; obtain rfl := os hb2; exact ⟨[], [], _, _, rfl, rfl, ⟨.refl _, ⟨.refl _, ⟨.refl _, ⟨.refl _, ⟨.refl _, ⟨.refl _, trivial⟩⟩⟩⟩⟩⟩, (.refl _)⟩
     ·refine s_lit (s := 23) (b := false) rfl (bf c109) ?_; refine s_off rfl rfl ?_; refine s_off rfl rfl ?_; refine s_on rfl ?_; refine s_do (o_q (.bool false) rfl trivial rfl) ?_; refine s_do (o_q (.bool false) rfl trivial rfl) ?_; refine s_do (o_mov (.bool false) rfl) ?_; refine s_on rfl ?_; refine s_do (o_mov (.int .u8 (x_96.toNat : Int)) rfl) ?_; refine s_on rfl ?_; refine s_do (o_q (.bool ((x_96.toNat : Int) == 95)) rfl rfl rfl) ?_; refine s_do (o_q (.bool ((x_96.toNat : Int) == 95)) rfl trivial rfl) ?_; refine s_do (o_mov (.bool ((x_96.toNat : Int) == 95)) rfl) ?_; refine w_done ?_; obtain rfl := os hb2
      exact ⟨[], [], _, _, rfl, rfl, ⟨.refl _, ⟨.refl _, ⟨.refl _, ⟨.refl _, ⟨.refl _, ⟨.refl _, trivial⟩⟩⟩⟩⟩⟩, (.refl _)⟩
   ·refine awp_seq ?_
    obtain ⟨s42_115, hb2, hc1⟩ := ob hc1
    refine awp_cut ([(0, (.str t_1)), (7, (.int .i64 (t_1.length : Int))), (8, (.int .i64 (s8_60 : Int))), (42, (.bool s42_115))], []) ?_ ?_
    ·refine w_reg ?_
     rcases oi hb2 with ⟨c117, hb2⟩ | ⟨c117, hb2⟩
     ·rcases oi hb2 with ⟨c118, hb2⟩ | ⟨c118, hb2⟩
      ·refine s_do (o_mov (.bool letter_103) rfl) ?_; refine s_do (o_q (.bool (!letter_103)) rfl trivial rfl) ?_; refine s_do (o_mov (.bool (!letter_103)) rfl) ?_; refine s_lit (s := 34) (b := true) rfl c117 ?_; refine s_on rfl ?_; refine s_do (o_mov (.int .i64 (s8_60 : Int)) rfl) ?_; refine s_on rfl ?_; refine s_do (o_q (.bool ((s8_60 : Int) == 0)) rfl rfl rfl) ?_; refine s_on rfl ?_; refine s_do (o_mov (.bool ((s8_60 : Int) == 0)) rfl) ?_; refine s_lit (s := 37) (b := true) rfl c118 ?_; refine s_off rfl rfl ?_; refine s_off rfl rfl ?_; refine s_off rfl rfl ?_; refine s_on rfl ?_; refine s_do (o_q (.bool true) rfl trivial rfl) ?_
       refine s_do (o_q (.bool true) rfl trivial rfl) ?_; refine w_done ?_; obtain rfl := os hb2; exact ⟨[], [], _, _, rfl, rfl, ⟨.refl _, ⟨.refl _, ⟨.refl _, ⟨.refl _, trivial⟩⟩⟩⟩, (.refl _)⟩
      ·obtain ⟨r_119, er120, hb2⟩ := ob hb2
       refine s_do (o_mov (.bool letter_103) rfl) ?_; refine s_do (o_q (.bool (!letter_103)) rfl trivial rfl) ?_; refine s_do (o_mov (.bool (!letter_103)) rfl) ?_; refine s_lit (s := 34) (b := true) rfl c117 ?_; refine s_on rfl ?_; refine s_do (o_mov (.int .i64 (s8_60 : Int)) rfl) ?_; refine s_on rfl ?_; refine s_do (o_q (.bool ((s8_60 : Int) == 0)) rfl rfl rfl) ?_; refine s_on rfl ?_; refine s_do (o_mov (.bool ((s8_60 : Int) == 0)) rfl) ?_; refine s_lit (s := 37) (b := false) rfl (bf c118) ?_; refine s_on rfl ?_; refine s_do (o_mov (.int .u8 (x_96.toNat : Int)) rfl) ?_; refine s_on rfl ?_; refine s_do (o_call (w_impl_isDigit _ _ er120) rfl (.refl _) rfl) ?_
       refine s_on rfl ?_; refine s_do (o_q (.bool (!r_119)) rfl trivial rfl) ?_; refine s_on rfl ?_; refine s_do (o_q (.bool (!r_119)) rfl trivial rfl) ?_; refine s_do (o_q (.bool (!r_119)) rfl trivial rfl) ?_; refine w_done ?_; obtain rfl := os hb2; exact ⟨[], [], _, _, rfl, rfl, ⟨.refl _, ⟨.refl _, ⟨.refl _, ⟨.refl _, trivial⟩⟩⟩⟩, (.refl _)⟩
     ·refine s_do (o_mov (.bool letter_103) rfl) ?_; refine s_do (o_q (.bool (!letter_103)) rfl trivial rfl) ?_; refine s_do (o_mov (.bool (!letter_103)) rfl) ?_; refine s_lit (s := 34) (b := false) rfl (bf c117) ?_; refine s_off rfl rfl ?_; refine s_off rfl rfl ?_; refine s_off rfl rfl ?_; refine s_offs rfl ?_; refine s_offs rfl ?_; refine s_offs rfl ?_; refine s_off rfl rfl ?_; refine s_do (o_q (.bool false) rfl trivial rfl) ?_; refine w_done ?_; obtain rfl := os hb2; exact ⟨[], [], _, _, rfl, rfl, ⟨.refl _, ⟨.refl _, ⟨.refl _, ⟨.refl _, trivial⟩⟩⟩⟩, (.refl _)⟩
    ·rcases oi hc1 with ⟨c121, hc1⟩ | ⟨c121, hc1⟩
     ·refine w_condt rfl c121 ?_; refine awp_seq ?_; refine w_reg ?_; refine s_do (o_mov (.bool false) rfl) ?_; refine w_done ?_; refine k_seq ?_; refine w_ret ?_; obtain rfl := os hc1; obtain rfl := os hf; exact r_flat ⟨trivial, trivial⟩ rfl (.refl _)
     ·refine w_condf rfl (bf c121) ?_; refine w_skip ?_; refine k_blk ?_; refine k_seq ?_; refine w_reg ?_; refine s_do (o_q (.int .i64 (w64 ((s8_60 : Int) + 1))) rfl rfl rfl) ?_; refine s_do (o_mov (.int .i64 (w64 ((s8_60 : Int) + 1))) rfl) ?_; refine w_done ?_; exact k_loopn ⟨(s8_60 + 1), hc1⟩ (mul hlt90) ⟨[], [], _, _, rfl, rfl, ⟨.refl _, ⟨.refl _, ⟨.of_eq (congrArg (AV.int _) (w64_incr hlt90 hl2)), trivial⟩⟩⟩, (.refl _)⟩
 ·rintro ⟨_, rfl⟩
  refine awp_seq ?_; refine w_reg ?_
  obtain ⟨r_123, er124, hf⟩ := ob hf
  refine s_do (o_mov (.str t_1) rfl) ?_; refine s_dof (o_lenS rfl) fun hl122 => ?_; refine s_do (o_call (w_impl_within _ _ _ _ er124) rfl (.refl _) rfl) ?_; refine s_do (o_mov (.bool r_123) rfl) ?_; refine w_done ?_; refine k_seq ?_; refine w_ret ?_; obtain rfl := os hf; exact r_flat ⟨trivial, trivial⟩ rfl (.refl _)

/- impl.setOK$1 -/
def c117 : ACode :=
 (.seq (.reg (.q ⟨(some 2), none, .mov (.c (.bool false))⟩
 .done))
 (.seq (.reg (.q ⟨(some 3), none, .mov (.t 0)⟩
 (.q ⟨(some 4), none, .call 104 [(.t 3)]⟩
 (.q ⟨(some 5), none, .not (.t 4)⟩
 (.q ⟨(some 2), none, .mov (.t 5)⟩
 .done)))))
 .ret))
theorem fc117 : fcomp Try.prog Try.f117 = some (c117.erase, [.mov (.t 2)], 6) := by kernel_rfl
def impl_setOK_1 (name_1 : Str) : Option Bool :=
    (impl_NameOK name_1).bind fun r_2 =>
    some (!r_2)
theorem w_impl_setOK_1 (name_1 : Str) (r : Bool) (hf : impl_setOK_1 name_1 = some r) : CallOK Try.prog 117 .flat [(.str name_1)] (.bool r) := by
  refine CallOK.of_awp mixed Try.func117 fc117 nle ?_
  rw [argT_eq]
  unfold impl_setOK_1 at hf
  unfold c117
  refine (show awp Try.prog false 0 _ (ofL [(0, (.str name_1))]) [] _ from ?_)
  refine awp_seq ?_
  refine w_reg ?_
  refine s_do (o_mov (.bool false) rfl) ?_
  refine w_done ?_
  refine k_seq ?_
  refine awp_seq ?_
  refine w_reg ?_
  obtain ⟨r_2, er3, hf⟩ := ob hf
  refine s_do (o_mov (.str name_1) rfl) ?_
  refine s_do (o_call (w_impl_NameOK _ _ er3) rfl (.refl _) rfl) ?_
  refine s_do (o_q (.bool (!r_2)) rfl trivial rfl) ?_
  refine s_do (o_mov (.bool (!r_2)) rfl) ?_
  refine w_done ?_
  refine k_seq ?_
  refine w_ret ?_
  obtain rfl := os hf
  exact r_flat ⟨trivial, trivial⟩ rfl (.refl _)

/- impl.setOK -/
def c83 : ACode :=
 (.seq (.reg (.q ⟨(some 1), none, .box 3 (.t 0)⟩
 (.q ⟨(some 2), none, .mov (.c (.bool false))⟩
 .done)))
 (.seq (.seq (.reg (.q ⟨(some 3), none, .faddr 0 (.t 1)⟩
 (.q ⟨(some 4), none, .load 1 false (.t 3)⟩
 (.q ⟨(some 5), none, .bslice 1 [(.t 4)]⟩
 (.q ⟨(some 6), none, .call 37 [(.t 5)]⟩
 (.q ⟨(some 7), none, .not (.t 6)⟩
 (.q ⟨(some 8), none, .mov (.t 7)⟩
 (.q ⟨(some 9), (some (8, false)), .faddr 1 (.t 1)⟩
 (.q ⟨(some 10), (some (8, false)), .load 1 false (.t 9)⟩
 (.q ⟨(some 11), (some (8, false)), .call 16 [(.t 10)]⟩
 (.q ⟨(some 12), (some (8, false)), .not (.t 11)⟩
 (.q ⟨(some 13), none, .pick (.t 8) (.c (.bool true)) (.t 12)⟩
 (.q ⟨(some 14), none, .mov (.t 13)⟩
 (.q ⟨(some 15), (some (14, false)), .faddr 1 (.t 1)⟩
 (.q ⟨(some 16), (some (14, false)), .load 1 false (.t 15)⟩
 (.q ⟨(some 17), (some (14, false)), .len (.t 16)⟩
 (.q ⟨(some 18), (some (14, false)), .bin .gtr (.t 17) (.c (.int .i64 0))⟩
 (.q ⟨(some 19), (some (14, false)), .mov (.t 18)⟩
 (.q ⟨(some 20), (some (19, true)), .faddr 2 (.t 1)⟩
 (.q ⟨(some 21), (some (19, true)), .load 1 false (.t 20)⟩
 (.q ⟨(some 22), (some (19, true)), .len (.t 21)⟩
 (.q ⟨(some 23), (some (19, true)), .bin .gtr (.t 22) (.c (.int .i64 0))⟩
 (.q ⟨(some 24), (some (14, false)), .pick (.t 19) (.t 23) (.c (.bool false))⟩
 (.q ⟨(some 25), none, .pick (.t 14) (.c (.bool true)) (.t 24)⟩
 (.q ⟨(some 26), none, .mov (.t 25)⟩
 (.q ⟨(some 27), (some (26, false)), .faddr 2 (.t 1)⟩
 (.q ⟨(some 28), (some (26, false)), .load 1 false (.t 27)⟩
 (.q ⟨(some 29), (some (26, false)), .len (.t 28)⟩
 (.q ⟨(some 30), (some (26, false)), .bin .gtr (.t 29) (.c (.int .i64 8))⟩
 (.q ⟨(some 31), none, .pick (.t 26) (.c (.bool true)) (.t 30)⟩
 .done))))))))))))))))))))))))))))))
 (.cut (.cond (.t 31) (.seq (.reg (.q ⟨(some 2), none, .mov (.c (.bool false))⟩
 .done))
 .ret)
 .skip)))
 (.seq (.reg (.q ⟨(some 32), none, .faddr 2 (.t 1)⟩
 (.q ⟨(some 33), none, .load 1 false (.t 32)⟩
 (.q ⟨(some 34), none, .call 74 [(.t 33), (.c (.fn 117 []))]⟩
 (.q ⟨(some 35), none, .not (.t 34)⟩
 (.q ⟨(some 2), none, .mov (.t 35)⟩
 .done))))))
 .ret)))
theorem fc83 : fcomp Try.prog Try.f83 = some (c83.erase, [.mov (.t 2)], 36) := by kernel_rfl
def impl_setOK (x_1 : GSet) : Option Bool :=
    (((impl_areShort [x_1.Column]).bind fun r_16 =>
    if (!r_16) then
    some true
    else
    (impl_DatumOK x_1.Value).bind fun r_19 =>
    if (!r_19) then
    some true
    else
    if (decide ((x_1.Value.length : Int) > 0)) then
    if (decide ((x_1.Names.length : Int) > 0)) then
    some true
    else
    some (decide ((x_1.Names.length : Int) > 8))
    else
    some (decide ((x_1.Names.length : Int) > 8)) : Option Bool)).bind fun s31_14 =>
    if s31_14 then
    some false
    else
    (slices_ContainsFunc_string_string x_1.Names impl_setOK_1).bind fun r_29 =>
    some (!r_29)
theorem w_impl_setOK (x_1 : GSet) (r : Bool) (hf : impl_setOK x_1 = some r) : CallOK Try.prog 83 .flat [(encGSet x_1)] (.bool r) := by
 refine CallOK.of_awp mixed Try.func83 fc83 nle ?_; rw [argT_eq]; unfold impl_setOK at hf; unfold c83; refine (show awp Try.prog false 0 _ (ofL [(0, (encGSet x_1))]) [] _ from ?_); refine awp_seq ?_; refine w_reg ?_; refine s_do (o_box (j := 0) (c := (.agg [(.str x_1.Column), (.lst 3 (x_1.Value.map encGAtom)), (.lst 1 (x_1.Names.map AV.str))])) rfl trivial rfl rfl) ?_; refine s_do (o_mov (.bool false) rfl) ?_; refine w_done ?_; refine k_seq ?_; refine awp_seq ?_; refine awp_seq ?_
 obtain ⟨s31_14, hb1, hf⟩ := ob hf
 refine awp_cut ([(1, (.ptr 0 0 0)), (31, (.bool s31_14))], [.box 3 (.agg [(.str x_1.Column), (.lst 3 (x_1.Value.map encGAtom)), (.lst 1 (x_1.Names.map AV.str))])]) ?_ ?_
 ·refine w_reg ?_; refine s_do (o_q (.ptr 0 0 0) rfl trivial rfl) ?_; refine s_do (o_q (.str x_1.Column) rfl nle rfl) ?_; refine s_do (o_bslice (j := 1) (as' := [(.str x_1.Column)]) rfl (fun _ => by decide) ⟨rfl, trivial⟩ (.refl _) rfl rfl rfl) ?_
  obtain ⟨r_16, er17, hb1⟩ := ob hb1
  refine s_do (o_call (w_impl_areShort _ _ er17) rfl (.cons (.of_eq (congrArg (AV.lst _) (tko [x_1.Column]))) .nil) rfl) ?_; refine s_do (o_q (.bool (!r_16)) rfl trivial rfl) ?_; refine s_do (o_mov (.bool (!r_16)) rfl) ?_
  rcases oi hb1 with ⟨c18, hb1⟩ | ⟨c18, hb1⟩
  ·refine s_lit (s := 8) (b := true) rfl c18 ?_; refine s_off rfl rfl ?_; refine s_off rfl rfl ?_; refine s_off rfl rfl ?_; refine s_off rfl rfl ?_; refine s_do (o_q (.bool true) rfl trivial rfl) ?_; refine s_do (o_mov (.bool true) rfl) ?_; refine s_off rfl rfl ?_; refine s_off rfl rfl ?_; refine s_off rfl rfl ?_; refine s_off rfl rfl ?_; refine s_off rfl rfl ?_; refine s_offs rfl ?_; refine s_offs rfl ?_; refine s_offs rfl ?_; refine s_offs rfl ?_; refine s_off rfl rfl ?_; refine s_do (o_q (.bool true) rfl trivial rfl) ?_; refine s_do (o_mov (.bool true) rfl) ?_; refine s_off rfl rfl ?_; refine s_off rfl rfl ?_
   refine s_off rfl rfl ?_; refine s_off rfl rfl ?_; refine s_do (o_q (.bool true) rfl trivial rfl) ?_; refine w_done ?_; obtain rfl := os hb1; exact ⟨[], [0], _, _, rfl, rfl, ⟨.refl _, ⟨.refl _, trivial⟩⟩, (.refl _)⟩
  ·refine s_lit (s := 8) (b := false) rfl (bf c18) ?_; refine s_on rfl ?_; refine s_do (o_q (.ptr 0 0 1) rfl trivial rfl) ?_; refine s_on rfl ?_; refine s_do (o_q (.lst 3 (x_1.Value.map encGAtom)) rfl nle rfl) ?_; refine s_on rfl ?_
   obtain ⟨r_19, er20, hb1⟩ := ob hb1
   refine s_do (o_call (w_impl_DatumOK _ _ er20) rfl (.refl _) rfl) ?_; refine s_on rfl ?_; refine s_do (o_q (.bool (!r_19)) rfl trivial rfl) ?_; refine s_do (o_q (.bool (!r_19)) rfl trivial rfl) ?_; refine s_do (o_mov (.bool (!r_19)) rfl) ?_
   rcases oi hb1 with ⟨c21, hb1⟩ | ⟨c21, hb1⟩
   ·refine s_lit (s := 14) (b := true) rfl c21 ?_; refine s_off rfl rfl ?_; refine s_off rfl rfl ?_; refine s_off rfl rfl ?_; refine s_off rfl rfl ?_; refine s_off rfl rfl ?_; refine s_offs rfl ?_; refine s_offs rfl ?_; refine s_offs rfl ?_; refine s_offs rfl ?_; refine s_off rfl rfl ?_; refine s_do (o_q (.bool true) rfl trivial rfl) ?_; refine s_do (o_mov (.bool true) rfl) ?_; refine s_off rfl rfl ?_; refine s_off rfl rfl ?_; refine s_off rfl rfl ?_; refine s_off rfl rfl ?_; refine s_do (o_q (.bool true) rfl trivial rfl) ?_; refine w_done ?_; obtain rfl := os hb1; exact ⟨[], [0], _, _, rfl, rfl, ⟨.refl _, ⟨.refl _, trivial⟩⟩, (.refl _)⟩
   ·refine s_lit (s := 14) (b := false) rfl (bf c21) ?_; refine s_on rfl ?_; refine s_do (o_q (.ptr 0 0 1) rfl trivial rfl) ?_; refine s_on rfl ?_; refine s_do (o_q (.lst 3 (x_1.Value.map encGAtom)) rfl nle rfl) ?_; refine s_on rfl ?_; refine s_dof (o_len (enc := encGAtom) rfl) fun hl22 => ?_; refine s_on rfl ?_; refine s_do (o_q (.bool (decide ((x_1.Value.length : Int) > 0))) rfl rfl rfl) ?_; refine s_on rfl ?_; refine s_do (o_mov (.bool (decide ((x_1.Value.length : Int) > 0))) rfl) ?_
    rcases oi hb1 with ⟨c23, hb1⟩ | ⟨c23, hb1⟩
    ·refine s_lit (s := 19) (b := true) rfl c23 ?_; refine s_on rfl ?_; refine s_do (o_q (.ptr 0 0 2) rfl trivial rfl) ?_; refine s_on rfl ?_; refine s_do (o_q (.lst 1 (x_1.Names.map AV.str)) rfl nle rfl) ?_; refine s_on rfl ?_; refine s_dof (o_len (enc := AV.str) rfl) fun hl24 => ?_; refine s_on rfl ?_; refine s_do (o_q (.bool (decide ((x_1.Names.length : Int) > 0))) rfl rfl rfl) ?_; refine s_on rfl ?_; refine s_do (o_q (.bool (decide ((x_1.Names.length : Int) > 0))) rfl trivial rfl) ?_; refine s_do (o_q (.bool (decide ((x_1.Names.length : Int) > 0))) rfl trivial rfl) ?_; refine s_do (o_mov (.bool (decide ((x_1.Names.length : Int) > 0))) rfl) ?_
     rcases oi hb1 with ⟨c25, hb1⟩ | ⟨c25, hb1⟩
     ·refine s_lit (s := 26) (b := true) rfl c25 ?_; refine s_off rfl rfl ?_; refine s_off rfl rfl ?_; refine s_off rfl rfl ?_; refine s_off rfl rfl ?_; refine s_do (o_q (.bool true) rfl trivial rfl) ?_; refine w_done ?_; obtain rfl := os hb1; exact ⟨[], [0], _, _, rfl, rfl, ⟨.refl _, ⟨.refl _, trivial⟩⟩, (.refl _)⟩
     ·refine s_lit (s := 26) (b := false) rfl (bf c25) ?_; refine s_on rfl ?_; refine s_do (o_q (.ptr 0 0 2) rfl trivial rfl) ?_; refine s_on rfl ?_; refine s_do (o_q (.lst 1 (x_1.Names.map AV.str)) rfl nle rfl) ?_; refine s_on rfl ?_; refine s_dof (o_len (enc := AV.str) rfl) fun hl26 => ?_; refine s_on rfl ?_; refine s_do (o_q (.bool (decide ((x_1.Names.length : Int) > 8))) rfl rfl rfl) ?_; refine s_do (o_q (.bool (decide ((x_1.Names.length : Int) > 8))) rfl trivial rfl) ?_; refine w_done ?_; obtain rfl := os hb1; exact ⟨[], [0], _, _, rfl, rfl, ⟨.refl _, ⟨.refl _, trivial⟩⟩, (.refl _)⟩
    ·refine s_lit (s := 19) (b := false) rfl (bf c23) ?_; refine s_off rfl rfl ?_; refine s_off rfl rfl ?_; refine s_off rfl rfl ?_; refine s_off rfl rfl ?_; refine s_on rfl ?_; refine s_do (o_q (.bool false) rfl trivial rfl) ?_; refine s_do (o_q (.bool false) rfl trivial rfl) ?_; refine s_do (o_mov (.bool false) rfl) ?_; refine s_on rfl ?_; refine s_do (o_q (.ptr 0 0 2) rfl trivial rfl) ?_; refine s_on rfl ?_; refine s_do (o_q (.lst 1 (x_1.Names.map AV.str)) rfl nle rfl) ?_; refine s_on rfl ?_; refine s_dof (o_len (enc := AV.str) rfl) fun hl27 => ?_; refine s_on rfl ?_; refine s_do (o_q (.bool (decide ((x_1.Names.length : Int) > 8))) rfl rfl rfl) ?_
     refine s_do (o_q (.bool (decide ((x_1.Names.length : Int) > 8))) rfl trivial rfl) ?_; refine w_done ?_; obtain rfl := os hb1; exact ⟨[], [0], _, _, rfl, rfl, ⟨.refl _, ⟨.refl _, trivial⟩⟩, (.refl _)⟩
 ·rcases oi hf with ⟨c28, hf⟩ | ⟨c28, hf⟩
  ·refine w_condt rfl c28 ?_; refine awp_seq ?_; refine w_reg ?_; refine s_do (o_mov (.bool false) rfl) ?_; refine w_done ?_; refine k_seq ?_; refine w_ret ?_; obtain rfl := os hf; exact r_flat ⟨trivial, trivial⟩ rfl (.refl _)
  ·refine w_condf rfl (bf c28) ?_; refine w_skip ?_; refine k_seq ?_; refine awp_seq ?_; refine w_reg ?_
   obtain ⟨r_29, er30, hf⟩ := ob hf
   refine s_do (o_q (.ptr 0 0 2) rfl trivial rfl) ?_; refine s_do (o_q (.lst 1 (x_1.Names.map AV.str)) rfl nle rfl) ?_; refine s_do (o_call (w_slices_ContainsFunc_string_string _ _ _ er30 117 [] (by kernel_rfl) (fun _ _ => rfl) (fun _ => rfl) (fun a0 r h => w_impl_setOK_1 a0 r h)) rfl (.refl _) rfl) ?_; refine s_do (o_q (.bool (!r_29)) rfl trivial rfl) ?_; refine s_do (o_mov (.bool (!r_29)) rfl) ?_; refine w_done ?_; refine k_seq ?_; refine w_ret ?_; obtain rfl := os hf; exact r_flat ⟨trivial, trivial⟩ rfl (.refl _)

end Go.R
