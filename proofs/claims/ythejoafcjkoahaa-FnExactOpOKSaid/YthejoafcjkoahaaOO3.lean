/- Walks. -/
import Derived.Test.YthejoafcjkoahaaOO2
set_option linter.all false
namespace Go.R
open Go Go.Proofs
set_option linter.unusedVariables false
set_option linter.unusedSimpArgs false
set_option maxHeartbeats 8000000
/- spec.OpOK -/
def c8 : ACode :=
 (.seq (.reg (.q ⟨(some 1), none, .box 8 (.t 0)⟩
 (.q ⟨(some 2), none, .mov (.c (.bool false))⟩
 .done)))
 (.seq (.seq (.reg (.q ⟨(some 9), none, .faddr 0 (.t 1)⟩
 (.q ⟨(some 10), none, .load 1 false (.t 9)⟩
 (.q ⟨(some 11), none, .call 28 [(.t 10), (.c (.int .i64 1)), (.c (.int .i64 10))]⟩
 (.q ⟨(some 12), none, .not (.t 11)⟩
 (.q ⟨(some 13), none, .mov (.t 12)⟩
 (.q ⟨(some 14), (some (13, false)), .faddr 1 (.t 1)⟩
 (.q ⟨(some 15), (some (13, false)), .load 1 false (.t 14)⟩
 (.q ⟨(some 16), (some (13, false)), .lenS (.t 15)⟩
 (.q ⟨(some 17), (some (13, false)), .bin .gtr (.t 16) (.c (.int .i64 40))⟩
 (.q ⟨(some 18), none, .pick (.t 13) (.c (.bool true)) (.t 17)⟩
 (.q ⟨(some 19), none, .mov (.t 18)⟩
 (.q ⟨(some 20), (some (19, false)), .faddr 2 (.t 1)⟩
 (.q ⟨(some 21), (some (19, false)), .load 1 false (.t 20)⟩
 (.q ⟨(some 22), (some (19, false)), .lenS (.t 21)⟩
 (.q ⟨(some 23), (some (19, false)), .bin .gtr (.t 22) (.c (.int .i64 40))⟩
 (.q ⟨(some 24), none, .pick (.t 19) (.c (.bool true)) (.t 23)⟩
 (.q ⟨(some 25), none, .mov (.t 24)⟩
 (.q ⟨(some 26), (some (25, false)), .faddr 3 (.t 1)⟩
 (.q ⟨(some 27), (some (25, false)), .load 1 false (.t 26)⟩
 (.q ⟨(some 28), (some (25, false)), .call 29 [(.t 27)]⟩
 (.q ⟨(some 29), (some (25, false)), .not (.t 28)⟩
 (.q ⟨(some 30), none, .pick (.t 25) (.c (.bool true)) (.t 29)⟩
 (.q ⟨(some 31), none, .mov (.t 30)⟩
 (.q ⟨(some 32), (some (31, false)), .faddr 5 (.t 1)⟩
 (.q ⟨(some 33), (some (31, false)), .load 1 false (.t 32)⟩
 (.q ⟨(some 34), (some (31, false)), .call 30 [(.t 33)]⟩
 (.q ⟨(some 35), (some (31, false)), .not (.t 34)⟩
 (.q ⟨(some 36), none, .pick (.t 31) (.c (.bool true)) (.t 35)⟩
 (.q ⟨(some 37), none, .mov (.t 36)⟩
 (.q ⟨(some 38), (some (37, false)), .faddr 4 (.t 1)⟩
 (.q ⟨(some 39), (some (37, false)), .load 1 false (.t 38)⟩
 (.q ⟨(some 40), (some (37, false)), .len (.t 39)⟩
 (.q ⟨(some 41), (some (37, false)), .bin .gtr (.t 40) (.c (.int .i64 6))⟩
 (.q ⟨(some 42), none, .pick (.t 37) (.c (.bool true)) (.t 41)⟩
 (.q ⟨(some 43), none, .mov (.t 42)⟩
 (.q ⟨(some 44), (some (43, false)), .faddr 6 (.t 1)⟩
 (.q ⟨(some 45), (some (43, false)), .load 1 false (.t 44)⟩
 (.q ⟨(some 46), (some (43, false)), .len (.t 45)⟩
 (.q ⟨(some 47), (some (43, false)), .bin .gtr (.t 46) (.c (.int .i64 6))⟩
 (.q ⟨(some 48), none, .pick (.t 43) (.c (.bool true)) (.t 47)⟩
 .done)))))))))))))))))))))))))))))))))))))))))
 (.cut (.cond (.t 48) (.seq (.reg (.q ⟨(some 2), none, .mov (.c (.bool false))⟩
 .done))
 .ret)
 .skip)))
 (.seq (.seq (.reg (.q ⟨(some 3), none, .mov (.c (.int .i64 0))⟩
 .done))
 (.block 0 (.loop (.seq (.seq (.reg (.q ⟨(some 49), none, .mov (.t 3)⟩
 (.q ⟨(some 50), none, .faddr 4 (.t 1)⟩
 (.q ⟨(some 51), none, .load 1 false (.t 50)⟩
 (.q ⟨(some 52), none, .len (.t 51)⟩
 (.q ⟨(some 53), none, .bin .lss (.t 49) (.t 52)⟩
 .done))))))
 (.cond (.t 53) .skip
 (.exit 0)))
 (.seq (.block 1 (.seq (.reg (.q ⟨(some 56), none, .faddr 4 (.t 1)⟩
 (.q ⟨(some 57), none, .load 1 false (.t 56)⟩
 (.q ⟨(some 58), none, .mov (.t 3)⟩
 (.q ⟨(some 59), none, .iaddr 3 (.t 57) (.t 58)⟩
 (.q ⟨(some 60), none, .load 3 true (.t 59)⟩
 (.q ⟨(some 61), none, .call 31 [(.t 60)]⟩
 (.q ⟨(some 62), none, .not (.t 61)⟩
 .done))))))))
 (.cond (.t 62) (.seq (.reg (.q ⟨(some 2), none, .mov (.c (.bool false))⟩
 .done))
 .ret)
 .skip)))
 (.reg (.q ⟨(some 54), none, .mov (.t 3)⟩
 (.q ⟨(some 55), none, .bin .add (.t 54) (.c (.int .i64 1))⟩
 (.q ⟨(some 3), none, .mov (.t 55)⟩
 .done)))))))))
 (.cut (.seq (.seq (.reg (.q ⟨(some 4), none, .mov (.c (.int .i64 0))⟩
 .done))
 (.block 2 (.loop (.seq (.seq (.reg (.q ⟨(some 63), none, .mov (.t 4)⟩
 (.q ⟨(some 64), none, .faddr 6 (.t 1)⟩
 (.q ⟨(some 65), none, .load 1 false (.t 64)⟩
 (.q ⟨(some 66), none, .len (.t 65)⟩
 (.q ⟨(some 67), none, .bin .lss (.t 63) (.t 66)⟩
 .done))))))
 (.cond (.t 67) .skip
 (.exit 2)))
 (.seq (.block 3 (.seq (.reg (.q ⟨(some 70), none, .faddr 6 (.t 1)⟩
 (.q ⟨(some 71), none, .load 1 false (.t 70)⟩
 (.q ⟨(some 72), none, .mov (.t 4)⟩
 (.q ⟨(some 73), none, .iaddr 1 (.t 71) (.t 72)⟩
 (.q ⟨(some 74), none, .load 1 false (.t 73)⟩
 (.q ⟨(some 75), none, .lenS (.t 74)⟩
 (.q ⟨(some 76), none, .bin .gtr (.t 75) (.c (.int .i64 40))⟩
 .done))))))))
 (.cond (.t 76) (.seq (.reg (.q ⟨(some 2), none, .mov (.c (.bool false))⟩
 .done))
 .ret)
 .skip)))
 (.reg (.q ⟨(some 68), none, .mov (.t 4)⟩
 (.q ⟨(some 69), none, .bin .add (.t 68) (.c (.int .i64 1))⟩
 (.q ⟨(some 4), none, .mov (.t 69)⟩
 .done)))))))))
 (.cut (.seq (.reg (.q ⟨(some 77), none, .faddr 0 (.t 1)⟩
 (.q ⟨(some 78), none, .load 1 false (.t 77)⟩
 (.q ⟨(some 79), none, .call 28 [(.t 78), (.c (.int .i64 1)), (.c (.int .i64 6))]⟩
 (.q ⟨(some 5), none, .mov (.t 79)⟩
 .done)))))
 (.seq (.reg (.q ⟨(some 80), none, .faddr 0 (.t 1)⟩
 (.q ⟨(some 81), none, .load 1 false (.t 80)⟩
 (.q ⟨(some 82), none, .call 28 [(.t 81), (.c (.int .i64 2)), (.c (.int .i64 6))]⟩
 (.q ⟨(some 6), none, .mov (.t 82)⟩
 .done)))))
 (.seq (.reg (.q ⟨(some 83), none, .faddr 0 (.t 1)⟩
 (.q ⟨(some 84), none, .load 1 false (.t 83)⟩
 (.q ⟨(some 85), none, .bin .eql (.t 84) (.c (.int .i64 1))⟩
 (.q ⟨(some 86), none, .mov (.t 85)⟩
 (.q ⟨(some 87), (some (86, false)), .faddr 0 (.t 1)⟩
 (.q ⟨(some 88), (some (86, false)), .load 1 false (.t 87)⟩
 (.q ⟨(some 89), (some (86, false)), .bin .geq (.t 88) (.c (.int .i64 9))⟩
 (.q ⟨(some 90), none, .pick (.t 86) (.c (.bool true)) (.t 89)⟩
 (.q ⟨(some 7), none, .mov (.t 90)⟩
 .done))))))))))
 (.cut (.seq (.reg (.q ⟨(some 91), none, .faddr 0 (.t 1)⟩
 (.q ⟨(some 92), none, .load 1 false (.t 91)⟩
 (.q ⟨(some 93), none, .bin .eql (.t 92) (.c (.int .i64 1))⟩
 (.q ⟨(some 94), none, .mov (.t 93)⟩
 (.q ⟨(some 95), (some (94, false)), .faddr 0 (.t 1)⟩
 (.q ⟨(some 96), (some (94, false)), .load 1 false (.t 95)⟩
 (.q ⟨(some 97), (some (94, false)), .bin .eql (.t 96) (.c (.int .i64 3))⟩
 (.q ⟨(some 98), none, .pick (.t 94) (.c (.bool true)) (.t 97)⟩
 (.q ⟨(some 99), none, .mov (.t 98)⟩
 (.q ⟨(some 100), (some (99, false)), .faddr 0 (.t 1)⟩
 (.q ⟨(some 101), (some (99, false)), .load 1 false (.t 100)⟩
 (.q ⟨(some 102), (some (99, false)), .bin .eql (.t 101) (.c (.int .i64 6))⟩
 (.q ⟨(some 103), none, .pick (.t 99) (.c (.bool true)) (.t 102)⟩
 (.q ⟨(some 8), none, .mov (.t 103)⟩
 .done)))))))))))))))
 (.cut (.seq (.reg (.q ⟨(some 104), none, .mov (.t 5)⟩
 (.q ⟨(some 105), none, .mov (.t 104)⟩
 (.q ⟨(some 106), (some (105, false)), .faddr 1 (.t 1)⟩
 (.q ⟨(some 107), (some (105, false)), .load 1 false (.t 106)⟩
 (.q ⟨(some 108), (some (105, false)), .bin .eql (.t 107) (.c (.str []))⟩
 (.q ⟨(some 109), none, .pick (.t 105) (.c (.bool true)) (.t 108)⟩
 (.q ⟨(some 110), none, .mov (.t 109)⟩
 (.q ⟨(some 111), (some (110, true)), .mov (.t 6)⟩
 (.q ⟨(some 112), (some (110, true)), .mov (.t 111)⟩
 (.q ⟨(some 113), (some (112, false)), .faddr 3 (.t 1)⟩
 (.q ⟨(some 114), (some (112, false)), .load 1 false (.t 113)⟩
 (.q ⟨(some 115), (some (112, false)), .len (.t 114)⟩
 (.q ⟨(some 116), (some (112, false)), .bin .eql (.t 115) (.c (.int .i64 0))⟩
 (.q ⟨(some 117), (some (110, true)), .pick (.t 112) (.c (.bool true)) (.t 116)⟩
 (.q ⟨(some 118), none, .pick (.t 110) (.t 117) (.c (.bool false))⟩
 (.q ⟨(some 119), none, .mov (.t 118)⟩
 (.q ⟨(some 120), (some (119, true)), .mov (.t 7)⟩
 (.q ⟨(some 121), (some (119, true)), .mov (.t 120)⟩
 (.q ⟨(some 122), (some (121, false)), .faddr 2 (.t 1)⟩
 (.q ⟨(some 123), (some (121, false)), .load 1 false (.t 122)⟩
 (.q ⟨(some 124), (some (121, false)), .bin .eql (.t 123) (.c (.str []))⟩
 (.q ⟨(some 125), (some (119, true)), .pick (.t 121) (.c (.bool true)) (.t 124)⟩
 (.q ⟨(some 126), none, .pick (.t 119) (.t 125) (.c (.bool false))⟩
 (.q ⟨(some 127), none, .mov (.t 126)⟩
 (.q ⟨(some 128), (some (127, true)), .mov (.t 8)⟩
 (.q ⟨(some 129), (some (127, true)), .mov (.t 128)⟩
 (.q ⟨(some 130), (some (129, false)), .faddr 4 (.t 1)⟩
 (.q ⟨(some 131), (some (129, false)), .load 1 false (.t 130)⟩
 (.q ⟨(some 132), (some (129, false)), .len (.t 131)⟩
 (.q ⟨(some 133), (some (129, false)), .bin .eql (.t 132) (.c (.int .i64 0))⟩
 (.q ⟨(some 134), (some (127, true)), .pick (.t 129) (.c (.bool true)) (.t 133)⟩
 (.q ⟨(some 135), none, .pick (.t 127) (.t 134) (.c (.bool false))⟩
 (.q ⟨(some 136), none, .mov (.t 135)⟩
 (.q ⟨(some 137), (some (136, true)), .faddr 0 (.t 1)⟩
 (.q ⟨(some 138), (some (136, true)), .load 1 false (.t 137)⟩
 (.q ⟨(some 139), (some (136, true)), .bin .eql (.t 138) (.c (.int .i64 4))⟩
 (.q ⟨(some 140), (some (136, true)), .mov (.t 139)⟩
 (.q ⟨(some 141), (some (140, false)), .faddr 5 (.t 1)⟩
 (.q ⟨(some 142), (some (140, false)), .load 1 false (.t 141)⟩
 (.q ⟨(some 143), (some (140, false)), .len (.t 142)⟩
 (.q ⟨(some 144), (some (140, false)), .bin .eql (.t 143) (.c (.int .i64 0))⟩
 (.q ⟨(some 145), (some (136, true)), .pick (.t 140) (.c (.bool true)) (.t 144)⟩
 (.q ⟨(some 146), none, .pick (.t 136) (.t 145) (.c (.bool false))⟩
 (.q ⟨(some 147), none, .mov (.t 146)⟩
 (.q ⟨(some 148), (some (147, true)), .faddr 0 (.t 1)⟩
 (.q ⟨(some 149), (some (147, true)), .load 1 false (.t 148)⟩
 (.q ⟨(some 150), (some (147, true)), .bin .eql (.t 149) (.c (.int .i64 2))⟩
 (.q ⟨(some 151), (some (147, true)), .mov (.t 150)⟩
 (.q ⟨(some 152), (some (151, false)), .faddr 6 (.t 1)⟩
 (.q ⟨(some 153), (some (151, false)), .load 1 false (.t 152)⟩
 (.q ⟨(some 154), (some (151, false)), .len (.t 153)⟩
 (.q ⟨(some 155), (some (151, false)), .bin .eql (.t 154) (.c (.int .i64 0))⟩
 (.q ⟨(some 156), (some (147, true)), .pick (.t 151) (.c (.bool true)) (.t 155)⟩
 (.q ⟨(some 157), none, .pick (.t 147) (.t 156) (.c (.bool false))⟩
 (.q ⟨(some 158), none, .mov (.t 157)⟩
 (.q ⟨(some 159), (some (158, true)), .faddr 0 (.t 1)⟩
 (.q ⟨(some 160), (some (158, true)), .load 1 false (.t 159)⟩
 (.q ⟨(some 161), (some (158, true)), .bin .eql (.t 160) (.c (.int .i64 6))⟩
 (.q ⟨(some 162), (some (158, true)), .mov (.t 161)⟩
 (.q ⟨(some 163), (some (162, false)), .faddr 7 (.t 1)⟩
 (.q ⟨(some 164), (some (162, false)), .load 1 false (.t 163)⟩
 (.q ⟨(some 165), (some (162, false)), .not (.t 164)⟩
 (.q ⟨(some 166), (some (158, true)), .pick (.t 162) (.c (.bool true)) (.t 165)⟩
 (.q ⟨(some 167), none, .pick (.t 158) (.t 166) (.c (.bool false))⟩
 (.q ⟨(some 2), none, .mov (.t 167)⟩
 .done))))))))))))))))))))))))))))))))))))))))))))))))))))))))))))))))))
 .ret)))))))))))))
theorem fc8 : fcomp Try.prog Try.f8 = some (c8.erase, [.mov (.t 2)], 168) := by kernel_rfl
def spec_OpOK_L1  : List GSet → Option (Fl Bool Unit)
  | [] =>
    some (.go ())
  | x_68 :: xs =>
    (spec_l08Set x_68).bind fun r_71 =>
    if (!r_71) then
    some (.ret false)
    else
    spec_OpOK_L1 xs 

def spec_OpOK_L2  : List Str → Option (Fl Bool Unit)
  | [] =>
    some (.go ())
  | x_102 :: xs =>
    if (decide ((x_102.length : Int) > 40)) then
    some (.ret false)
    else
    spec_OpOK_L2 xs 

def spec_OpOK (o_1 : GOp) : Option Bool :=
    (((spec_l01In o_1.Kind 1 10).bind fun r_20 =>
    if (!r_20) then
    some true
    else
    if (decide ((o_1.Table.length : Int) > 40)) then
    some true
    else
    if (decide ((o_1.Name.length : Int) > 40)) then
    some true
    else
    (spec_l06List o_1.Where).bind fun r_27 =>
    if (!r_27) then
    some true
    else
    (spec_l07List o_1.Muts).bind fun r_30 =>
    if (!r_30) then
    some true
    else
    if (decide ((o_1.Row.length : Int) > 6)) then
    some true
    else
    some (decide ((o_1.Columns.length : Int) > 6)) : Option Bool)).bind fun s48_18 =>
    if s48_18 then
    some false
    else
    (spec_OpOK_L1 o_1.Row ).bind fun q => (match q with
    | .ret r => some r
    | .go _ =>
    (spec_OpOK_L2 o_1.Columns ).bind fun q => (match q with
    | .ret r => some r
    | .go _ =>
    (spec_l01In o_1.Kind 1 6).bind fun r_107 =>
    (spec_l01In o_1.Kind 2 6).bind fun r_109 =>
    ((if (o_1.Kind == 1) then
    some true
    else
    some (decide (o_1.Kind ≥ 9)) : Option Bool)).bind fun name_112 =>
    ((if (o_1.Kind == 1) then
    some true
    else
    if (o_1.Kind == 3) then
    some true
    else
    some (o_1.Kind == 6) : Option Bool)).bind fun row_117 =>
    if r_107 then
    if r_109 then
    if name_112 then
    if row_117 then
    if (o_1.Kind == 4) then
    if (o_1.Kind == 2) then
    if (o_1.Kind == 6) then
    some true
    else
    some (!o_1.Until)
    else
    if ((o_1.Columns.length : Int) == 0) then
    if (o_1.Kind == 6) then
    some true
    else
    some (!o_1.Until)
    else
    some false
    else
    if ((o_1.Muts.length : Int) == 0) then
    if (o_1.Kind == 2) then
    if (o_1.Kind == 6) then
    some true
    else
    some (!o_1.Until)
    else
    if ((o_1.Columns.length : Int) == 0) then
    if (o_1.Kind == 6) then
    some true
    else
    some (!o_1.Until)
    else
    some false
    else
    some false
    else
    if ((o_1.Row.length : Int) == 0) then
    if (o_1.Kind == 4) then
    if (o_1.Kind == 2) then
    if (o_1.Kind == 6) then
    some true
    else
    some (!o_1.Until)
    else
    if ((o_1.Columns.length : Int) == 0) then
    if (o_1.Kind == 6) then
    some true
    else
    some (!o_1.Until)
    else
    some false
    else
    if ((o_1.Muts.length : Int) == 0) then
    if (o_1.Kind == 2) then
    if (o_1.Kind == 6) then
    some true
    else
    some (!o_1.Until)
    else
    if ((o_1.Columns.length : Int) == 0) then
    if (o_1.Kind == 6) then
    some true
    else
    some (!o_1.Until)
    else
    some false
    else
    some false
    else
    some false
    else
    if (o_1.Name == []) then
    if row_117 then
    if (o_1.Kind == 4) then
    if (o_1.Kind == 2) then
    if (o_1.Kind == 6) then
    some true
    else
    some (!o_1.Until)
    else
    if ((o_1.Columns.length : Int) == 0) then
    if (o_1.Kind == 6) then
    some true
    else
    some (!o_1.Until)
    else
    some false
    else
    if ((o_1.Muts.length : Int) == 0) then
    if (o_1.Kind == 2) then
    if (o_1.Kind == 6) then
    some true
    else
    some (!o_1.Until)
    else
    if ((o_1.Columns.length : Int) == 0) then
    if (o_1.Kind == 6) then
    some true
    else
    some (!o_1.Until)
    else
    some false
    else
    some false
    else
    if ((o_1.Row.length : Int) == 0) then
    if (o_1.Kind == 4) then
    if (o_1.Kind == 2) then
    if (o_1.Kind == 6) then
    some true
    else
    some (!o_1.Until)
    else
    if ((o_1.Columns.length : Int) == 0) then
    if (o_1.Kind == 6) then
    some true
    else
    some (!o_1.Until)
    else
    some false
    else
    if ((o_1.Muts.length : Int) == 0) then
    if (o_1.Kind == 2) then
    if (o_1.Kind == 6) then
    some true
    else
    some (!o_1.Until)
    else
    if ((o_1.Columns.length : Int) == 0) then
    if (o_1.Kind == 6) then
    some true
    else
    some (!o_1.Until)
    else
    some false
    else
    some false
    else
    some false
    else
    some false
    else
    if ((o_1.Where.length : Int) == 0) then
    if name_112 then
    if row_117 then
    if (o_1.Kind == 4) then
    if (o_1.Kind == 2) then
    if (o_1.Kind == 6) then
    some true
    else
    some (!o_1.Until)
    else
    if ((o_1.Columns.length : Int) == 0) then
    if (o_1.Kind == 6) then
    some true
    else
    some (!o_1.Until)
    else
    some false
    else
    if ((o_1.Muts.length : Int) == 0) then
    if (o_1.Kind == 2) then
    if (o_1.Kind == 6) then
    some true
    else
    some (!o_1.Until)
    else
    if ((o_1.Columns.length : Int) == 0) then
    if (o_1.Kind == 6) then
    some true
    else
    some (!o_1.Until)
    else
    some false
    else
    some false
    else
    if ((o_1.Row.length : Int) == 0) then
    if (o_1.Kind == 4) then
    if (o_1.Kind == 2) then
    if (o_1.Kind == 6) then
    some true
    else
    some (!o_1.Until)
    else
    if ((o_1.Columns.length : Int) == 0) then
    if (o_1.Kind == 6) then
    some true
    else
    some (!o_1.Until)
    else
    some false
    else
    if ((o_1.Muts.length : Int) == 0) then
    if (o_1.Kind == 2) then
    if (o_1.Kind == 6) then
    some true
    else
    some (!o_1.Until)
    else
    if ((o_1.Columns.length : Int) == 0) then
    if (o_1.Kind == 6) then
    some true
    else
    some (!o_1.Until)
    else
    some false
    else
    some false
    else
    some false
    else
    if (o_1.Name == []) then
    if row_117 then
    if (o_1.Kind == 4) then
    if (o_1.Kind == 2) then
    if (o_1.Kind == 6) then
    some true
    else
    some (!o_1.Until)
    else
    if ((o_1.Columns.length : Int) == 0) then
    if (o_1.Kind == 6) then
    some true
    else
    some (!o_1.Until)
    else
    some false
    else
    if ((o_1.Muts.length : Int) == 0) then
    if (o_1.Kind == 2) then
    if (o_1.Kind == 6) then
    some true
    else
    some (!o_1.Until)
    else
    if ((o_1.Columns.length : Int) == 0) then
    if (o_1.Kind == 6) then
    some true
    else
    some (!o_1.Until)
    else
    some false
    else
    some false
    else
    if ((o_1.Row.length : Int) == 0) then
    if (o_1.Kind == 4) then
    if (o_1.Kind == 2) then
    if (o_1.Kind == 6) then
    some true
    else
    some (!o_1.Until)
    else
    if ((o_1.Columns.length : Int) == 0) then
    if (o_1.Kind == 6) then
    some true
    else
    some (!o_1.Until)
    else
    some false
    else
    if ((o_1.Muts.length : Int) == 0) then
    if (o_1.Kind == 2) then
    if (o_1.Kind == 6) then
    some true
    else
    some (!o_1.Until)
    else
    if ((o_1.Columns.length : Int) == 0) then
    if (o_1.Kind == 6) then
    some true
    else
    some (!o_1.Until)
    else
    some false
    else
    some false
    else
    some false
    else
    some false
    else
    some false
    else
    if (o_1.Table == []) then
    if r_109 then
    if name_112 then
    if row_117 then
    if (o_1.Kind == 4) then
    if (o_1.Kind == 2) then
    if (o_1.Kind == 6) then
    some true
    else
    some (!o_1.Until)
    else
    if ((o_1.Columns.length : Int) == 0) then
    if (o_1.Kind == 6) then
    some true
    else
    some (!o_1.Until)
    else
    some false
    else
    if ((o_1.Muts.length : Int) == 0) then
    if (o_1.Kind == 2) then
    if (o_1.Kind == 6) then
    some true
    else
    some (!o_1.Until)
    else
    if ((o_1.Columns.length : Int) == 0) then
    if (o_1.Kind == 6) then
    some true
    else
    some (!o_1.Until)
    else
    some false
    else
    some false
    else
    if ((o_1.Row.length : Int) == 0) then
    if (o_1.Kind == 4) then
    if (o_1.Kind == 2) then
    if (o_1.Kind == 6) then
    some true
    else
    some (!o_1.Until)
    else
    if ((o_1.Columns.length : Int) == 0) then
    if (o_1.Kind == 6) then
    some true
    else
    some (!o_1.Until)
    else
    some false
    else
    if ((o_1.Muts.length : Int) == 0) then
    if (o_1.Kind == 2) then
    if (o_1.Kind == 6) then
    some true
    else
    some (!o_1.Until)
    else
    if ((o_1.Columns.length : Int) == 0) then
    if (o_1.Kind == 6) then
    some true
    else
    some (!o_1.Until)
    else
    some false
    else
    some false
    else
    some false
    else
    if (o_1.Name == []) then
    if row_117 then
    if (o_1.Kind == 4) then
    if (o_1.Kind == 2) then
    if (o_1.Kind == 6) then
    some true
    else
    some (!o_1.Until)
    else
    if ((o_1.Columns.length : Int) == 0) then
    if (o_1.Kind == 6) then
    some true
    else
    some (!o_1.Until)
    else
    some false
    else
    if ((o_1.Muts.length : Int) == 0) then
    if (o_1.Kind == 2) then
    if (o_1.Kind == 6) then
    some true
    else
    some (!o_1.Until)
    else
    if ((o_1.Columns.length : Int) == 0) then
    if (o_1.Kind == 6) then
    some true
    else
    some (!o_1.Until)
    else
    some false
    else
    some false
    else
    if ((o_1.Row.length : Int) == 0) then
    if (o_1.Kind == 4) then
    if (o_1.Kind == 2) then
    if (o_1.Kind == 6) then
    some true
    else
    some (!o_1.Until)
    else
    if ((o_1.Columns.length : Int) == 0) then
    if (o_1.Kind == 6) then
    some true
    else
    some (!o_1.Until)
    else
    some false
    else
    if ((o_1.Muts.length : Int) == 0) then
    if (o_1.Kind == 2) then
    if (o_1.Kind == 6) then
    some true
    else
    some (!o_1.Until)
    else
    if ((o_1.Columns.length : Int) == 0) then
    if (o_1.Kind == 6) then
    some true
    else
    some (!o_1.Until)
    else
    some false
    else
    some false
    else
    some false
    else
    some false
    else
    if ((o_1.Where.length : Int) == 0) then
    if name_112 then
    if row_117 then
    if (o_1.Kind == 4) then
    if (o_1.Kind == 2) then
    if (o_1.Kind == 6) then
    some true
    else
    some (!o_1.Until)
    else
    if ((o_1.Columns.length : Int) == 0) then
    if (o_1.Kind == 6) then
    some true
    else
    some (!o_1.Until)
    else
    some false
    else
    if ((o_1.Muts.length : Int) == 0) then
    if (o_1.Kind == 2) then
    if (o_1.Kind == 6) then
    some true
    else
    some (!o_1.Until)
    else
    if ((o_1.Columns.length : Int) == 0) then
    if (o_1.Kind == 6) then
    some true
    else
    some (!o_1.Until)
    else
    some false
    else
    some false
    else
    if ((o_1.Row.length : Int) == 0) then
    if (o_1.Kind == 4) then
    if (o_1.Kind == 2) then
    if (o_1.Kind == 6) then
    some true
    else
    some (!o_1.Until)
    else
    if ((o_1.Columns.length : Int) == 0) then
    if (o_1.Kind == 6) then
    some true
    else
    some (!o_1.Until)
    else
    some false
    else
    if ((o_1.Muts.length : Int) == 0) then
    if (o_1.Kind == 2) then
    if (o_1.Kind == 6) then
    some true
    else
    some (!o_1.Until)
    else
    if ((o_1.Columns.length : Int) == 0) then
    if (o_1.Kind == 6) then
    some true
    else
    some (!o_1.Until)
    else
    some false
    else
    some false
    else
    some false
    else
    if (o_1.Name == []) then
    if row_117 then
    if (o_1.Kind == 4) then
    if (o_1.Kind == 2) then
    if (o_1.Kind == 6) then
    some true
    else
    some (!o_1.Until)
    else
    if ((o_1.Columns.length : Int) == 0) then
    if (o_1.Kind == 6) then
    some true
    else
    some (!o_1.Until)
    else
    some false
    else
    if ((o_1.Muts.length : Int) == 0) then
    if (o_1.Kind == 2) then
    if (o_1.Kind == 6) then
    some true
    else
    some (!o_1.Until)
    else
    if ((o_1.Columns.length : Int) == 0) then
    if (o_1.Kind == 6) then
    some true
    else
    some (!o_1.Until)
    else
    some false
    else
    some false
    else
    if ((o_1.Row.length : Int) == 0) then
    if (o_1.Kind == 4) then
    if (o_1.Kind == 2) then
    if (o_1.Kind == 6) then
    some true
    else
    some (!o_1.Until)
    else
    if ((o_1.Columns.length : Int) == 0) then
    if (o_1.Kind == 6) then
    some true
    else
    some (!o_1.Until)
    else
    some false
    else
    if ((o_1.Muts.length : Int) == 0) then
    if (o_1.Kind == 2) then
    if (o_1.Kind == 6) then
    some true
    else
    some (!o_1.Until)
    else
    if ((o_1.Columns.length : Int) == 0) then
    if (o_1.Kind == 6) then
    some true
    else
    some (!o_1.Until)
    else
    some false
    else
    some false
    else
    some false
    else
    some false
    else
    some false
    else
    some false))
theorem w_spec_OpOK (o_1 : GOp) (r : Bool) (hf : spec_OpOK o_1 = some r) : CallOK Try.prog 8 .flat [(encGOp o_1)] (.bool r) := by
 refine CallOK.of_awp mixed Try.func8 fc8 nle ?_; rw [argT_eq]; unfold spec_OpOK at hf; unfold c8; refine (show awp Try.prog false 0 _ (ofL [(0, (encGOp o_1))]) [] _ from ?_); refine awp_seq ?_; refine w_reg ?_; refine s_do (o_box (j := 0) (c := (.agg [(.int .i64 o_1.Kind), (.str o_1.Table), (.str o_1.Name), (.lst 3 (o_1.Where.map encGCond)), (.lst 3 (o_1.Row.map encGSet)), (.lst 3 (o_1.Muts.map encGMut)), (.lst 1 (o_1.Columns.map AV.str)), (.bool o_1.Until)])) rfl trivial rfl rfl) ?_; refine s_do (o_mov (.bool false) rfl) ?_; refine w_done ?_; refine k_seq ?_; refine awp_seq ?_; refine awp_seq ?_
 obtain ⟨s48_18, hb1, hf⟩ := ob hf
 refine awp_cut ([(1, (.ptr 0 0 0)), (48, (.bool s48_18))], [.box 8 (.agg [(.int .i64 o_1.Kind), (.str o_1.Table), (.str o_1.Name), (.lst 3 (o_1.Where.map encGCond)), (.lst 3 (o_1.Row.map encGSet)), (.lst 3 (o_1.Muts.map encGMut)), (.lst 1 (o_1.Columns.map AV.str)), (.bool o_1.Until)])]) ?_ ?_
 ·refine w_reg ?_; refine s_do (o_q (.ptr 0 0 0) rfl trivial rfl) ?_; refine s_do (o_q (.int .i64 o_1.Kind) rfl nle rfl) ?_
  obtain ⟨r_20, er21, hb1⟩ := ob hb1
  refine s_do (o_call (w_spec_l01In _ _ _ _ er21) rfl (.refl _) rfl) ?_; refine s_do (o_q (.bool (!r_20)) rfl trivial rfl) ?_; refine s_do (o_mov (.bool (!r_20)) rfl) ?_
  rcases oi hb1 with ⟨c22, hb1⟩ | ⟨c22, hb1⟩
  ·refine s_lit (s := 13) (b := true) rfl c22 ?_; refine s_off rfl rfl ?_; refine s_off rfl rfl ?_; refine s_off rfl rfl ?_; refine s_off rfl rfl ?_; refine s_do (o_q (.bool true) rfl trivial rfl) ?_; refine s_do (o_mov (.bool true) rfl) ?_; refine s_off rfl rfl ?_; refine s_off rfl rfl ?_; refine s_off rfl rfl ?_; refine s_off rfl rfl ?_; refine s_do (o_q (.bool true) rfl trivial rfl) ?_; refine s_do (o_mov (.bool true) rfl) ?_; refine s_off rfl rfl ?_; refine s_off rfl rfl ?_; refine s_off rfl rfl ?_; refine s_off rfl rfl ?_; refine s_do (o_q (.bool true) rfl trivial rfl) ?_; refine s_do (o_mov (.bool true) rfl) ?_
   refine s_off rfl rfl ?_; refine s_off rfl rfl ?_; refine s_off rfl rfl ?_; refine s_off rfl rfl ?_; refine s_do (o_q (.bool true) rfl trivial rfl) ?_; refine s_do (o_mov (.bool true) rfl) ?_; refine s_off rfl rfl ?_; refine s_off rfl rfl ?_; refine s_off rfl rfl ?_; refine s_off rfl rfl ?_; refine s_do (o_q (.bool true) rfl trivial rfl) ?_; refine s_do (o_mov (.bool true) rfl) ?_; refine s_off rfl rfl ?_; refine s_off rfl rfl ?_; refine s_off rfl rfl ?_; refine s_off rfl rfl ?_; refine s_do (o_q (.bool true) rfl trivial rfl) ?_; refine w_done ?_; obtain rfl := os hb1; exact ⟨[], [0], _, _, rfl, rfl, ⟨.refl _, ⟨.refl _, trivial⟩⟩, (.refl _)⟩
  ·refine s_lit (s := 13) (b := false) rfl (bf c22) ?_; refine s_on rfl ?_; refine s_do (o_q (.ptr 0 0 1) rfl trivial rfl) ?_; refine s_on rfl ?_; refine s_do (o_q (.str o_1.Table) rfl nle rfl) ?_; refine s_on rfl ?_; refine s_dof (o_lenS rfl) fun hl23 => ?_; refine s_on rfl ?_; refine s_do (o_q (.bool (decide ((o_1.Table.length : Int) > 40))) rfl rfl rfl) ?_; refine s_do (o_q (.bool (decide ((o_1.Table.length : Int) > 40))) rfl trivial rfl) ?_; refine s_do (o_mov (.bool (decide ((o_1.Table.length : Int) > 40))) rfl) ?_
   rcases oi hb1 with ⟨c24, hb1⟩ | ⟨c24, hb1⟩
   ·refine s_lit (s := 19) (b := true) rfl c24 ?_; refine s_off rfl rfl ?_; refine s_off rfl rfl ?_; refine s_off rfl rfl ?_; refine s_off rfl rfl ?_; refine s_do (o_q (.bool true) rfl trivial rfl) ?_; refine s_do (o_mov (.bool true) rfl) ?_; refine s_off rfl rfl ?_; refine s_off rfl rfl ?_; refine s_off rfl rfl ?_; refine s_off rfl rfl ?_; refine s_do (o_q (.bool true) rfl trivial rfl) ?_; refine s_do (o_mov (.bool true) rfl) ?_; refine s_off rfl rfl ?_; refine s_off rfl rfl ?_; refine s_off rfl rfl ?_; refine s_off rfl rfl ?_; refine s_do (o_q (.bool true) rfl trivial rfl) ?_; refine s_do (o_mov (.bool true) rfl) ?_
    refine s_off rfl rfl ?_; refine s_off rfl rfl ?_; refine s_off rfl rfl ?_; refine s_off rfl rfl ?_; refine s_do (o_q (.bool true) rfl trivial rfl) ?_; refine s_do (o_mov (.bool true) rfl) ?_; refine s_off rfl rfl ?_; refine s_off rfl rfl ?_; refine s_off rfl rfl ?_; refine s_off rfl rfl ?_; refine s_do (o_q (.bool true) rfl trivial rfl) ?_; refine w_done ?_; obtain rfl := os hb1; exact ⟨[], [0], _, _, rfl, rfl, ⟨.refl _, ⟨.refl _, trivial⟩⟩, (.refl _)⟩
   ·refine s_lit (s := 19) (b := false) rfl (bf c24) ?_; refine s_on rfl ?_; refine s_do (o_q (.ptr 0 0 2) rfl trivial rfl) ?_; refine s_on rfl ?_; refine s_do (o_q (.str o_1.Name) rfl nle rfl) ?_; refine s_on rfl ?_; refine s_dof (o_lenS rfl) fun hl25 => ?_; refine s_on rfl ?_; refine s_do (o_q (.bool (decide ((o_1.Name.length : Int) > 40))) rfl rfl rfl) ?_; refine s_do (o_q (.bool (decide ((o_1.Name.length : Int) > 40))) rfl trivial rfl) ?_; refine s_do (o_mov (.bool (decide ((o_1.Name.length : Int) > 40))) rfl) ?_
    rcases oi hb1 with ⟨c26, hb1⟩ | ⟨c26, hb1⟩
    ·refine s_lit (s := 25) (b := true) rfl c26 ?_; refine s_off rfl rfl ?_; refine s_off rfl rfl ?_; refine s_off rfl rfl ?_; refine s_off rfl rfl ?_; refine s_do (o_q (.bool true) rfl trivial rfl) ?_; refine s_do (o_mov (.bool true) rfl) ?_; refine s_off rfl rfl ?_; refine s_off rfl rfl ?_; refine s_off rfl rfl ?_; refine s_off rfl rfl ?_; refine s_do (o_q (.bool true) rfl trivial rfl) ?_; refine s_do (o_mov (.bool true) rfl) ?_; refine s_off rfl rfl ?_; refine s_off rfl rfl ?_; refine s_off rfl rfl ?_; refine s_off rfl rfl ?_; refine s_do (o_q (.bool true) rfl trivial rfl) ?_; refine s_do (o_mov (.bool true) rfl) ?_
     refine s_off rfl rfl ?_; refine s_off rfl rfl ?_; refine s_off rfl rfl ?_; refine s_off rfl rfl ?_; refine s_do (o_q (.bool true) rfl trivial rfl) ?_; refine w_done ?_; obtain rfl := os hb1; exact ⟨[], [0], _, _, rfl, rfl, ⟨.refl _, ⟨.refl _, trivial⟩⟩, (.refl _)⟩
    ·refine s_lit (s := 25) (b := false) rfl (bf c26) ?_; refine s_on rfl ?_; refine s_do (o_q (.ptr 0 0 3) rfl trivial rfl) ?_; refine s_on rfl ?_; refine s_do (o_q (.lst 3 (o_1.Where.map encGCond)) rfl nle rfl) ?_; refine s_on rfl ?_
     obtain ⟨r_27, er28, hb1⟩ := ob hb1
     refine s_do (o_call (w_spec_l06List _ _ er28) rfl (.refl _) rfl) ?_; refine s_on rfl ?_; refine s_do (o_q (.bool (!r_27)) rfl trivial rfl) ?_; refine s_do (o_q (.bool (!r_27)) rfl trivial rfl) ?_; refine s_do (o_mov (.bool (!r_27)) rfl) ?_
     rcases oi hb1 with ⟨c29, hb1⟩ | ⟨c29, hb1⟩
     ·refine s_lit (s := 31) (b := true) rfl c29 ?_; refine s_off rfl rfl ?_; refine s_off rfl rfl ?_; refine s_off rfl rfl ?_; refine s_off rfl rfl ?_; refine s_do (o_q (.bool true) rfl trivial rfl) ?_; refine s_do (o_mov (.bool true) rfl) ?_; refine s_off rfl rfl ?_; refine s_off rfl rfl ?_; refine s_off rfl rfl ?_; refine s_off rfl rfl ?_; refine s_do (o_q (.bool true) rfl trivial rfl) ?_; refine s_do (o_mov (.bool true) rfl) ?_; refine s_off rfl rfl ?_; refine s_off rfl rfl ?_; refine s_off rfl rfl ?_; refine s_off rfl rfl ?_; refine s_do (o_q (.bool true) rfl trivial rfl) ?_; refine w_done ?_
      obtain rfl := os hb1; exact ⟨[], [0], _, _, rfl, rfl, ⟨.refl _, ⟨.refl _, trivial⟩⟩, (.refl _)⟩
     ·refine s_lit (s := 31) (b := false) rfl (bf c29) ?_; refine s_on rfl ?_; refine s_do (o_q (.ptr 0 0 5) rfl trivial rfl) ?_; refine s_on rfl ?_; refine s_do (o_q (.lst 3 (o_1.Muts.map encGMut)) rfl nle rfl) ?_; refine s_on rfl ?_
      obtain ⟨r_30, er31, hb1⟩ := ob hb1
      refine s_do (o_call (w_spec_l07List _ _ er31) rfl (.refl _) rfl) ?_; refine s_on rfl ?_; refine s_do (o_q (.bool (!r_30)) rfl trivial rfl) ?_; refine s_do (o_q (.bool (!r_30)) rfl trivial rfl) ?_; refine s_do (o_mov (.bool (!r_30)) rfl) ?_
      rcases oi hb1 with ⟨c32, hb1⟩ | ⟨c32, hb1⟩
      ·refine s_lit (s := 37) (b := true) rfl c32 ?_; refine s_off rfl rfl ?_; refine s_off rfl rfl ?_; refine s_off rfl rfl ?_; refine s_off rfl rfl ?_; refine s_do (o_q (.bool true) rfl trivial rfl) ?_; refine s_do (o_mov (.bool true) rfl) ?_; refine s_off rfl rfl ?_; refine s_off rfl rfl ?_; refine s_off rfl rfl ?_; refine s_off rfl rfl ?_; refine s_do (o_q (.bool true) rfl trivial rfl) ?_; refine w_done ?_; obtain rfl := os hb1; exact ⟨[], [0], _, _, rfl, rfl, ⟨.refl _, ⟨.refl _, trivial⟩⟩, (.refl _)⟩
      ·refine s_lit (s := 37) (b := false) rfl (bf c32) ?_; refine s_on rfl ?_; refine s_do (o_q (.ptr 0 0 4) rfl trivial rfl) ?_; refine s_on rfl ?_; refine s_do (o_q (.lst 3 (o_1.Row.map encGSet)) rfl nle rfl) ?_; refine s_on rfl ?_; refine s_dof (o_len (enc := encGSet) rfl) fun hl33 => ?_; refine s_on rfl ?_; refine s_do (o_q (.bool (decide ((o_1.Row.length : Int) > 6))) rfl rfl rfl) ?_; refine s_do (o_q (.bool (decide ((o_1.Row.length : Int) > 6))) rfl trivial rfl) ?_; refine s_do (o_mov (.bool (decide ((o_1.Row.length : Int) > 6))) rfl) ?_
       rcases oi hb1 with ⟨c34, hb1⟩ | ⟨c34, hb1⟩
       ·refine s_lit (s := 43) (b := true) rfl c34 ?_; refine s_off rfl rfl ?_; refine s_off rfl rfl ?_; refine s_off rfl rfl ?_; refine s_off rfl rfl ?_; refine s_do (o_q (.bool true) rfl trivial rfl) ?_; refine w_done ?_; obtain rfl := os hb1; exact ⟨[], [0], _, _, rfl, rfl, ⟨.refl _, ⟨.refl _, trivial⟩⟩, (.refl _)⟩
       ·refine s_lit (s := 43) (b := false) rfl (bf c34) ?_; refine s_on rfl ?_; refine s_do (o_q (.ptr 0 0 6) rfl trivial rfl) ?_; refine s_on rfl ?_; refine s_do (o_q (.lst 1 (o_1.Columns.map AV.str)) rfl nle rfl) ?_; refine s_on rfl ?_; refine s_dof (o_len (enc := AV.str) rfl) fun hl35 => ?_; refine s_on rfl ?_; refine s_do (o_q (.bool (decide ((o_1.Columns.length : Int) > 6))) rfl rfl rfl) ?_; refine s_do (o_q (.bool (decide ((o_1.Columns.length : Int) > 6))) rfl trivial rfl) ?_; refine w_done ?_; obtain rfl := os hb1; exact ⟨[], [0], _, _, rfl, rfl, ⟨.refl _, ⟨.refl _, trivial⟩⟩, (.refl _)⟩
 ·rcases oi hf with ⟨c36, hf⟩ | ⟨c36, hf⟩
  ·refine w_condt rfl c36 ?_; refine awp_seq ?_; refine w_reg ?_; refine s_do (o_mov (.bool false) rfl) ?_; refine w_done ?_; refine k_seq ?_; refine w_ret ?_; obtain rfl := os hf; exact r_flat ⟨trivial, trivial⟩ rfl (.refl _)
  ·refine w_condf rfl (bf c36) ?_; refine w_skip ?_; refine k_seq ?_; refine awp_seq ?_; refine awp_seq ?_; refine w_reg ?_; refine s_do (o_mov (.int .i64 0) rfl) ?_; refine w_done ?_; refine k_seq ?_
   obtain ⟨p61, hb1, hf⟩ := ob hf
   refine awp_cutx (X := {q : Unit // p61 = .go q}) (fun q => ([(1, (.ptr 0 0 0))], [.box 8 (.agg [(.int .i64 o_1.Kind), (.str o_1.Table), (.str o_1.Name), (.lst 3 (o_1.Where.map encGCond)), (.lst 3 (o_1.Row.map encGSet)), (.lst 3 (o_1.Muts.map encGMut)), (.lst 1 (o_1.Columns.map AV.str)), (.bool o_1.Until)])])) ?_ ?_
   ·refine awp_loop (X := {q : Nat // spec_OpOK_L1 (o_1.Row.drop q)  = some p61}) (fun q => ([(1, (.ptr 0 0 0)), (3, (.int .i64 (q.1 : Int)))], [.box 8 (.agg [(.int .i64 o_1.Kind), (.str o_1.Table), (.str o_1.Name), (.lst 3 (o_1.Where.map encGCond)), (.lst 3 (o_1.Row.map encGSet)), (.lst 3 (o_1.Muts.map encGMut)), (.lst 1 (o_1.Columns.map AV.str)), (.bool o_1.Until)])])) (fun q => o_1.Row.length - q.1) ⟨0, hb1⟩ ⟨[], [0], _, _, rfl, rfl, ⟨.refl _, ⟨.refl _, trivial⟩⟩, (.refl _)⟩ ?_
    rintro ⟨i_52, hc1⟩
    have hc1 : spec_OpOK_L1 (o_1.Row.drop i_52)  = some p61 := hc1
    refine (show awp Try.prog false 0 _ (ofL [(1, (.ptr 0 0 0)), (3, (.int .i64 (i_52 : Int)))]) [.box 8 (.agg [(.int .i64 o_1.Kind), (.str o_1.Table), (.str o_1.Name), (.lst 3 (o_1.Where.map encGCond)), (.lst 3 (o_1.Row.map encGSet)), (.lst 3 (o_1.Muts.map encGMut)), (.lst 1 (o_1.Columns.map AV.str)), (.bool o_1.Until)])] _ from ?_)
    rcases dropc o_1.Row i_52 with ⟨hie64, hd67⟩ | ⟨hlt62, x_68, hx63, hd67⟩
    ·rw [hd67, spec_OpOK_L1.eq_1] at hc1
     have hq66 := dlf hie64
     refine awp_seq ?_; refine awp_seq ?_; refine w_reg ?_; refine s_do (o_mov (.int .i64 (i_52 : Int)) rfl) ?_; refine s_do (o_q (.ptr 0 0 4) rfl trivial rfl) ?_; refine s_do (o_q (.lst 3 (o_1.Row.map encGSet)) rfl nle rfl) ?_; refine s_dof (o_len (enc := encGSet) rfl) fun hl69 => ?_; refine s_do (o_q (.bool (decide ((i_52 : Int) < (o_1.Row.length : Int)))) rfl rfl rfl) ?_; refine w_done ?_; refine k_seq ?_; refine w_condf rfl hq66 ?_; refine w_exit ?_; refine k_seqx ?_; refine k_loopx ?_; refine k_blkx ?_; obtain rfl := os hc1; exact k_cutn ⟨_, rfl⟩ ⟨[], [0], _, _, rfl, rfl, ⟨.refl _, trivial⟩, (.refl _)⟩
    ·rw [hd67, spec_OpOK_L1.eq_2] at hc1
     have hq66 := dlt hlt62
     refine awp_seq ?_; refine awp_seq ?_; refine w_reg ?_; refine s_do (o_mov (.int .i64 (i_52 : Int)) rfl) ?_; refine s_do (o_q (.ptr 0 0 4) rfl trivial rfl) ?_; refine s_do (o_q (.lst 3 (o_1.Row.map encGSet)) rfl nle rfl) ?_; refine s_dof (o_len (enc := encGSet) rfl) fun hl70 => ?_; refine s_do (o_q (.bool (decide ((i_52 : Int) < (o_1.Row.length : Int)))) rfl rfl rfl) ?_; refine w_done ?_; refine k_seq ?_; refine w_condt rfl hq66 ?_; refine w_skip ?_; refine k_seq ?_; refine awp_seq ?_; refine w_blk ?_; refine awp_seq ?_; refine w_reg ?_
     obtain ⟨r_71, er72, hc1⟩ := ob hc1
     refine s_do (o_q (.ptr 0 0 4) rfl trivial rfl) ?_; refine s_do (o_q (.lst 3 (o_1.Row.map encGSet)) rfl nle rfl) ?_; refine s_do (o_mov (.int .i64 (i_52 : Int)) rfl) ?_; refine s_do (o_iaddrn (enc := encGSet) rfl rfl hx63) ?_; refine s_do (o_q (encGSet x_68) rfl nle rfl) ?_; refine s_do (o_call (w_spec_l08Set _ _ er72) rfl (.refl _) rfl) ?_; refine s_do (o_q (.bool (!r_71)) rfl trivial rfl) ?_; refine w_done ?_; refine k_seq ?_
     rcases oi hc1 with ⟨c73, hc1⟩ | ⟨c73, hc1⟩
     ·refine w_condt rfl c73 ?_; refine awp_seq ?_; refine w_reg ?_; refine s_do (o_mov (.bool false) rfl) ?_; refine w_done ?_; refine k_seq ?_; refine w_ret ?_; obtain rfl := os hc1; obtain rfl := os hf; exact r_flat ⟨trivial, trivial⟩ rfl (.refl _)
     ·refine w_condf rfl (bf c73) ?_; refine w_skip ?_; refine k_blk ?_; refine k_seq ?_; refine w_reg ?_; refine s_do (o_mov (.int .i64 (i_52 : Int)) rfl) ?_; refine s_do (o_q (.int .i64 (w64 ((i_52 : Int) + 1))) rfl rfl rfl) ?_; refine s_do (o_mov (.int .i64 (w64 ((i_52 : Int) + 1))) rfl) ?_; refine w_done ?_; exact k_loopn ⟨(i_52 + 1), hc1⟩ (mul hlt62) ⟨[], [0], _, _, rfl, rfl, ⟨.refl _, ⟨.of_eq (congrArg (AV.int _) (w64_incr hlt62 hl70)), trivial⟩⟩, (.refl _)⟩
   ·rintro ⟨_, rfl⟩
    refine awp_seq ?_; refine awp_seq ?_; refine w_reg ?_; refine s_do (o_mov (.int .i64 0) rfl) ?_; refine w_done ?_; refine k_seq ?_
    obtain ⟨p95, hb1, hf⟩ := ob hf
    refine awp_cutx (X := {q : Unit // p95 = .go q}) (fun q => ([(1, (.ptr 0 0 0))], [.box 8 (.agg [(.int .i64 o_1.Kind), (.str o_1.Table), (.str o_1.Name), (.lst 3 (o_1.Where.map encGCond)), (.lst 3 (o_1.Row.map encGSet)), (.lst 3 (o_1.Muts.map encGMut)), (.lst 1 (o_1.Columns.map AV.str)), (.bool o_1.Until)])])) ?_ ?_
    ·refine awp_loop (X := {q : Nat // spec_OpOK_L2 (o_1.Columns.drop q)  = some p95}) (fun q => ([(1, (.ptr 0 0 0)), (4, (.int .i64 (q.1 : Int)))], [.box 8 (.agg [(.int .i64 o_1.Kind), (.str o_1.Table), (.str o_1.Name), (.lst 3 (o_1.Where.map encGCond)), (.lst 3 (o_1.Row.map encGSet)), (.lst 3 (o_1.Muts.map encGMut)), (.lst 1 (o_1.Columns.map AV.str)), (.bool o_1.Until)])])) (fun q => o_1.Columns.length - q.1) ⟨0, hb1⟩ ⟨[], [0], _, _, rfl, rfl, ⟨.refl _, ⟨.refl _, trivial⟩⟩, (.refl _)⟩ ?_
     rintro ⟨i_87, hc1⟩
     have hc1 : spec_OpOK_L2 (o_1.Columns.drop i_87)  = some p95 := hc1
     refine (show awp Try.prog false 0 _ (ofL [(1, (.ptr 0 0 0)), (4, (.int .i64 (i_87 : Int)))]) [.box 8 (.agg [(.int .i64 o_1.Kind), (.str o_1.Table), (.str o_1.Name), (.lst 3 (o_1.Where.map encGCond)), (.lst 3 (o_1.Row.map encGSet)), (.lst 3 (o_1.Muts.map encGMut)), (.lst 1 (o_1.Columns.map AV.str)), (.bool o_1.Until)])] _ from ?_)
     rcases dropc o_1.Columns i_87 with ⟨hie98, hd101⟩ | ⟨hlt96, x_102, hx97, hd101⟩
     ·rw [hd101, spec_OpOK_L2.eq_1] at hc1
      have hq100 := dlf hie98
      refine awp_seq ?_; refine awp_seq ?_; refine w_reg ?_; refine s_do (o_mov (.int .i64 (i_87 : Int)) rfl) ?_; refine s_do (o_q (.ptr 0 0 6) rfl trivial rfl) ?_; refine s_do (o_q (.lst 1 (o_1.Columns.map AV.str)) rfl nle rfl) ?_; refine s_dof (o_len (enc := AV.str) rfl) fun hl103 => ?_; refine s_do (o_q (.bool (decide ((i_87 : Int) < (o_1.Columns.length : Int)))) rfl rfl rfl) ?_; refine w_done ?_; refine k_seq ?_; refine w_condf rfl hq100 ?_; refine w_exit ?_; refine k_seqx ?_; refine k_loopx ?_; refine k_blkx ?_; obtain rfl := os hc1; exact k_cutn ⟨_, rfl⟩ ⟨[], [0], _, _, rfl, rfl, ⟨.refl _, trivial⟩, (.refl _)⟩
     ·rw [hd101, spec_OpOK_L2.eq_2] at hc1
      have hq100 := dlt hlt96
      refine awp_seq ?_; refine awp_seq ?_; refine w_reg ?_; refine s_do (o_mov (.int .i64 (i_87 : Int)) rfl) ?_; refine s_do (o_q (.ptr 0 0 6) rfl trivial rfl) ?_; refine s_do (o_q (.lst 1 (o_1.Columns.map AV.str)) rfl nle rfl) ?_; refine s_dof (o_len (enc := AV.str) rfl) fun hl104 => ?_; refine s_do (o_q (.bool (decide ((i_87 : Int) < (o_1.Columns.length : Int)))) rfl rfl rfl) ?_; refine w_done ?_; refine k_seq ?_; refine w_condt rfl hq100 ?_; refine w_skip ?_; refine k_seq ?_; refine awp_seq ?_; refine w_blk ?_; refine awp_seq ?_; refine w_reg ?_; refine s_do (o_q (.ptr 0 0 6) rfl trivial rfl) ?_
      refine s_do (o_q (.lst 1 (o_1.Columns.map AV.str)) rfl nle rfl) ?_; refine s_do (o_mov (.int .i64 (i_87 : Int)) rfl) ?_; refine s_do (o_iaddrn (enc := AV.str) rfl rfl hx97) ?_; refine s_do (o_q (.str x_102) rfl ⟨rfl, rfl⟩ rfl) ?_; refine s_dof (o_lenS rfl) fun hl105 => ?_; refine s_do (o_q (.bool (decide ((x_102.length : Int) > 40))) rfl rfl rfl) ?_; refine w_done ?_; refine k_seq ?_
      rcases oi hc1 with ⟨c106, hc1⟩ | ⟨c106, hc1⟩
      ·refine w_condt rfl c106 ?_; refine awp_seq ?_; refine w_reg ?_; refine s_do (o_mov (.bool false) rfl) ?_; refine w_done ?_; refine k_seq ?_; refine w_ret ?_; obtain rfl := os hc1; obtain rfl := os hf; exact r_flat ⟨trivial, trivial⟩ rfl (.refl _)
      ·refine w_condf rfl (bf c106) ?_; refine w_skip ?_; refine k_blk ?_; refine k_seq ?_; refine w_reg ?_; refine s_do (o_mov (.int .i64 (i_87 : Int)) rfl) ?_; refine s_do (o_q (.int .i64 (w64 ((i_87 : Int) + 1))) rfl rfl rfl) ?_; refine s_do (o_mov (.int .i64 (w64 ((i_87 : Int) + 1))) rfl) ?_; refine w_done ?_; exact k_loopn ⟨(i_87 + 1), hc1⟩ (mul hlt96) ⟨[], [0], _, _, rfl, rfl, ⟨.refl _, ⟨.of_eq (congrArg (AV.int _) (w64_incr hlt96 hl104)), trivial⟩⟩, (.refl _)⟩
    ·rintro ⟨_, rfl⟩
     refine awp_seq ?_; refine w_reg ?_
     obtain ⟨r_107, er108, hf⟩ := ob hf
     refine s_do (o_q (.ptr 0 0 0) rfl trivial rfl) ?_; refine s_do (o_q (.int .i64 o_1.Kind) rfl nle rfl) ?_; refine s_do (o_call (w_spec_l01In _ _ _ _ er108) rfl (.refl _) rfl) ?_; refine s_do (o_mov (.bool r_107) rfl) ?_; refine w_done ?_; refine k_seq ?_; refine awp_seq ?_; refine w_reg ?_
     obtain ⟨r_109, er110, hf⟩ := ob hf
     refine s_do (o_q (.ptr 0 0 0) rfl trivial rfl) ?_; refine s_do (o_q (.int .i64 o_1.Kind) rfl nle rfl) ?_; refine s_do (o_call (w_spec_l01In _ _ _ _ er110) rfl (.refl _) rfl) ?_; refine s_do (o_mov (.bool r_109) rfl) ?_; refine w_done ?_; refine k_seq ?_; refine awp_seq ?_
     obtain ⟨name_112, hb1, hf⟩ := ob hf
     refine awp_cut ([(1, (.ptr 0 0 0)), (5, (.bool r_107)), (6, (.bool r_109)), (7, (.bool name_112))], [.box 8 (.agg [(.int .i64 o_1.Kind), (.str o_1.Table), (.str o_1.Name), (.lst 3 (o_1.Where.map encGCond)), (.lst 3 (o_1.Row.map encGSet)), (.lst 3 (o_1.Muts.map encGMut)), (.lst 1 (o_1.Columns.map AV.str)), (.bool o_1.Until)])]) ?_ ?_
     ·refine w_reg ?_
      rcases oi hb1 with ⟨c114, hb1⟩ | ⟨c114, hb1⟩
      ·refine s_do (o_q (.ptr 0 0 0) rfl trivial rfl) ?_; refine s_do (o_q (.int .i64 o_1.Kind) rfl nle rfl) ?_; refine s_do (o_q (.bool (o_1.Kind == 1)) rfl rfl rfl) ?_; refine s_do (o_mov (.bool (o_1.Kind == 1)) rfl) ?_; refine s_lit (s := 86) (b := true) rfl c114 ?_; refine s_off rfl rfl ?_; refine s_off rfl rfl ?_; refine s_off rfl rfl ?_; refine s_do (o_q (.bool true) rfl trivial rfl) ?_; refine s_do (o_mov (.bool true) rfl) ?_; refine w_done ?_; obtain rfl := os hb1; exact ⟨[], [0], _, _, rfl, rfl, ⟨.refl _, ⟨.refl _, ⟨.refl _, ⟨.refl _, trivial⟩⟩⟩⟩, (.refl _)⟩
      ·refine s_do (o_q (.ptr 0 0 0) rfl trivial rfl) ?_; refine s_do (o_q (.int .i64 o_1.Kind) rfl nle rfl) ?_; refine s_do (o_q (.bool (o_1.Kind == 1)) rfl rfl rfl) ?_; refine s_do (o_mov (.bool (o_1.Kind == 1)) rfl) ?_; refine s_lit (s := 86) (b := false) rfl (bf c114) ?_; refine s_on rfl ?_; refine s_do (o_q (.ptr 0 0 0) rfl trivial rfl) ?_; refine s_on rfl ?_; refine s_do (o_q (.int .i64 o_1.Kind) rfl nle rfl) ?_; refine s_on rfl ?_; refine s_do (o_q (.bool (decide (o_1.Kind ≥ 9))) rfl rfl rfl) ?_; refine s_do (o_q (.bool (decide (o_1.Kind ≥ 9))) rfl trivial rfl) ?_; refine s_do (o_mov (.bool (decide (o_1.Kind ≥ 9))) rfl) ?_
       refine w_done ?_; obtain rfl := os hb1; exact ⟨[], [0], _, _, rfl, rfl, ⟨.refl _, ⟨.refl _, ⟨.refl _, ⟨.refl _, trivial⟩⟩⟩⟩, (.refl _)⟩
     ·refine awp_seq ?_
      obtain ⟨row_117, hb1, hf⟩ := ob hf
      refine awp_cut ([(1, (.ptr 0 0 0)), (5, (.bool r_107)), (6, (.bool r_109)), (7, (.bool name_112)), (8, (.bool row_117))], [.box 8 (.agg [(.int .i64 o_1.Kind), (.str o_1.Table), (.str o_1.Name), (.lst 3 (o_1.Where.map encGCond)), (.lst 3 (o_1.Row.map encGSet)), (.lst 3 (o_1.Muts.map encGMut)), (.lst 1 (o_1.Columns.map AV.str)), (.bool o_1.Until)])]) ?_ ?_
      ·refine w_reg ?_; refine s_do (o_q (.ptr 0 0 0) rfl trivial rfl) ?_; refine s_do (o_q (.int .i64 o_1.Kind) rfl nle rfl) ?_; refine s_do (o_q (.bool (o_1.Kind == 1)) rfl rfl rfl) ?_; refine s_do (o_mov (.bool (o_1.Kind == 1)) rfl) ?_
       rcases oi hb1 with ⟨c119, hb1⟩ | ⟨c119, hb1⟩
       ·refine s_lit (s := 94) (b := true) rfl c119 ?_; refine s_off rfl rfl ?_; refine s_off rfl rfl ?_; refine s_off rfl rfl ?_; refine s_do (o_q (.bool true) rfl trivial rfl) ?_; refine s_do (o_mov (.bool true) rfl) ?_; refine s_off rfl rfl ?_; refine s_off rfl rfl ?_; refine s_off rfl rfl ?_; refine s_do (o_q (.bool true) rfl trivial rfl) ?_; refine s_do (o_mov (.bool true) rfl) ?_; refine w_done ?_; obtain rfl := os hb1; exact ⟨[], [0], _, _, rfl, rfl, ⟨.refl _, ⟨.refl _, ⟨.refl _, ⟨.refl _, ⟨.refl _, trivial⟩⟩⟩⟩⟩, (.refl _)⟩
       ·refine s_lit (s := 94) (b := false) rfl (bf c119) ?_; refine s_on rfl ?_; refine s_do (o_q (.ptr 0 0 0) rfl trivial rfl) ?_; refine s_on rfl ?_; refine s_do (o_q (.int .i64 o_1.Kind) rfl nle rfl) ?_; refine s_on rfl ?_; refine s_do (o_q (.bool (o_1.Kind == 3)) rfl rfl rfl) ?_; refine s_do (o_q (.bool (o_1.Kind == 3)) rfl trivial rfl) ?_; refine s_do (o_mov (.bool (o_1.Kind == 3)) rfl) ?_
        rcases oi hb1 with ⟨c120, hb1⟩ | ⟨c120, hb1⟩
        ·refine s_lit (s := 99) (b := true) rfl c120 ?_; refine s_off rfl rfl ?_; refine s_off rfl rfl ?_; refine s_off rfl rfl ?_; refine s_do (o_q (.bool true) rfl trivial rfl) ?_; refine s_do (o_mov (.bool true) rfl) ?_; refine w_done ?_; obtain rfl := os hb1; exact ⟨[], [0], _, _, rfl, rfl, ⟨.refl _, ⟨.refl _, ⟨.refl _, ⟨.refl _, ⟨.refl _, trivial⟩⟩⟩⟩⟩, (.refl _)⟩
        ·refine s_lit (s := 99) (b := false) rfl (bf c120) ?_; refine s_on rfl ?_; refine s_do (o_q (.ptr 0 0 0) rfl trivial rfl) ?_; refine s_on rfl ?_; refine s_do (o_q (.int .i64 o_1.Kind) rfl nle rfl) ?_; refine s_on rfl ?_; refine s_do (o_q (.bool (o_1.Kind == 6)) rfl rfl rfl) ?_; refine s_do (o_q (.bool (o_1.Kind == 6)) rfl trivial rfl) ?_; refine s_do (o_mov (.bool (o_1.Kind == 6)) rfl) ?_; refine w_done ?_; obtain rfl := os hb1; exact ⟨[], [0], _, _, rfl, rfl, ⟨.refl _, ⟨.refl _, ⟨.refl _, ⟨.refl _, ⟨.refl _, trivial⟩⟩⟩⟩⟩, (.refl _)⟩
      ·refine awp_seq ?_; refine w_reg ?_; refine s_do (o_mov (.bool r_107) rfl) ?_; refine s_do (o_mov (.bool r_107) rfl) ?_
       rcases oi hf with ⟨c121, hf⟩ | ⟨c121, hf⟩
       ·refine s_lit (s := 105) (b := true) rfl c121 ?_; refine s_off rfl rfl ?_; refine s_off rfl rfl ?_; refine s_off rfl rfl ?_; refine s_do (o_q (.bool true) rfl trivial rfl) ?_; refine s_do (o_mov (.bool true) rfl) ?_; refine s_on rfl ?_; refine s_do (o_mov (.bool r_109) rfl) ?_; refine s_on rfl ?_; refine s_do (o_mov (.bool r_109) rfl) ?_
        rcases oi hf with ⟨c122, hf⟩ | ⟨c122, hf⟩
        ·refine s_lit (s := 112) (b := true) rfl c122 ?_; refine s_off rfl rfl ?_; refine s_off rfl rfl ?_; refine s_off rfl rfl ?_; refine s_off rfl rfl ?_; refine s_on rfl ?_; refine s_do (o_q (.bool true) rfl trivial rfl) ?_; refine s_do (o_q (.bool true) rfl trivial rfl) ?_; refine s_do (o_mov (.bool true) rfl) ?_; refine s_on rfl ?_; refine s_do (o_mov (.bool name_112) rfl) ?_; refine s_on rfl ?_; refine s_do (o_mov (.bool name_112) rfl) ?_
         rcases oi hf with ⟨c123, hf⟩ | ⟨c123, hf⟩
         ·refine s_lit (s := 121) (b := true) rfl c123 ?_; refine s_off rfl rfl ?_; refine s_off rfl rfl ?_; refine s_off rfl rfl ?_; refine s_on rfl ?_; refine s_do (o_q (.bool true) rfl trivial rfl) ?_; refine s_do (o_q (.bool true) rfl trivial rfl) ?_; refine s_do (o_mov (.bool true) rfl) ?_; refine s_on rfl ?_; refine s_do (o_mov (.bool row_117) rfl) ?_; refine s_on rfl ?_; refine s_do (o_mov (.bool row_117) rfl) ?_
          rcases oi hf with ⟨c124, hf⟩ | ⟨c124, hf⟩
          ·refine s_lit (s := 129) (b := true) rfl c124 ?_; refine s_off rfl rfl ?_; refine s_off rfl rfl ?_; refine s_off rfl rfl ?_; refine s_off rfl rfl ?_; refine s_on rfl ?_; refine s_do (o_q (.bool true) rfl trivial rfl) ?_; refine s_do (o_q (.bool true) rfl trivial rfl) ?_; refine s_do (o_mov (.bool true) rfl) ?_; refine s_on rfl ?_; refine s_do (o_q (.ptr 0 0 0) rfl trivial rfl) ?_; refine s_on rfl ?_; refine s_do (o_q (.int .i64 o_1.Kind) rfl nle rfl) ?_; refine s_on rfl ?_; refine s_do (o_q (.bool (o_1.Kind == 4)) rfl rfl rfl) ?_; refine s_on rfl ?_; refine s_do (o_mov (.bool (o_1.Kind == 4)) rfl) ?_
           rcases oi hf with ⟨c125, hf⟩ | ⟨c125, hf⟩
           ·refine s_lit (s := 140) (b := true) rfl c125 ?_; refine s_off rfl rfl ?_; refine s_off rfl rfl ?_; refine s_off rfl rfl ?_; refine s_off rfl rfl ?_; refine s_on rfl ?_; refine s_do (o_q (.bool true) rfl trivial rfl) ?_; refine s_do (o_q (.bool true) rfl trivial rfl) ?_; refine s_do (o_mov (.bool true) rfl) ?_; refine s_on rfl ?_; refine s_do (o_q (.ptr 0 0 0) rfl trivial rfl) ?_; refine s_on rfl ?_; refine s_do (o_q (.int .i64 o_1.Kind) rfl nle rfl) ?_; refine s_on rfl ?_; refine s_do (o_q (.bool (o_1.Kind == 2)) rfl rfl rfl) ?_; refine s_on rfl ?_; refine s_do (o_mov (.bool (o_1.Kind == 2)) rfl) ?_
            rcases oi hf with ⟨c126, hf⟩ | ⟨c126, hf⟩
            ·refine s_lit (s := 151) (b := true) rfl c126 ?_; refine s_off rfl rfl ?_; refine s_off rfl rfl ?_; refine s_off rfl rfl ?_; refine s_off rfl rfl ?_; refine s_on rfl ?_; refine s_do (o_q (.bool true) rfl trivial rfl) ?_; refine s_do (o_q (.bool true) rfl trivial rfl) ?_; refine s_do (o_mov (.bool true) rfl) ?_; refine s_on rfl ?_; refine s_do (o_q (.ptr 0 0 0) rfl trivial rfl) ?_; refine s_on rfl ?_; refine s_do (o_q (.int .i64 o_1.Kind) rfl nle rfl) ?_; refine s_on rfl ?_; refine s_do (o_q (.bool (o_1.Kind == 6)) rfl rfl rfl) ?_; refine s_on rfl ?_; refine s_do (o_mov (.bool (o_1.Kind == 6)) rfl) ?_
             rcases oi hf with ⟨c127, hf⟩ | ⟨c127, hf⟩
             ·refine s_lit (s := 162) (b := true) rfl c127 ?_; refine s_off rfl rfl ?_; refine s_off rfl rfl ?_; refine s_off rfl rfl ?_; refine s_on rfl ?_; refine s_do (o_q (.bool true) rfl trivial rfl) ?_; refine s_do (o_q (.bool true) rfl trivial rfl) ?_; refine s_do (o_mov (.bool true) rfl) ?_; refine w_done ?_; refine k_seq ?_; refine w_ret ?_; obtain rfl := os hf; exact r_flat ⟨trivial, trivial⟩ rfl (.refl _)
             ·refine s_lit (s := 162) (b := false) rfl (bf c127) ?_; refine s_on rfl ?_; refine s_do (o_q (.ptr 0 0 7) rfl trivial rfl) ?_; refine s_on rfl ?_; refine s_do (o_q (.bool o_1.Until) rfl nle rfl) ?_; refine s_on rfl ?_; refine s_do (o_q (.bool (!o_1.Until)) rfl trivial rfl) ?_; refine s_on rfl ?_; refine s_do (o_q (.bool (!o_1.Until)) rfl trivial rfl) ?_; refine s_do (o_q (.bool (!o_1.Until)) rfl trivial rfl) ?_; refine s_do (o_mov (.bool (!o_1.Until)) rfl) ?_; refine w_done ?_; refine k_seq ?_; refine w_ret ?_; obtain rfl := os hf; exact r_flat ⟨trivial, trivial⟩ rfl (.refl _)
            ·refine s_lit (s := 151) (b := false) rfl (bf c126) ?_; refine s_on rfl ?_; refine s_do (o_q (.ptr 0 0 6) rfl trivial rfl) ?_; refine s_on rfl ?_; refine s_do (o_q (.lst 1 (o_1.Columns.map AV.str)) rfl nle rfl) ?_; refine s_on rfl ?_; refine s_dof (o_len (enc := AV.str) rfl) fun hl128 => ?_; refine s_on rfl ?_; refine s_do (o_q (.bool ((o_1.Columns.length : Int) == 0)) rfl rfl rfl) ?_; refine s_on rfl ?_; refine s_do (o_q (.bool ((o_1.Columns.length : Int) == 0)) rfl trivial rfl) ?_; refine s_do (o_q (.bool ((o_1.Columns.length : Int) == 0)) rfl trivial rfl) ?_; refine s_do (o_mov (.bool ((o_1.Columns.length : Int) == 0)) rfl) ?_
             rcases oi hf with ⟨c129, hf⟩ | ⟨c129, hf⟩
             ·refine s_lit (s := 158) (b := true) rfl c129 ?_; refine s_on rfl ?_; refine s_do (o_q (.ptr 0 0 0) rfl trivial rfl) ?_; refine s_on rfl ?_; refine s_do (o_q (.int .i64 o_1.Kind) rfl nle rfl) ?_; refine s_on rfl ?_; refine s_do (o_q (.bool (o_1.Kind == 6)) rfl rfl rfl) ?_; refine s_on rfl ?_; refine s_do (o_mov (.bool (o_1.Kind == 6)) rfl) ?_
              rcases oi hf with ⟨c130, hf⟩ | ⟨c130, hf⟩
              ·refine s_lit (s := 162) (b := true) rfl c130 ?_; refine s_off rfl rfl ?_; refine s_off rfl rfl ?_; refine s_off rfl rfl ?_; refine s_on rfl ?_; refine s_do (o_q (.bool true) rfl trivial rfl) ?_; refine s_do (o_q (.bool true) rfl trivial rfl) ?_; refine s_do (o_mov (.bool true) rfl) ?_; refine w_done ?_; refine k_seq ?_; refine w_ret ?_; obtain rfl := os hf; exact r_flat ⟨trivial, trivial⟩ rfl (.refl _)
              ·refine s_lit (s := 162) (b := false) rfl (bf c130) ?_; refine s_on rfl ?_; refine s_do (o_q (.ptr 0 0 7) rfl trivial rfl) ?_; refine s_on rfl ?_; refine s_do (o_q (.bool o_1.Until) rfl nle rfl) ?_; refine s_on rfl ?_; refine s_do (o_q (.bool (!o_1.Until)) rfl trivial rfl) ?_; refine s_on rfl ?_; refine s_do (o_q (.bool (!o_1.Until)) rfl trivial rfl) ?_; refine s_do (o_q (.bool (!o_1.Until)) rfl trivial rfl) ?_; refine s_do (o_mov (.bool (!o_1.Until)) rfl) ?_; refine w_done ?_; refine k_seq ?_; refine w_ret ?_; obtain rfl := os hf; exact r_flat ⟨trivial, trivial⟩ rfl (.refl _)
             ·refine s_lit (s := 158) (b := false) rfl (bf c129) ?_; refine s_off rfl rfl ?_; refine s_off rfl rfl ?_; refine s_off rfl rfl ?_; refine s_off rfl rfl ?_; refine s_offs rfl ?_; refine s_offs rfl ?_; refine s_offs rfl ?_; refine s_off rfl rfl ?_; refine s_do (o_q (.bool false) rfl trivial rfl) ?_; refine s_do (o_mov (.bool false) rfl) ?_; refine w_done ?_; refine k_seq ?_; refine w_ret ?_; obtain rfl := os hf; exact r_flat ⟨trivial, trivial⟩ rfl (.refl _)
           ·refine s_lit (s := 140) (b := false) rfl (bf c125) ?_; refine s_on rfl ?_; refine s_do (o_q (.ptr 0 0 5) rfl trivial rfl) ?_; refine s_on rfl ?_; refine s_do (o_q (.lst 3 (o_1.Muts.map encGMut)) rfl nle rfl) ?_; refine s_on rfl ?_; refine s_dof (o_len (enc := encGMut) rfl) fun hl131 => ?_; refine s_on rfl ?_; refine s_do (o_q (.bool ((o_1.Muts.length : Int) == 0)) rfl rfl rfl) ?_; refine s_on rfl ?_; refine s_do (o_q (.bool ((o_1.Muts.length : Int) == 0)) rfl trivial rfl) ?_; refine s_do (o_q (.bool ((o_1.Muts.length : Int) == 0)) rfl trivial rfl) ?_; refine s_do (o_mov (.bool ((o_1.Muts.length : Int) == 0)) rfl) ?_
            rcases oi hf with ⟨c132, hf⟩ | ⟨c132, hf⟩
            ·refine s_lit (s := 147) (b := true) rfl c132 ?_; refine s_on rfl ?_; refine s_do (o_q (.ptr 0 0 0) rfl trivial rfl) ?_; refine s_on rfl ?_; refine s_do (o_q (.int .i64 o_1.Kind) rfl nle rfl) ?_; refine s_on rfl ?_; refine s_do (o_q (.bool (o_1.Kind == 2)) rfl rfl rfl) ?_; refine s_on rfl ?_; refine s_do (o_mov (.bool (o_1.Kind == 2)) rfl) ?_
             rcases oi hf with ⟨c133, hf⟩ | ⟨c133, hf⟩
             ·refine s_lit (s := 151) (b := true) rfl c133 ?_; refine s_off rfl rfl ?_; refine s_off rfl rfl ?_; refine s_off rfl rfl ?_; refine s_off rfl rfl ?_; refine s_on rfl ?_; refine s_do (o_q (.bool true) rfl trivial rfl) ?_; refine s_do (o_q (.bool true) rfl trivial rfl) ?_; refine s_do (o_mov (.bool true) rfl) ?_; refine s_on rfl ?_; refine s_do (o_q (.ptr 0 0 0) rfl trivial rfl) ?_; refine s_on rfl ?_; refine s_do (o_q (.int .i64 o_1.Kind) rfl nle rfl) ?_; refine s_on rfl ?_; refine s_do (o_q (.bool (o_1.Kind == 6)) rfl rfl rfl) ?_; refine s_on rfl ?_; refine s_do (o_mov (.bool (o_1.Kind == 6)) rfl) ?_
              rcases oi hf with ⟨c134, hf⟩ | ⟨c134, hf⟩
              ·refine s_lit (s := 162) (b := true) rfl c134 ?_; refine s_off rfl rfl ?_; refine s_off rfl rfl ?_; refine s_off rfl rfl ?_; refine s_on rfl ?_; refine s_do (o_q (.bool true) rfl trivial rfl) ?_; refine s_do (o_q (.bool true) rfl trivial rfl) ?_; refine s_do (o_mov (.bool true) rfl) ?_; refine w_done ?_; refine k_seq ?_; refine w_ret ?_; obtain rfl := os hf; exact r_flat ⟨trivial, trivial⟩ rfl (.refl _)
              ·refine s_lit (s := 162) (b := false) rfl (bf c134) ?_; refine s_on rfl ?_; refine s_do (o_q (.ptr 0 0 7) rfl trivial rfl) ?_; refine s_on rfl ?_; refine s_do (o_q (.bool o_1.Until) rfl nle rfl) ?_; refine s_on rfl ?_; refine s_do (o_q (.bool (!o_1.Until)) rfl trivial rfl) ?_; refine s_on rfl ?_; refine s_do (o_q (.bool (!o_1.Until)) rfl trivial rfl) ?_; refine s_do (o_q (.bool (!o_1.Until)) rfl trivial rfl) ?_; refine s_do (o_mov (.bool (!o_1.Until)) rfl) ?_; refine w_done ?_; refine k_seq ?_; refine w_ret ?_; obtain rfl := os hf; exact r_flat ⟨trivial, trivial⟩ rfl (.refl _)
             ·refine s_lit (s := 151) (b := false) rfl (bf c133) ?_; refine s_on rfl ?_; refine s_do (o_q (.ptr 0 0 6) rfl trivial rfl) ?_; refine s_on rfl ?_; refine s_do (o_q (.lst 1 (o_1.Columns.map AV.str)) rfl nle rfl) ?_; refine s_on rfl ?_; refine s_dof (o_len (enc := AV.str) rfl) fun hl135 => ?_; refine s_on rfl ?_; refine s_do (o_q (.bool ((o_1.Columns.length : Int) == 0)) rfl rfl rfl) ?_; refine s_on rfl ?_; refine s_do (o_q (.bool ((o_1.Columns.length : Int) == 0)) rfl trivial rfl) ?_; refine s_do (o_q (.bool ((o_1.Columns.length : Int) == 0)) rfl trivial rfl) ?_; refine s_do (o_mov (.bool ((o_1.Columns.length : Int) == 0)) rfl) ?_
              rcases oi hf with ⟨c136, hf⟩ | ⟨c136, hf⟩
              ·refine s_lit (s := 158) (b := true) rfl c136 ?_; refine s_on rfl ?_; refine s_do (o_q (.ptr 0 0 0) rfl trivial rfl) ?_; refine s_on rfl ?_; refine s_do (o_q (.int .i64 o_1.Kind) rfl nle rfl) ?_; refine s_on rfl ?_; refine s_do (o_q (.bool (o_1.Kind == 6)) rfl rfl rfl) ?_; refine s_on rfl ?_; refine s_do (o_mov (.bool (o_1.Kind == 6)) rfl) ?_
               rcases oi hf with ⟨c137, hf⟩ | ⟨c137, hf⟩
               ·refine s_lit (s := 162) (b := true) rfl c137 ?_; refine s_off rfl rfl ?_; refine s_off rfl rfl ?_; refine s_off rfl rfl ?_; refine s_on rfl ?_; refine s_do (o_q (.bool true) rfl trivial rfl) ?_; refine s_do (o_q (.bool true) rfl trivial rfl) ?_; refine s_do (o_mov (.bool true) rfl) ?_; refine w_done ?_; refine k_seq ?_; refine w_ret ?_; obtain rfl := os hf; exact r_flat ⟨trivial, trivial⟩ rfl (.refl _)
               ·refine s_lit (s := 162) (b := false) rfl (bf c137) ?_; refine s_on rfl ?_; refine s_do (o_q (.ptr 0 0 7) rfl trivial rfl) ?_; refine s_on rfl ?_; refine s_do (o_q (.bool o_1.Until) rfl nle rfl) ?_; refine s_on rfl ?_; refine s_do (o_q (.bool (!o_1.Until)) rfl trivial rfl) ?_; refine s_on rfl ?_; refine s_do (o_q (.bool (!o_1.Until)) rfl trivial rfl) ?_; refine s_do (o_q (.bool (!o_1.Until)) rfl trivial rfl) ?_; refine s_do (o_mov (.bool (!o_1.Until)) rfl) ?_; refine w_done ?_; refine k_seq ?_; refine w_ret ?_; obtain rfl := os hf; exact r_flat ⟨trivial, trivial⟩ rfl (.refl _)
              ·refine s_lit (s := 158) (b := false) rfl (bf c136) ?_; refine s_off rfl rfl ?_; refine s_off rfl rfl ?_; refine s_off rfl rfl ?_; refine s_off rfl rfl ?_; refine s_offs rfl ?_; refine s_offs rfl ?_; refine s_offs rfl ?_; refine s_off rfl rfl ?_; refine s_do (o_q (.bool false) rfl trivial rfl) ?_; refine s_do (o_mov (.bool false) rfl) ?_; refine w_done ?_; refine k_seq ?_; refine w_ret ?_; obtain rfl := os hf; exact r_flat ⟨trivial, trivial⟩ rfl (.refl _)
            ·refine s_lit (s := 147) (b := false) rfl (bf c132) ?_; refine s_off rfl rfl ?_; refine s_off rfl rfl ?_; refine s_off rfl rfl ?_; refine s_off rfl rfl ?_; refine s_offs rfl ?_; refine s_offs rfl ?_; refine s_offs rfl ?_; refine s_offs rfl ?_; refine s_off rfl rfl ?_; refine s_do (o_q (.bool false) rfl trivial rfl) ?_; refine s_do (o_mov (.bool false) rfl) ?_; refine s_off rfl rfl ?_; refine s_off rfl rfl ?_; refine s_off rfl rfl ?_; refine s_off rfl rfl ?_; refine s_offs rfl ?_; refine s_offs rfl ?_; refine s_offs rfl ?_; refine s_off rfl rfl ?_; refine s_do (o_q (.bool false) rfl trivial rfl) ?_
             refine s_do (o_mov (.bool false) rfl) ?_; refine w_done ?_; refine k_seq ?_; refine w_ret ?_; obtain rfl := os hf; exact r_flat ⟨trivial, trivial⟩ rfl (.refl _)
          ·refine s_lit (s := 129) (b := false) rfl (bf c124) ?_; refine s_on rfl ?_; refine s_do (o_q (.ptr 0 0 4) rfl trivial rfl) ?_; refine s_on rfl ?_; refine s_do (o_q (.lst 3 (o_1.Row.map encGSet)) rfl nle rfl) ?_; refine s_on rfl ?_; refine s_dof (o_len (enc := encGSet) rfl) fun hl138 => ?_; refine s_on rfl ?_; refine s_do (o_q (.bool ((o_1.Row.length : Int) == 0)) rfl rfl rfl) ?_; refine s_on rfl ?_; refine s_do (o_q (.bool ((o_1.Row.length : Int) == 0)) rfl trivial rfl) ?_; refine s_do (o_q (.bool ((o_1.Row.length : Int) == 0)) rfl trivial rfl) ?_; refine s_do (o_mov (.bool ((o_1.Row.length : Int) == 0)) rfl) ?_
           rcases oi hf with ⟨c139, hf⟩ | ⟨c139, hf⟩
           ·refine s_lit (s := 136) (b := true) rfl c139 ?_; refine s_on rfl ?_; refine s_do (o_q (.ptr 0 0 0) rfl trivial rfl) ?_; refine s_on rfl ?_; refine s_do (o_q (.int .i64 o_1.Kind) rfl nle rfl) ?_; refine s_on rfl ?_; refine s_do (o_q (.bool (o_1.Kind == 4)) rfl rfl rfl) ?_; refine s_on rfl ?_; refine s_do (o_mov (.bool (o_1.Kind == 4)) rfl) ?_
            rcases oi hf with ⟨c140, hf⟩ | ⟨c140, hf⟩
            ·refine s_lit (s := 140) (b := true) rfl c140 ?_; refine s_off rfl rfl ?_; refine s_off rfl rfl ?_; refine s_off rfl rfl ?_; refine s_off rfl rfl ?_; refine s_on rfl ?_; refine s_do (o_q (.bool true) rfl trivial rfl) ?_; refine s_do (o_q (.bool true) rfl trivial rfl) ?_; refine s_do (o_mov (.bool true) rfl) ?_; refine s_on rfl ?_; refine s_do (o_q (.ptr 0 0 0) rfl trivial rfl) ?_; refine s_on rfl ?_; refine s_do (o_q (.int .i64 o_1.Kind) rfl nle rfl) ?_; refine s_on rfl ?_; refine s_do (o_q (.bool (o_1.Kind == 2)) rfl rfl rfl) ?_; refine s_on rfl ?_; refine s_do (o_mov (.bool (o_1.Kind == 2)) rfl) ?_
             rcases oi hf with ⟨c141, hf⟩ | ⟨c141, hf⟩
             ·refine s_lit (s := 151) (b := true) rfl c141 ?_; refine s_off rfl rfl ?_; refine s_off rfl rfl ?_; refine s_off rfl rfl ?_; refine s_off rfl rfl ?_; refine s_on rfl ?_; refine s_do (o_q (.bool true) rfl trivial rfl) ?_; refine s_do (o_q (.bool true) rfl trivial rfl) ?_; refine s_do (o_mov (.bool true) rfl) ?_; refine s_on rfl ?_; refine s_do (o_q (.ptr 0 0 0) rfl trivial rfl) ?_; refine s_on rfl ?_; refine s_do (o_q (.int .i64 o_1.Kind) rfl nle rfl) ?_; refine s_on rfl ?_; refine s_do (o_q (.bool (o_1.Kind == 6)) rfl rfl rfl) ?_; refine s_on rfl ?_; refine s_do (o_mov (.bool (o_1.Kind == 6)) rfl) ?_
              rcases oi hf with ⟨c142, hf⟩ | ⟨c142, hf⟩
              ·refine s_lit (s := 162) (b := true) rfl c142 ?_; refine s_off rfl rfl ?_; refine s_off rfl rfl ?_; refine s_off rfl rfl ?_; refine s_on rfl ?_; refine s_do (o_q (.bool true) rfl trivial rfl) ?_; refine s_do (o_q (.bool true) rfl trivial rfl) ?_; refine s_do (o_mov (.bool true) rfl) ?_; refine w_done ?_; refine k_seq ?_; refine w_ret ?_; obtain rfl := os hf; exact r_flat ⟨trivial, trivial⟩ rfl (.refl _)
              ·refine s_lit (s := 162) (b := false) rfl (bf c142) ?_; refine s_on rfl ?_; refine s_do (o_q (.ptr 0 0 7) rfl trivial rfl) ?_; refine s_on rfl ?_; refine s_do (o_q (.bool o_1.Until) rfl nle rfl) ?_; refine s_on rfl ?_; refine s_do (o_q (.bool (!o_1.Until)) rfl trivial rfl) ?_; refine s_on rfl ?_; refine s_do (o_q (.bool (!o_1.Until)) rfl trivial rfl) ?_; refine s_do (o_q (.bool (!o_1.Until)) rfl trivial rfl) ?_; refine s_do (o_mov (.bool (!o_1.Until)) rfl) ?_; refine w_done ?_; refine k_seq ?_; refine w_ret ?_; obtain rfl := os hf; exact r_flat ⟨trivial, trivial⟩ rfl (.refl _)
             ·refine s_lit (s := 151) (b := false) rfl (bf c141) ?_; refine s_on rfl ?_; refine s_do (o_q (.ptr 0 0 6) rfl trivial rfl) ?_; refine s_on rfl ?_; refine s_do (o_q (.lst 1 (o_1.Columns.map AV.str)) rfl nle rfl) ?_; refine s_on rfl ?_; refine s_dof (o_len (enc := AV.str) rfl) fun hl143 => ?_; refine s_on rfl ?_; refine s_do (o_q (.bool ((o_1.Columns.length : Int) == 0)) rfl rfl rfl) ?_; refine s_on rfl ?_; refine s_do (o_q (.bool ((o_1.Columns.length : Int) == 0)) rfl trivial rfl) ?_; refine s_do (o_q (.bool ((o_1.Columns.length : Int) == 0)) rfl trivial rfl) ?_; refine s_do (o_mov (.bool ((o_1.Columns.length : Int) == 0)) rfl) ?_
              rcases oi hf with ⟨c144, hf⟩ | ⟨c144, hf⟩
              ·refine s_lit (s := 158) (b := true) rfl c144 ?_; refine s_on rfl ?_; refine s_do (o_q (.ptr 0 0 0) rfl trivial rfl) ?_; refine s_on rfl ?_; refine s_do (o_q (.int .i64 o_1.Kind) rfl nle rfl) ?_; refine s_on rfl ?_; refine s_do (o_q (.bool (o_1.Kind == 6)) rfl rfl rfl) ?_; refine s_on rfl ?_; refine s_do (o_mov (.bool (o_1.Kind == 6)) rfl) ?_
               rcases oi hf with ⟨c145, hf⟩ | ⟨c145, hf⟩
               ·refine s_lit (s := 162) (b := true) rfl c145 ?_; refine s_off rfl rfl ?_; refine s_off rfl rfl ?_; refine s_off rfl rfl ?_; refine s_on rfl ?_; refine s_do (o_q (.bool true) rfl trivial rfl) ?_; refine s_do (o_q (.bool true) rfl trivial rfl) ?_; refine s_do (o_mov (.bool true) rfl) ?_; refine w_done ?_; refine k_seq ?_; refine w_ret ?_; obtain rfl := os hf; exact r_flat ⟨trivial, trivial⟩ rfl (.refl _)
               ·refine s_lit (s := 162) (b := false) rfl (bf c145) ?_; refine s_on rfl ?_; refine s_do (o_q (.ptr 0 0 7) rfl trivial rfl) ?_; refine s_on rfl ?_; refine s_do (o_q (.bool o_1.Until) rfl nle rfl) ?_; refine s_on rfl ?_; refine s_do (o_q (.bool (!o_1.Until)) rfl trivial rfl) ?_; refine s_on rfl ?_; refine s_do (o_q (.bool (!o_1.Until)) rfl trivial rfl) ?_; refine s_do (o_q (.bool (!o_1.Until)) rfl trivial rfl) ?_; refine s_do (o_mov (.bool (!o_1.Until)) rfl) ?_; refine w_done ?_; refine k_seq ?_; refine w_ret ?_; obtain rfl := os hf; exact r_flat ⟨trivial, trivial⟩ rfl (.refl _)
              ·refine s_lit (s := 158) (b := false) rfl (bf c144) ?_; refine s_off rfl rfl ?_; refine s_off rfl rfl ?_; refine s_off rfl rfl ?_; refine s_off rfl rfl ?_; refine s_offs rfl ?_; refine s_offs rfl ?_; refine s_offs rfl ?_; refine s_off rfl rfl ?_; refine s_do (o_q (.bool false) rfl trivial rfl) ?_; refine s_do (o_mov (.bool false) rfl) ?_; refine w_done ?_; refine k_seq ?_; refine w_ret ?_; obtain rfl := os hf; exact r_flat ⟨trivial, trivial⟩ rfl (.refl _)
            ·refine s_lit (s := 140) (b := false) rfl (bf c140) ?_; refine s_on rfl ?_; refine s_do (o_q (.ptr 0 0 5) rfl trivial rfl) ?_; refine s_on rfl ?_; refine s_do (o_q (.lst 3 (o_1.Muts.map encGMut)) rfl nle rfl) ?_; refine s_on rfl ?_; refine s_dof (o_len (enc := encGMut) rfl) fun hl146 => ?_; refine s_on rfl ?_; refine s_do (o_q (.bool ((o_1.Muts.length : Int) == 0)) rfl rfl rfl) ?_; refine s_on rfl ?_; refine s_do (o_q (.bool ((o_1.Muts.length : Int) == 0)) rfl trivial rfl) ?_; refine s_do (o_q (.bool ((o_1.Muts.length : Int) == 0)) rfl trivial rfl) ?_; refine s_do (o_mov (.bool ((o_1.Muts.length : Int) == 0)) rfl) ?_
             rcases oi hf with ⟨c147, hf⟩ | ⟨c147, hf⟩
             ·refine s_lit (s := 147) (b := true) rfl c147 ?_; refine s_on rfl ?_; refine s_do (o_q (.ptr 0 0 0) rfl trivial rfl) ?_; refine s_on rfl ?_; refine s_do (o_q (.int .i64 o_1.Kind) rfl nle rfl) ?_; refine s_on rfl ?_; refine s_do (o_q (.bool (o_1.Kind == 2)) rfl rfl rfl) ?_; refine s_on rfl ?_; refine s_do (o_mov (.bool (o_1.Kind == 2)) rfl) ?_
              rcases oi hf with ⟨c148, hf⟩ | ⟨c148, hf⟩
              ·refine s_lit (s := 151) (b := true) rfl c148 ?_; refine s_off rfl rfl ?_; refine s_off rfl rfl ?_; refine s_off rfl rfl ?_; refine s_off rfl rfl ?_; refine s_on rfl ?_; refine s_do (o_q (.bool true) rfl trivial rfl) ?_; refine s_do (o_q (.bool true) rfl trivial rfl) ?_; refine s_do (o_mov (.bool true) rfl) ?_; refine s_on rfl ?_; refine s_do (o_q (.ptr 0 0 0) rfl trivial rfl) ?_; refine s_on rfl ?_; refine s_do (o_q (.int .i64 o_1.Kind) rfl nle rfl) ?_; refine s_on rfl ?_; refine s_do (o_q (.bool (o_1.Kind == 6)) rfl rfl rfl) ?_; refine s_on rfl ?_; refine s_do (o_mov (.bool (o_1.Kind == 6)) rfl) ?_
               rcases oi hf with ⟨c149, hf⟩ | ⟨c149, hf⟩
               ·refine s_lit (s := 162) (b := true) rfl c149 ?_; refine s_off rfl rfl ?_; refine s_off rfl rfl ?_; refine s_off rfl rfl ?_; refine s_on rfl ?_; refine s_do (o_q (.bool true) rfl trivial rfl) ?_; refine s_do (o_q (.bool true) rfl trivial rfl) ?_; refine s_do (o_mov (.bool true) rfl) ?_; refine w_done ?_; refine k_seq ?_; refine w_ret ?_; obtain rfl := os hf; exact r_flat ⟨trivial, trivial⟩ rfl (.refl _)
               ·refine s_lit (s := 162) (b := false) rfl (bf c149) ?_; refine s_on rfl ?_; refine s_do (o_q (.ptr 0 0 7) rfl trivial rfl) ?_; refine s_on rfl ?_; refine s_do (o_q (.bool o_1.Until) rfl nle rfl) ?_; refine s_on rfl ?_; refine s_do (o_q (.bool (!o_1.Until)) rfl trivial rfl) ?_; refine s_on rfl ?_; refine s_do (o_q (.bool (!o_1.Until)) rfl trivial rfl) ?_; refine s_do (o_q (.bool (!o_1.Until)) rfl trivial rfl) ?_; refine s_do (o_mov (.bool (!o_1.Until)) rfl) ?_; refine w_done ?_; refine k_seq ?_; refine w_ret ?_; obtain rfl := os hf; exact r_flat ⟨trivial, trivial⟩ rfl (.refl _)
              ·refine s_lit (s := 151) (b := false) rfl (bf c148) ?_; refine s_on rfl ?_; refine s_do (o_q (.ptr 0 0 6) rfl trivial rfl) ?_; refine s_on rfl ?_; refine s_do (o_q (.lst 1 (o_1.Columns.map AV.str)) rfl nle rfl) ?_; refine s_on rfl ?_; refine s_dof (o_len (enc := AV.str) rfl) fun hl150 => ?_; refine s_on rfl ?_; refine s_do (o_q (.bool ((o_1.Columns.length : Int) == 0)) rfl rfl rfl) ?_; refine s_on rfl ?_; refine s_do (o_q (.bool ((o_1.Columns.length : Int) == 0)) rfl trivial rfl) ?_; refine s_do (o_q (.bool ((o_1.Columns.length : Int) == 0)) rfl trivial rfl) ?_; refine s_do (o_mov (.bool ((o_1.Columns.length : Int) == 0)) rfl) ?_
               rcases oi hf with ⟨c151, hf⟩ | ⟨c151, hf⟩
               ·refine s_lit (s := 158) (b := true) rfl c151 ?_; refine s_on rfl ?_; refine s_do (o_q (.ptr 0 0 0) rfl trivial rfl) ?_; refine s_on rfl ?_; refine s_do (o_q (.int .i64 o_1.Kind) rfl nle rfl) ?_; refine s_on rfl ?_; refine s_do (o_q (.bool (o_1.Kind == 6)) rfl rfl rfl) ?_; refine s_on rfl ?_; refine s_do (o_mov (.bool (o_1.Kind == 6)) rfl) ?_
                rcases oi hf with ⟨c152, hf⟩ | ⟨c152, hf⟩
                ·refine s_lit (s := 162) (b := true) rfl c152 ?_; refine s_off rfl rfl ?_; refine s_off rfl rfl ?_; refine s_off rfl rfl ?_; refine s_on rfl ?_; refine s_do (o_q (.bool true) rfl trivial rfl) ?_; refine s_do (o_q (.bool true) rfl trivial rfl) ?_; refine s_do (o_mov (.bool true) rfl) ?_; refine w_done ?_; refine k_seq ?_; refine w_ret ?_; obtain rfl := os hf; exact r_flat ⟨trivial, trivial⟩ rfl (.refl _)
                ·refine s_lit (s := 162) (b := false) rfl (bf c152) ?_; refine s_on rfl ?_; refine s_do (o_q (.ptr 0 0 7) rfl trivial rfl) ?_; refine s_on rfl ?_; refine s_do (o_q (.bool o_1.Until) rfl nle rfl) ?_; refine s_on rfl ?_; refine s_do (o_q (.bool (!o_1.Until)) rfl trivial rfl) ?_; refine s_on rfl ?_; refine s_do (o_q (.bool (!o_1.Until)) rfl trivial rfl) ?_; refine s_do (o_q (.bool (!o_1.Until)) rfl trivial rfl) ?_; refine s_do (o_mov (.bool (!o_1.Until)) rfl) ?_; refine w_done ?_; refine k_seq ?_; refine w_ret ?_; obtain rfl := os hf; exact r_flat ⟨trivial, trivial⟩ rfl (.refl _)
               ·refine s_lit (s := 158) (b := false) rfl (bf c151) ?_; refine s_off rfl rfl ?_; refine s_off rfl rfl ?_; refine s_off rfl rfl ?_; refine s_off rfl rfl ?_; refine s_offs rfl ?_; refine s_offs rfl ?_; refine s_offs rfl ?_; refine s_off rfl rfl ?_; refine s_do (o_q (.bool false) rfl trivial rfl) ?_; refine s_do (o_mov (.bool false) rfl) ?_; refine w_done ?_; refine k_seq ?_; refine w_ret ?_; obtain rfl := os hf; exact r_flat ⟨trivial, trivial⟩ rfl (.refl _)
             ·refine s_lit (s := 147) (b := false) rfl (bf c147) ?_; refine s_off rfl rfl ?_; refine s_off rfl rfl ?_; refine s_off rfl rfl ?_; refine s_off rfl rfl ?_; refine s_offs rfl ?_; refine s_offs rfl ?_; refine s_offs rfl ?_; refine s_offs rfl ?_; refine s_off rfl rfl ?_; refine s_do (o_q (.bool false) rfl trivial rfl) ?_; refine s_do (o_mov (.bool false) rfl) ?_; refine s_off rfl rfl ?_; refine s_off rfl rfl ?_; refine s_off rfl rfl ?_; refine s_off rfl rfl ?_; refine s_offs rfl ?_; refine s_offs rfl ?_; refine s_offs rfl ?_; refine s_off rfl rfl ?_; refine s_do (o_q (.bool false) rfl trivial rfl) ?_
              refine s_do (o_mov (.bool false) rfl) ?_; refine w_done ?_; refine k_seq ?_; refine w_ret ?_; obtain rfl := os hf; exact r_flat ⟨trivial, trivial⟩ rfl (.refl _)
           ·refine s_lit (s := 136) (b := false) rfl (bf c139) ?_; refine s_off rfl rfl ?_; refine s_off rfl rfl ?_; refine s_off rfl rfl ?_; refine s_off rfl rfl ?_; refine s_offs rfl ?_; refine s_offs rfl ?_; refine s_offs rfl ?_; refine s_offs rfl ?_; refine s_off rfl rfl ?_; refine s_do (o_q (.bool false) rfl trivial rfl) ?_; refine s_do (o_mov (.bool false) rfl) ?_; refine s_off rfl rfl ?_; refine s_off rfl rfl ?_; refine s_off rfl rfl ?_; refine s_off rfl rfl ?_; refine s_offs rfl ?_; refine s_offs rfl ?_; refine s_offs rfl ?_; refine s_offs rfl ?_; refine s_off rfl rfl ?_; refine s_do (o_q (.bool false) rfl trivial rfl) ?_
            refine s_do (o_mov (.bool false) rfl) ?_; refine s_off rfl rfl ?_; refine s_off rfl rfl ?_; refine s_off rfl rfl ?_; refine s_off rfl rfl ?_; refine s_offs rfl ?_; refine s_offs rfl ?_; refine s_offs rfl ?_; refine s_off rfl rfl ?_; refine s_do (o_q (.bool false) rfl trivial rfl) ?_; refine s_do (o_mov (.bool false) rfl) ?_; refine w_done ?_; refine k_seq ?_; refine w_ret ?_; obtain rfl := os hf; exact r_flat ⟨trivial, trivial⟩ rfl (.refl _)
         ·refine s_lit (s := 121) (b := false) rfl (bf c123) ?_; refine s_on rfl ?_; refine s_do (o_q (.ptr 0 0 2) rfl trivial rfl) ?_; refine s_on rfl ?_; refine s_do (o_q (.str o_1.Name) rfl nle rfl) ?_; refine s_on rfl ?_; refine s_do (o_q (.bool (o_1.Name == [])) rfl trivial rfl) ?_; refine s_on rfl ?_; refine s_do (o_q (.bool (o_1.Name == [])) rfl trivial rfl) ?_; refine s_do (o_q (.bool (o_1.Name == [])) rfl trivial rfl) ?_; refine s_do (o_mov (.bool (o_1.Name == [])) rfl) ?_
          rcases oi hf with ⟨c153, hf⟩ | ⟨c153, hf⟩
          ·refine s_lit (s := 127) (b := true) rfl c153 ?_; refine s_on rfl ?_; refine s_do (o_mov (.bool row_117) rfl) ?_; refine s_on rfl ?_; refine s_do (o_mov (.bool row_117) rfl) ?_
           rcases oi hf with ⟨c154, hf⟩ | ⟨c154, hf⟩
           ·refine s_lit (s := 129) (b := true) rfl c154 ?_; refine s_off rfl rfl ?_; refine s_off rfl rfl ?_; refine s_off rfl rfl ?_; refine s_off rfl rfl ?_; refine s_on rfl ?_; refine s_do (o_q (.bool true) rfl trivial rfl) ?_; refine s_do (o_q (.bool true) rfl trivial rfl) ?_; refine s_do (o_mov (.bool true) rfl) ?_; refine s_on rfl ?_; refine s_do (o_q (.ptr 0 0 0) rfl trivial rfl) ?_; refine s_on rfl ?_; refine s_do (o_q (.int .i64 o_1.Kind) rfl nle rfl) ?_; refine s_on rfl ?_; refine s_do (o_q (.bool (o_1.Kind == 4)) rfl rfl rfl) ?_; refine s_on rfl ?_; refine s_do (o_mov (.bool (o_1.Kind == 4)) rfl) ?_
            rcases oi hf with ⟨c155, hf⟩ | ⟨c155, hf⟩
            ·refine s_lit (s := 140) (b := true) rfl c155 ?_; refine s_off rfl rfl ?_; refine s_off rfl rfl ?_; refine s_off rfl rfl ?_; refine s_off rfl rfl ?_; refine s_on rfl ?_; refine s_do (o_q (.bool true) rfl trivial rfl) ?_; refine s_do (o_q (.bool true) rfl trivial rfl) ?_; refine s_do (o_mov (.bool true) rfl) ?_; refine s_on rfl ?_; refine s_do (o_q (.ptr 0 0 0) rfl trivial rfl) ?_; refine s_on rfl ?_; refine s_do (o_q (.int .i64 o_1.Kind) rfl nle rfl) ?_; refine s_on rfl ?_; refine s_do (o_q (.bool (o_1.Kind == 2)) rfl rfl rfl) ?_; refine s_on rfl ?_; refine s_do (o_mov (.bool (o_1.Kind == 2)) rfl) ?_
             rcases oi hf with ⟨c156, hf⟩ | ⟨c156, hf⟩
             ·refine s_lit (s := 151) (b := true) rfl c156 ?_; refine s_off rfl rfl ?_; refine s_off rfl rfl ?_; refine s_off rfl rfl ?_; refine s_off rfl rfl ?_; refine s_on rfl ?_; refine s_do (o_q (.bool true) rfl trivial rfl) ?_; refine s_do (o_q (.bool true) rfl trivial rfl) ?_; refine s_do (o_mov (.bool true) rfl) ?_; refine s_on rfl ?_; refine s_do (o_q (.ptr 0 0 0) rfl trivial rfl) ?_; refine s_on rfl ?_; refine s_do (o_q (.int .i64 o_1.Kind) rfl nle rfl) ?_; refine s_on rfl ?_; refine s_do (o_q (.bool (o_1.Kind == 6)) rfl rfl rfl) ?_; refine s_on rfl ?_; refine s_do (o_mov (.bool (o_1.Kind == 6)) rfl) ?_
              rcases oi hf with ⟨c157, hf⟩ | ⟨c157, hf⟩
              ·refine s_lit (s := 162) (b := true) rfl c157 ?_; refine s_off rfl rfl ?_; refine s_off rfl rfl ?_; refine s_off rfl rfl ?_; refine s_on rfl ?_; refine s_do (o_q (.bool true) rfl trivial rfl) ?_; refine s_do (o_q (.bool true) rfl trivial rfl) ?_; refine s_do (o_mov (.bool true) rfl) ?_; refine w_done ?_; refine k_seq ?_; refine w_ret ?_; obtain rfl := os hf; exact r_flat ⟨trivial, trivial⟩ rfl (.refl _)
              ·refine s_lit (s := 162) (b := false) rfl (bf c157) ?_; refine s_on rfl ?_; refine s_do (o_q (.ptr 0 0 7) rfl trivial rfl) ?_; refine s_on rfl ?_; refine s_do (o_q (.bool o_1.Until) rfl nle rfl) ?_; refine s_on rfl ?_; refine s_do (o_q (.bool (!o_1.Until)) rfl trivial rfl) ?_; refine s_on rfl ?_; refine s_do (o_q (.bool (!o_1.Until)) rfl trivial rfl) ?_; refine s_do (o_q (.bool (!o_1.Until)) rfl trivial rfl) ?_; refine s_do (o_mov (.bool (!o_1.Until)) rfl) ?_; refine w_done ?_; refine k_seq ?_; refine w_ret ?_; obtain rfl := os hf; exact r_flat ⟨trivial, trivial⟩ rfl (.refl _)
             ·refine s_lit (s := 151) (b := false) rfl (bf c156) ?_; refine s_on rfl ?_; refine s_do (o_q (.ptr 0 0 6) rfl trivial rfl) ?_; refine s_on rfl ?_; refine s_do (o_q (.lst 1 (o_1.Columns.map AV.str)) rfl nle rfl) ?_; refine s_on rfl ?_; refine s_dof (o_len (enc := AV.str) rfl) fun hl158 => ?_; refine s_on rfl ?_; refine s_do (o_q (.bool ((o_1.Columns.length : Int) == 0)) rfl rfl rfl) ?_; refine s_on rfl ?_; refine s_do (o_q (.bool ((o_1.Columns.length : Int) == 0)) rfl trivial rfl) ?_; refine s_do (o_q (.bool ((o_1.Columns.length : Int) == 0)) rfl trivial rfl) ?_; refine s_do (o_mov (.bool ((o_1.Columns.length : Int) == 0)) rfl) ?_
              rcases oi hf with ⟨c159, hf⟩ | ⟨c159, hf⟩
              ·refine s_lit (s := 158) (b := true) rfl c159 ?_; refine s_on rfl ?_; refine s_do (o_q (.ptr 0 0 0) rfl trivial rfl) ?_; refine s_on rfl ?_; refine s_do (o_q (.int .i64 o_1.Kind) rfl nle rfl) ?_; refine s_on rfl ?_; refine s_do (o_q (.bool (o_1.Kind == 6)) rfl rfl rfl) ?_; refine s_on rfl ?_; refine s_do (o_mov (.bool (o_1.Kind == 6)) rfl) ?_
               rcases oi hf with ⟨c160, hf⟩ | ⟨c160, hf⟩
               ·refine s_lit (s := 162) (b := true) rfl c160 ?_; refine s_off rfl rfl ?_; refine s_off rfl rfl ?_; refine s_off rfl rfl ?_; refine s_on rfl ?_; refine s_do (o_q (.bool true) rfl trivial rfl) ?_; refine s_do (o_q (.bool true) rfl trivial rfl) ?_; refine s_do (o_mov (.bool true) rfl) ?_; refine w_done ?_; refine k_seq ?_; refine w_ret ?_; obtain rfl := os hf; exact r_flat ⟨trivial, trivial⟩ rfl (.refl _)
               ·refine s_lit (s := 162) (b := false) rfl (bf c160) ?_; refine s_on rfl ?_; refine s_do (o_q (.ptr 0 0 7) rfl trivial rfl) ?_; refine s_on rfl ?_; refine s_do (o_q (.bool o_1.Until) rfl nle rfl) ?_; refine s_on rfl ?_; refine s_do (o_q (.bool (!o_1.Until)) rfl trivial rfl) ?_; refine s_on rfl ?_; refine s_do (o_q (.bool (!o_1.Until)) rfl trivial rfl) ?_; refine s_do (o_q (.bool (!o_1.Until)) rfl trivial rfl) ?_; refine s_do (o_mov (.bool (!o_1.Until)) rfl) ?_; refine w_done ?_; refine k_seq ?_; refine w_ret ?_; obtain rfl := os hf; exact r_flat ⟨trivial, trivial⟩ rfl (.refl _)
              ·refine s_lit (s := 158) (b := false) rfl (bf c159) ?_; refine s_off rfl rfl ?_; refine s_off rfl rfl ?_; refine s_off rfl rfl ?_; refine s_off rfl rfl ?_; refine s_offs rfl ?_; refine s_offs rfl ?_; refine s_offs rfl ?_; refine s_off rfl rfl ?_; refine s_do (o_q (.bool false) rfl trivial rfl) ?_; refine s_do (o_mov (.bool false) rfl) ?_; refine w_done ?_; refine k_seq ?_; refine w_ret ?_; obtain rfl := os hf; exact r_flat ⟨trivial, trivial⟩ rfl (.refl _)
            ·refine s_lit (s := 140) (b := false) rfl (bf c155) ?_; refine s_on rfl ?_; refine s_do (o_q (.ptr 0 0 5) rfl trivial rfl) ?_; refine s_on rfl ?_; refine s_do (o_q (.lst 3 (o_1.Muts.map encGMut)) rfl nle rfl) ?_; refine s_on rfl ?_; refine s_dof (o_len (enc := encGMut) rfl) fun hl161 => ?_; refine s_on rfl ?_; refine s_do (o_q (.bool ((o_1.Muts.length : Int) == 0)) rfl rfl rfl) ?_; refine s_on rfl ?_; refine s_do (o_q (.bool ((o_1.Muts.length : Int) == 0)) rfl trivial rfl) ?_; refine s_do (o_q (.bool ((o_1.Muts.length : Int) == 0)) rfl trivial rfl) ?_; refine s_do (o_mov (.bool ((o_1.Muts.length : Int) == 0)) rfl) ?_
             rcases oi hf with ⟨c162, hf⟩ | ⟨c162, hf⟩
             ·refine s_lit (s := 147) (b := true) rfl c162 ?_; refine s_on rfl ?_; refine s_do (o_q (.ptr 0 0 0) rfl trivial rfl) ?_; refine s_on rfl ?_; refine s_do (o_q (.int .i64 o_1.Kind) rfl nle rfl) ?_; refine s_on rfl ?_; refine s_do (o_q (.bool (o_1.Kind == 2)) rfl rfl rfl) ?_; refine s_on rfl ?_; refine s_do (o_mov (.bool (o_1.Kind == 2)) rfl) ?_
              rcases oi hf with ⟨c163, hf⟩ | ⟨c163, hf⟩
              ·refine s_lit (s := 151) (b := true) rfl c163 ?_; refine s_off rfl rfl ?_; refine s_off rfl rfl ?_; refine s_off rfl rfl ?_; refine s_off rfl rfl ?_; refine s_on rfl ?_; refine s_do (o_q (.bool true) rfl trivial rfl) ?_; refine s_do (o_q (.bool true) rfl trivial rfl) ?_; refine s_do (o_mov (.bool true) rfl) ?_; refine s_on rfl ?_; refine s_do (o_q (.ptr 0 0 0) rfl trivial rfl) ?_; refine s_on rfl ?_; refine s_do (o_q (.int .i64 o_1.Kind) rfl nle rfl) ?_; refine s_on rfl ?_; refine s_do (o_q (.bool (o_1.Kind == 6)) rfl rfl rfl) ?_; refine s_on rfl ?_; refine s_do (o_mov (.bool (o_1.Kind == 6)) rfl) ?_
               rcases oi hf with ⟨c164, hf⟩ | ⟨c164, hf⟩
               ·refine s_lit (s := 162) (b := true) rfl c164 ?_; refine s_off rfl rfl ?_; refine s_off rfl rfl ?_; refine s_off rfl rfl ?_; refine s_on rfl ?_; refine s_do (o_q (.bool true) rfl trivial rfl) ?_; refine s_do (o_q (.bool true) rfl trivial rfl) ?_; refine s_do (o_mov (.bool true) rfl) ?_; refine w_done ?_; refine k_seq ?_; refine w_ret ?_; obtain rfl := os hf; exact r_flat ⟨trivial, trivial⟩ rfl (.refl _)
               ·refine s_lit (s := 162) (b := false) rfl (bf c164) ?_; refine s_on rfl ?_; refine s_do (o_q (.ptr 0 0 7) rfl trivial rfl) ?_; refine s_on rfl ?_; refine s_do (o_q (.bool o_1.Until) rfl nle rfl) ?_; refine s_on rfl ?_; refine s_do (o_q (.bool (!o_1.Until)) rfl trivial rfl) ?_; refine s_on rfl ?_; refine s_do (o_q (.bool (!o_1.Until)) rfl trivial rfl) ?_; refine s_do (o_q (.bool (!o_1.Until)) rfl trivial rfl) ?_; refine s_do (o_mov (.bool (!o_1.Until)) rfl) ?_; refine w_done ?_; refine k_seq ?_; refine w_ret ?_; obtain rfl := os hf; exact r_flat ⟨trivial, trivial⟩ rfl (.refl _)
              ·refine s_lit (s := 151) (b := false) rfl (bf c163) ?_; refine s_on rfl ?_; refine s_do (o_q (.ptr 0 0 6) rfl trivial rfl) ?_; refine s_on rfl ?_; refine s_do (o_q (.lst 1 (o_1.Columns.map AV.str)) rfl nle rfl) ?_; refine s_on rfl ?_; refine s_dof (o_len (enc := AV.str) rfl) fun hl165 => ?_; refine s_on rfl ?_; refine s_do (o_q (.bool ((o_1.Columns.length : Int) == 0)) rfl rfl rfl) ?_; refine s_on rfl ?_; refine s_do (o_q (.bool ((o_1.Columns.length : Int) == 0)) rfl trivial rfl) ?_; refine s_do (o_q (.bool ((o_1.Columns.length : Int) == 0)) rfl trivial rfl) ?_; refine s_do (o_mov (.bool ((o_1.Columns.length : Int) == 0)) rfl) ?_
               rcases oi hf with ⟨c166, hf⟩ | ⟨c166, hf⟩
               ·refine s_lit (s := 158) (b := true) rfl c166 ?_; refine s_on rfl ?_; refine s_do (o_q (.ptr 0 0 0) rfl trivial rfl) ?_; refine s_on rfl ?_; refine s_do (o_q (.int .i64 o_1.Kind) rfl nle rfl) ?_; refine s_on rfl ?_; refine s_do (o_q (.bool (o_1.Kind == 6)) rfl rfl rfl) ?_; refine s_on rfl ?_; refine s_do (o_mov (.bool (o_1.Kind == 6)) rfl) ?_
                rcases oi hf with ⟨c167, hf⟩ | ⟨c167, hf⟩
                ·refine s_lit (s := 162) (b := true) rfl c167 ?_; refine s_off rfl rfl ?_; refine s_off rfl rfl ?_; refine s_off rfl rfl ?_; refine s_on rfl ?_; refine s_do (o_q (.bool true) rfl trivial rfl) ?_; refine s_do (o_q (.bool true) rfl trivial rfl) ?_; refine s_do (o_mov (.bool true) rfl) ?_; refine w_done ?_; refine k_seq ?_; refine w_ret ?_; obtain rfl := os hf; exact r_flat ⟨trivial, trivial⟩ rfl (.refl _)
                ·refine s_lit (s := 162) (b := false) rfl (bf c167) ?_; refine s_on rfl ?_; refine s_do (o_q (.ptr 0 0 7) rfl trivial rfl) ?_; refine s_on rfl ?_; refine s_do (o_q (.bool o_1.Until) rfl nle rfl) ?_; refine s_on rfl ?_; refine s_do (o_q (.bool (!o_1.Until)) rfl trivial rfl) ?_; refine s_on rfl ?_; refine s_do (o_q (.bool (!o_1.Until)) rfl trivial rfl) ?_; refine s_do (o_q (.bool (!o_1.Until)) rfl trivial rfl) ?_; refine s_do (o_mov (.bool (!o_1.Until)) rfl) ?_; refine w_done ?_; refine k_seq ?_; refine w_ret ?_; obtain rfl := os hf; exact r_flat ⟨trivial, trivial⟩ rfl (.refl _)
               ·refine s_lit (s := 158) (b := false) rfl (bf c166) ?_; refine s_off rfl rfl ?_; refine s_off rfl rfl ?_; refine s_off rfl rfl ?_; refine s_off rfl rfl ?_; refine s_offs rfl ?_; refine s_offs rfl ?_; refine s_offs rfl ?_; refine s_off rfl rfl ?_; refine s_do (o_q (.bool false) rfl trivial rfl) ?_; refine s_do (o_mov (.bool false) rfl) ?_; refine w_done ?_; refine k_seq ?_; refine w_ret ?_; obtain rfl := os hf; exact r_flat ⟨trivial, trivial⟩ rfl (.refl _)
             ·refine s_lit (s := 147) (b := false) rfl (bf c162) ?_; refine s_off rfl rfl ?_; refine s_off rfl rfl ?_; refine s_off rfl rfl ?_; refine s_off rfl rfl ?_; refine s_offs rfl ?_; refine s_offs rfl ?_; refine s_offs rfl ?_; refine s_offs rfl ?_; refine s_off rfl rfl ?_; refine s_do (o_q (.bool false) rfl trivial rfl) ?_; refine s_do (o_mov (.bool false) rfl) ?_; refine s_off rfl rfl ?_; refine s_off rfl rfl ?_; refine s_off rfl rfl ?_; refine s_off rfl rfl ?_; refine s_offs rfl ?_; refine s_offs rfl ?_; refine s_offs rfl ?_; refine s_off rfl rfl ?_; refine s_do (o_q (.bool false) rfl trivial rfl) ?_
              refine s_do (o_mov (.bool false) rfl) ?_; refine w_done ?_; refine k_seq ?_; refine w_ret ?_; obtain rfl := os hf; exact r_flat ⟨trivial, trivial⟩ rfl (.refl _)
           ·refine s_lit (s := 129) (b := false) rfl (bf c154) ?_; refine s_on rfl ?_; refine s_do (o_q (.ptr 0 0 4) rfl trivial rfl) ?_; refine s_on rfl ?_; refine s_do (o_q (.lst 3 (o_1.Row.map encGSet)) rfl nle rfl) ?_; refine s_on rfl ?_; refine s_dof (o_len (enc := encGSet) rfl) fun hl168 => ?_; refine s_on rfl ?_; refine s_do (o_q (.bool ((o_1.Row.length : Int) == 0)) rfl rfl rfl) ?_; refine s_on rfl ?_; refine s_do (o_q (.bool ((o_1.Row.length : Int) == 0)) rfl trivial rfl) ?_; refine s_do (o_q (.bool ((o_1.Row.length : Int) == 0)) rfl trivial rfl) ?_; refine s_do (o_mov (.bool ((o_1.Row.length : Int) == 0)) rfl) ?_
            rcases oi hf with ⟨c169, hf⟩ | ⟨c169, hf⟩
            ·refine s_lit (s := 136) (b := true) rfl c169 ?_; refine s_on rfl ?_; refine s_do (o_q (.ptr 0 0 0) rfl trivial rfl) ?_; refine s_on rfl ?_; refine s_do (o_q (.int .i64 o_1.Kind) rfl nle rfl) ?_; refine s_on rfl ?_; refine s_do (o_q (.bool (o_1.Kind == 4)) rfl rfl rfl) ?_; refine s_on rfl ?_; refine s_do (o_mov (.bool (o_1.Kind == 4)) rfl) ?_
             rcases oi hf with ⟨c170, hf⟩ | ⟨c170, hf⟩
             ·refine s_lit (s := 140) (b := true) rfl c170 ?_; refine s_off rfl rfl ?_; refine s_off rfl rfl ?_; refine s_off rfl rfl ?_; refine s_off rfl rfl ?_; refine s_on rfl ?_; refine s_do (o_q (.bool true) rfl trivial rfl) ?_; refine s_do (o_q (.bool true) rfl trivial rfl) ?_; refine s_do (o_mov (.bool true) rfl) ?_; refine s_on rfl ?_; refine s_do (o_q (.ptr 0 0 0) rfl trivial rfl) ?_; refine s_on rfl ?_; refine s_do (o_q (.int .i64 o_1.Kind) rfl nle rfl) ?_; refine s_on rfl ?_; refine s_do (o_q (.bool (o_1.Kind == 2)) rfl rfl rfl) ?_; refine s_on rfl ?_; refine s_do (o_mov (.bool (o_1.Kind == 2)) rfl) ?_
              rcases oi hf with ⟨c171, hf⟩ | ⟨c171, hf⟩
              ·refine s_lit (s := 151) (b := true) rfl c171 ?_; refine s_off rfl rfl ?_; refine s_off rfl rfl ?_; refine s_off rfl rfl ?_; refine s_off rfl rfl ?_; refine s_on rfl ?_; refine s_do (o_q (.bool true) rfl trivial rfl) ?_; refine s_do (o_q (.bool true) rfl trivial rfl) ?_; refine s_do (o_mov (.bool true) rfl) ?_; refine s_on rfl ?_; refine s_do (o_q (.ptr 0 0 0) rfl trivial rfl) ?_; refine s_on rfl ?_; refine s_do (o_q (.int .i64 o_1.Kind) rfl nle rfl) ?_; refine s_on rfl ?_; refine s_do (o_q (.bool (o_1.Kind == 6)) rfl rfl rfl) ?_; refine s_on rfl ?_; refine s_do (o_mov (.bool (o_1.Kind == 6)) rfl) ?_
               rcases oi hf with ⟨c172, hf⟩ | ⟨c172, hf⟩
               ·refine s_lit (s := 162) (b := true) rfl c172 ?_; refine s_off rfl rfl ?_; refine s_off rfl rfl ?_; refine s_off rfl rfl ?_; refine s_on rfl ?_; refine s_do (o_q (.bool true) rfl trivial rfl) ?_; refine s_do (o_q (.bool true) rfl trivial rfl) ?_; refine s_do (o_mov (.bool true) rfl) ?_; refine w_done ?_; refine k_seq ?_; refine w_ret ?_; obtain rfl := os hf; exact r_flat ⟨trivial, trivial⟩ rfl (.refl _)
               ·refine s_lit (s := 162) (b := false) rfl (bf c172) ?_; refine s_on rfl ?_; refine s_do (o_q (.ptr 0 0 7) rfl trivial rfl) ?_; refine s_on rfl ?_; refine s_do (o_q (.bool o_1.Until) rfl nle rfl) ?_; refine s_on rfl ?_; refine s_do (o_q (.bool (!o_1.Until)) rfl trivial rfl) ?_; refine s_on rfl ?_; refine s_do (o_q (.bool (!o_1.Until)) rfl trivial rfl) ?_; refine s_do (o_q (.bool (!o_1.Until)) rfl trivial rfl) ?_; refine s_do (o_mov (.bool (!o_1.Until)) rfl) ?_; refine w_done ?_; refine k_seq ?_; refine w_ret ?_; obtain rfl := os hf; exact r_flat ⟨trivial, trivial⟩ rfl (.refl _)
              ·refine s_lit (s := 151) (b := false) rfl (bf c171) ?_; refine s_on rfl ?_; refine s_do (o_q (.ptr 0 0 6) rfl trivial rfl) ?_; refine s_on rfl ?_; refine s_do (o_q (.lst 1 (o_1.Columns.map AV.str)) rfl nle rfl) ?_; refine s_on rfl ?_; refine s_dof (o_len (enc := AV.str) rfl) fun hl173 => ?_; refine s_on rfl ?_; refine s_do (o_q (.bool ((o_1.Columns.length : Int) == 0)) rfl rfl rfl) ?_; refine s_on rfl ?_; refine s_do (o_q (.bool ((o_1.Columns.length : Int) == 0)) rfl trivial rfl) ?_; refine s_do (o_q (.bool ((o_1.Columns.length : Int) == 0)) rfl trivial rfl) ?_; refine s_do (o_mov (.bool ((o_1.Columns.length : Int) == 0)) rfl) ?_
               rcases oi hf with ⟨c174, hf⟩ | ⟨c174, hf⟩
               ·refine s_lit (s := 158) (b := true) rfl c174 ?_; refine s_on rfl ?_; refine s_do (o_q (.ptr 0 0 0) rfl trivial rfl) ?_; refine s_on rfl ?_; refine s_do (o_q (.int .i64 o_1.Kind) rfl nle rfl) ?_; refine s_on rfl ?_; refine s_do (o_q (.bool (o_1.Kind == 6)) rfl rfl rfl) ?_; refine s_on rfl ?_; refine s_do (o_mov (.bool (o_1.Kind == 6)) rfl) ?_
                rcases oi hf with ⟨c175, hf⟩ | ⟨c175, hf⟩
                ·refine s_lit (s := 162) (b := true) rfl c175 ?_; refine s_off rfl rfl ?_; refine s_off rfl rfl ?_; refine s_off rfl rfl ?_; refine s_on rfl ?_; refine s_do (o_q (.bool true) rfl trivial rfl) ?_; refine s_do (o_q (.bool true) rfl trivial rfl) ?_; refine s_do (o_mov (.bool true) rfl) ?_; refine w_done ?_; refine k_seq ?_; refine w_ret ?_; obtain rfl := os hf; exact r_flat ⟨trivial, trivial⟩ rfl (.refl _)
                ·refine s_lit (s := 162) (b := false) rfl (bf c175) ?_; refine s_on rfl ?_; refine s_do (o_q (.ptr 0 0 7) rfl trivial rfl) ?_; refine s_on rfl ?_; refine s_do (o_q (.bool o_1.Until) rfl nle rfl) ?_; refine s_on rfl ?_; refine s_do (o_q (.bool (!o_1.Until)) rfl trivial rfl) ?_; refine s_on rfl ?_; refine s_do (o_q (.bool (!o_1.Until)) rfl trivial rfl) ?_; refine s_do (o_q (.bool (!o_1.Until)) rfl trivial rfl) ?_; refine s_do (o_mov (.bool (!o_1.Until)) rfl) ?_; refine w_done ?_; refine k_seq ?_; refine w_ret ?_; obtain rfl := os hf; exact r_flat ⟨trivial, trivial⟩ rfl (.refl _)
               ·refine s_lit (s := 158) (b := false) rfl (bf c174) ?_; refine s_off rfl rfl ?_; refine s_off rfl rfl ?_; refine s_off rfl rfl ?_; refine s_off rfl rfl ?_; refine s_offs rfl ?_; refine s_offs rfl ?_; refine s_offs rfl ?_; refine s_off rfl rfl ?_; refine s_do (o_q (.bool false) rfl trivial rfl) ?_; refine s_do (o_mov (.bool false) rfl) ?_; refine w_done ?_; refine k_seq ?_; refine w_ret ?_; obtain rfl := os hf; exact r_flat ⟨trivial, trivial⟩ rfl (.refl _)
             ·refine s_lit (s := 140) (b := false) rfl (bf c170) ?_; refine s_on rfl ?_; refine s_do (o_q (.ptr 0 0 5) rfl trivial rfl) ?_; refine s_on rfl ?_; refine s_do (o_q (.lst 3 (o_1.Muts.map encGMut)) rfl nle rfl) ?_; refine s_on rfl ?_; refine s_dof (o_len (enc := encGMut) rfl) fun hl176 => ?_; refine s_on rfl ?_; refine s_do (o_q (.bool ((o_1.Muts.length : Int) == 0)) rfl rfl rfl) ?_; refine s_on rfl ?_; refine s_do (o_q (.bool ((o_1.Muts.length : Int) == 0)) rfl trivial rfl) ?_; refine s_do (o_q (.bool ((o_1.Muts.length : Int) == 0)) rfl trivial rfl) ?_; refine s_do (o_mov (.bool ((o_1.Muts.length : Int) == 0)) rfl) ?_
              rcases oi hf with ⟨c177, hf⟩ | ⟨c177, hf⟩
              ·refine s_lit (s := 147) (b := true) rfl c177 ?_; refine s_on rfl ?_; refine s_do (o_q (.ptr 0 0 0) rfl trivial rfl) ?_; refine s_on rfl ?_; refine s_do (o_q (.int .i64 o_1.Kind) rfl nle rfl) ?_; refine s_on rfl ?_; refine s_do (o_q (.bool (o_1.Kind == 2)) rfl rfl rfl) ?_; refine s_on rfl ?_; refine s_do (o_mov (.bool (o_1.Kind == 2)) rfl) ?_
               rcases oi hf with ⟨c178, hf⟩ | ⟨c178, hf⟩
               ·refine s_lit (s := 151) (b := true) rfl c178 ?_; refine s_off rfl rfl ?_; refine s_off rfl rfl ?_; refine s_off rfl rfl ?_; refine s_off rfl rfl ?_; refine s_on rfl ?_; refine s_do (o_q (.bool true) rfl trivial rfl) ?_; refine s_do (o_q (.bool true) rfl trivial rfl) ?_; refine s_do (o_mov (.bool true) rfl) ?_; refine s_on rfl ?_; refine s_do (o_q (.ptr 0 0 0) rfl trivial rfl) ?_; refine s_on rfl ?_; refine s_do (o_q (.int .i64 o_1.Kind) rfl nle rfl) ?_; refine s_on rfl ?_; refine s_do (o_q (.bool (o_1.Kind == 6)) rfl rfl rfl) ?_; refine s_on rfl ?_; refine s_do (o_mov (.bool (o_1.Kind == 6)) rfl) ?_
                rcases oi hf with ⟨c179, hf⟩ | ⟨c179, hf⟩
                ·refine s_lit (s := 162) (b := true) rfl c179 ?_; refine s_off rfl rfl ?_; refine s_off rfl rfl ?_; refine s_off rfl rfl ?_; refine s_on rfl ?_; refine s_do (o_q (.bool true) rfl trivial rfl) ?_; refine s_do (o_q (.bool true) rfl trivial rfl) ?_; refine s_do (o_mov (.bool true) rfl) ?_; refine w_done ?_; refine k_seq ?_; refine w_ret ?_; obtain rfl := os hf; exact r_flat ⟨trivial, trivial⟩ rfl (.refl _)
                ·refine s_lit (s := 162) (b := false) rfl (bf c179) ?_; refine s_on rfl ?_; refine s_do (o_q (.ptr 0 0 7) rfl trivial rfl) ?_; refine s_on rfl ?_; refine s_do (o_q (.bool o_1.Until) rfl nle rfl) ?_; refine s_on rfl ?_; refine s_do (o_q (.bool (!o_1.Until)) rfl trivial rfl) ?_; refine s_on rfl ?_; refine s_do (o_q (.bool (!o_1.Until)) rfl trivial rfl) ?_; refine s_do (o_q (.bool (!o_1.Until)) rfl trivial rfl) ?_; refine s_do (o_mov (.bool (!o_1.Until)) rfl) ?_; refine w_done ?_; refine k_seq ?_; refine w_ret ?_; obtain rfl := os hf; exact r_flat ⟨trivial, trivial⟩ rfl (.refl _)
               ·refine s_lit (s := 151) (b := false) rfl (bf c178) ?_; refine s_on rfl ?_; refine s_do (o_q (.ptr 0 0 6) rfl trivial rfl) ?_; refine s_on rfl ?_; refine s_do (o_q (.lst 1 (o_1.Columns.map AV.str)) rfl nle rfl) ?_; refine s_on rfl ?_; refine s_dof (o_len (enc := AV.str) rfl) fun hl180 => ?_; refine s_on rfl ?_; refine s_do (o_q (.bool ((o_1.Columns.length : Int) == 0)) rfl rfl rfl) ?_; refine s_on rfl ?_; refine s_do (o_q (.bool ((o_1.Columns.length : Int) == 0)) rfl trivial rfl) ?_; refine s_do (o_q (.bool ((o_1.Columns.length : Int) == 0)) rfl trivial rfl) ?_; refine s_do (o_mov (.bool ((o_1.Columns.length : Int) == 0)) rfl) ?_
                rcases oi hf with ⟨c181, hf⟩ | ⟨c181, hf⟩
                ·refine s_lit (s := 158) (b := true) rfl c181 ?_; refine s_on rfl ?_; refine s_do (o_q (.ptr 0 0 0) rfl trivial rfl) ?_; refine s_on rfl ?_; refine s_do (o_q (.int .i64 o_1.Kind) rfl nle rfl) ?_; refine s_on rfl ?_; refine s_do (o_q (.bool (o_1.Kind == 6)) rfl rfl rfl) ?_; refine s_on rfl ?_; refine s_do (o_mov (.bool (o_1.Kind == 6)) rfl) ?_
                 rcases oi hf with ⟨c182, hf⟩ | ⟨c182, hf⟩
                 ·refine s_lit (s := 162) (b := true) rfl c182 ?_; refine s_off rfl rfl ?_; refine s_off rfl rfl ?_; refine s_off rfl rfl ?_; refine s_on rfl ?_; refine s_do (o_q (.bool true) rfl trivial rfl) ?_; refine s_do (o_q (.bool true) rfl trivial rfl) ?_; refine s_do (o_mov (.bool true) rfl) ?_; refine w_done ?_; refine k_seq ?_; refine w_ret ?_; obtain rfl := os hf; exact r_flat ⟨trivial, trivial⟩ rfl (.refl _)
                 ·refine s_lit (s := 162) (b := false) rfl (bf c182) ?_; refine s_on rfl ?_; refine s_do (o_q (.ptr 0 0 7) rfl trivial rfl) ?_; refine s_on rfl ?_; refine s_do (o_q (.bool o_1.Until) rfl nle rfl) ?_; refine s_on rfl ?_; refine s_do (o_q (.bool (!o_1.Until)) rfl trivial rfl) ?_; refine s_on rfl ?_; refine s_do (o_q (.bool (!o_1.Until)) rfl trivial rfl) ?_; refine s_do (o_q (.bool (!o_1.Until)) rfl trivial rfl) ?_; refine s_do (o_mov (.bool (!o_1.Until)) rfl) ?_; refine w_done ?_; refine k_seq ?_; refine w_ret ?_; obtain rfl := os hf; exact r_flat ⟨trivial, trivial⟩ rfl (.refl _)
                ·refine s_lit (s := 158) (b := false) rfl (bf c181) ?_; refine s_off rfl rfl ?_; refine s_off rfl rfl ?_; refine s_off rfl rfl ?_; refine s_off rfl rfl ?_; refine s_offs rfl ?_; refine s_offs rfl ?_; refine s_offs rfl ?_; refine s_off rfl rfl ?_; refine s_do (o_q (.bool false) rfl trivial rfl) ?_; refine s_do (o_mov (.bool false) rfl) ?_; refine w_done ?_; refine k_seq ?_; refine w_ret ?_; obtain rfl := os hf; exact r_flat ⟨trivial, trivial⟩ rfl (.refl _)
              ·refine s_lit (s := 147) (b := false) rfl (bf c177) ?_; refine s_off rfl rfl ?_; refine s_off rfl rfl ?_; refine s_off rfl rfl ?_; refine s_off rfl rfl ?_; refine s_offs rfl ?_; refine s_offs rfl ?_; refine s_offs rfl ?_; refine s_offs rfl ?_; refine s_off rfl rfl ?_; refine s_do (o_q (.bool false) rfl trivial rfl) ?_; refine s_do (o_mov (.bool false) rfl) ?_; refine s_off rfl rfl ?_; refine s_off rfl rfl ?_; refine s_off rfl rfl ?_; refine s_off rfl rfl ?_; refine s_offs rfl ?_; refine s_offs rfl ?_; refine s_offs rfl ?_; refine s_off rfl rfl ?_; refine s_do (o_q (.bool false) rfl trivial rfl) ?_
               refine s_do (o_mov (.bool false) rfl) ?_; refine w_done ?_; refine k_seq ?_; refine w_ret ?_; obtain rfl := os hf; exact r_flat ⟨trivial, trivial⟩ rfl (.refl _)
            ·refine s_lit (s := 136) (b := false) rfl (bf c169) ?_; refine s_off rfl rfl ?_; refine s_off rfl rfl ?_; refine s_off rfl rfl ?_; refine s_off rfl rfl ?_; refine s_offs rfl ?_; refine s_offs rfl ?_; refine s_offs rfl ?_; refine s_offs rfl ?_; refine s_off rfl rfl ?_; refine s_do (o_q (.bool false) rfl trivial rfl) ?_; refine s_do (o_mov (.bool false) rfl) ?_; refine s_off rfl rfl ?_; refine s_off rfl rfl ?_; refine s_off rfl rfl ?_; refine s_off rfl rfl ?_; refine s_offs rfl ?_; refine s_offs rfl ?_; refine s_offs rfl ?_; refine s_offs rfl ?_; refine s_off rfl rfl ?_; refine s_do (o_q (.bool false) rfl trivial rfl) ?_
             refine s_do (o_mov (.bool false) rfl) ?_; refine s_off rfl rfl ?_; refine s_off rfl rfl ?_; refine s_off rfl rfl ?_; refine s_off rfl rfl ?_; refine s_offs rfl ?_; refine s_offs rfl ?_; refine s_offs rfl ?_; refine s_off rfl rfl ?_; refine s_do (o_q (.bool false) rfl trivial rfl) ?_; refine s_do (o_mov (.bool false) rfl) ?_; refine w_done ?_; refine k_seq ?_; refine w_ret ?_; obtain rfl := os hf; exact r_flat ⟨trivial, trivial⟩ rfl (.refl _)
          ·refine s_lit (s := 127) (b := false) rfl (bf c153) ?_; refine s_off rfl rfl ?_; refine s_off rfl rfl ?_; refine s_offs rfl ?_; refine s_offs rfl ?_; refine s_offs rfl ?_; refine s_offs rfl ?_; refine s_off rfl rfl ?_; refine s_do (o_q (.bool false) rfl trivial rfl) ?_; refine s_do (o_mov (.bool false) rfl) ?_; refine s_off rfl rfl ?_; refine s_off rfl rfl ?_; refine s_off rfl rfl ?_; refine s_off rfl rfl ?_; refine s_offs rfl ?_; refine s_offs rfl ?_; refine s_offs rfl ?_; refine s_offs rfl ?_; refine s_off rfl rfl ?_; refine s_do (o_q (.bool false) rfl trivial rfl) ?_; refine s_do (o_mov (.bool false) rfl) ?_
           refine s_off rfl rfl ?_; refine s_off rfl rfl ?_; refine s_off rfl rfl ?_; refine s_off rfl rfl ?_; refine s_offs rfl ?_; refine s_offs rfl ?_; refine s_offs rfl ?_; refine s_offs rfl ?_; refine s_off rfl rfl ?_; refine s_do (o_q (.bool false) rfl trivial rfl) ?_; refine s_do (o_mov (.bool false) rfl) ?_; refine s_off rfl rfl ?_; refine s_off rfl rfl ?_; refine s_off rfl rfl ?_; refine s_off rfl rfl ?_; refine s_offs rfl ?_; refine s_offs rfl ?_; refine s_offs rfl ?_; refine s_off rfl rfl ?_; refine s_do (o_q (.bool false) rfl trivial rfl) ?_; refine s_do (o_mov (.bool false) rfl) ?_; refine w_done ?_
           refine k_seq ?_; refine w_ret ?_; obtain rfl := os hf; exact r_flat ⟨trivial, trivial⟩ rfl (.refl _)
        ·refine s_lit (s := 112) (b := false) rfl (bf c122) ?_; refine s_on rfl ?_; refine s_do (o_q (.ptr 0 0 3) rfl trivial rfl) ?_; refine s_on rfl ?_; refine s_do (o_q (.lst 3 (o_1.Where.map encGCond)) rfl nle rfl) ?_; refine s_on rfl ?_; refine s_dof (o_len (enc := encGCond) rfl) fun hl183 => ?_; refine s_on rfl ?_; refine s_do (o_q (.bool ((o_1.Where.length : Int) == 0)) rfl rfl rfl) ?_; refine s_on rfl ?_; refine s_do (o_q (.bool ((o_1.Where.length : Int) == 0)) rfl trivial rfl) ?_; refine s_do (o_q (.bool ((o_1.Where.length : Int) == 0)) rfl trivial rfl) ?_; refine s_do (o_mov (.bool ((o_1.Where.length : Int) == 0)) rfl) ?_
         rcases oi hf with ⟨c184, hf⟩ | ⟨c184, hf⟩
         ·refine s_lit (s := 119) (b := true) rfl c184 ?_; refine s_on rfl ?_; refine s_do (o_mov (.bool name_112) rfl) ?_; refine s_on rfl ?_; refine s_do (o_mov (.bool name_112) rfl) ?_
          rcases oi hf with ⟨c185, hf⟩ | ⟨c185, hf⟩
          ·refine s_lit (s := 121) (b := true) rfl c185 ?_; refine s_off rfl rfl ?_; refine s_off rfl rfl ?_; refine s_off rfl rfl ?_; refine s_on rfl ?_; refine s_do (o_q (.bool true) rfl trivial rfl) ?_; refine s_do (o_q (.bool true) rfl trivial rfl) ?_; refine s_do (o_mov (.bool true) rfl) ?_; refine s_on rfl ?_; refine s_do (o_mov (.bool row_117) rfl) ?_; refine s_on rfl ?_; refine s_do (o_mov (.bool row_117) rfl) ?_
           rcases oi hf with ⟨c186, hf⟩ | ⟨c186, hf⟩
           ·refine s_lit (s := 129) (b := true) rfl c186 ?_; refine s_off rfl rfl ?_; refine s_off rfl rfl ?_; refine s_off rfl rfl ?_; refine s_off rfl rfl ?_; refine s_on rfl ?_; refine s_do (o_q (.bool true) rfl trivial rfl) ?_; refine s_do (o_q (.bool true) rfl trivial rfl) ?_; refine s_do (o_mov (.bool true) rfl) ?_; refine s_on rfl ?_; refine s_do (o_q (.ptr 0 0 0) rfl trivial rfl) ?_; refine s_on rfl ?_; refine s_do (o_q (.int .i64 o_1.Kind) rfl nle rfl) ?_; refine s_on rfl ?_; refine s_do (o_q (.bool (o_1.Kind == 4)) rfl rfl rfl) ?_; refine s_on rfl ?_; refine s_do (o_mov (.bool (o_1.Kind == 4)) rfl) ?_
            rcases oi hf with ⟨c187, hf⟩ | ⟨c187, hf⟩
            ·refine s_lit (s := 140) (b := true) rfl c187 ?_; refine s_off rfl rfl ?_; refine s_off rfl rfl ?_; refine s_off rfl rfl ?_; refine s_off rfl rfl ?_; refine s_on rfl ?_; refine s_do (o_q (.bool true) rfl trivial rfl) ?_; refine s_do (o_q (.bool true) rfl trivial rfl) ?_; refine s_do (o_mov (.bool true) rfl) ?_; refine s_on rfl ?_; refine s_do (o_q (.ptr 0 0 0) rfl trivial rfl) ?_; refine s_on rfl ?_; refine s_do (o_q (.int .i64 o_1.Kind) rfl nle rfl) ?_; refine s_on rfl ?_; refine s_do (o_q (.bool (o_1.Kind == 2)) rfl rfl rfl) ?_; refine s_on rfl ?_; refine s_do (o_mov (.bool (o_1.Kind == 2)) rfl) ?_
             rcases oi hf with ⟨c188, hf⟩ | ⟨c188, hf⟩
             ·refine s_lit (s := 151) (b := true) rfl c188 ?_; refine s_off rfl rfl ?_; refine s_off rfl rfl ?_; refine s_off rfl rfl ?_; refine s_off rfl rfl ?_; refine s_on rfl ?_; refine s_do (o_q (.bool true) rfl trivial rfl) ?_; refine s_do (o_q (.bool true) rfl trivial rfl) ?_; refine s_do (o_mov (.bool true) rfl) ?_; refine s_on rfl ?_; refine s_do (o_q (.ptr 0 0 0) rfl trivial rfl) ?_; refine s_on rfl ?_; refine s_do (o_q (.int .i64 o_1.Kind) rfl nle rfl) ?_; refine s_on rfl ?_; refine s_do (o_q (.bool (o_1.Kind == 6)) rfl rfl rfl) ?_; refine s_on rfl ?_; refine s_do (o_mov (.bool (o_1.Kind == 6)) rfl) ?_
              rcases oi hf with ⟨c189, hf⟩ | ⟨c189, hf⟩
              ·refine s_lit (s := 162) (b := true) rfl c189 ?_; refine s_off rfl rfl ?_; refine s_off rfl rfl ?_; refine s_off rfl rfl ?_; refine s_on rfl ?_; refine s_do (o_q (.bool true) rfl trivial rfl) ?_; refine s_do (o_q (.bool true) rfl trivial rfl) ?_; refine s_do (o_mov (.bool true) rfl) ?_; refine w_done ?_; refine k_seq ?_; refine w_ret ?_; obtain rfl := os hf; exact r_flat ⟨trivial, trivial⟩ rfl (.refl _)
              ·refine s_lit (s := 162) (b := false) rfl (bf c189) ?_; refine s_on rfl ?_; refine s_do (o_q (.ptr 0 0 7) rfl trivial rfl) ?_; refine s_on rfl ?_; refine s_do (o_q (.bool o_1.Until) rfl nle rfl) ?_; refine s_on rfl ?_; refine s_do (o_q (.bool (!o_1.Until)) rfl trivial rfl) ?_; refine s_on rfl ?_; refine s_do (o_q (.bool (!o_1.Until)) rfl trivial rfl) ?_; refine s_do (o_q (.bool (!o_1.Until)) rfl trivial rfl) ?_; refine s_do (o_mov (.bool (!o_1.Until)) rfl) ?_; refine w_done ?_; refine k_seq ?_; refine w_ret ?_; obtain rfl := os hf; exact r_flat ⟨trivial, trivial⟩ rfl (.refl _)
             ·refine s_lit (s := 151) (b := false) rfl (bf c188) ?_; refine s_on rfl ?_; refine s_do (o_q (.ptr 0 0 6) rfl trivial rfl) ?_; refine s_on rfl ?_; refine s_do (o_q (.lst 1 (o_1.Columns.map AV.str)) rfl nle rfl) ?_; refine s_on rfl ?_; refine s_dof (o_len (enc := AV.str) rfl) fun hl190 => ?_; refine s_on rfl ?_; refine s_do (o_q (.bool ((o_1.Columns.length : Int) == 0)) rfl rfl rfl) ?_; refine s_on rfl ?_; refine s_do (o_q (.bool ((o_1.Columns.length : Int) == 0)) rfl trivial rfl) ?_; refine s_do (o_q (.bool ((o_1.Columns.length : Int) == 0)) rfl trivial rfl) ?_; refine s_do (o_mov (.bool ((o_1.Columns.length : Int) == 0)) rfl) ?_
              rcases oi hf with ⟨c191, hf⟩ | ⟨c191, hf⟩
              ·refine s_lit (s := 158) (b := true) rfl c191 ?_; refine s_on rfl ?_; refine s_do (o_q (.ptr 0 0 0) rfl trivial rfl) ?_; refine s_on rfl ?_; refine s_do (o_q (.int .i64 o_1.Kind) rfl nle rfl) ?_; refine s_on rfl ?_; refine s_do (o_q (.bool (o_1.Kind == 6)) rfl rfl rfl) ?_; refine s_on rfl ?_; refine s_do (o_mov (.bool (o_1.Kind == 6)) rfl) ?_
               rcases oi hf with ⟨c192, hf⟩ | ⟨c192, hf⟩
               ·refine s_lit (s := 162) (b := true) rfl c192 ?_; refine s_off rfl rfl ?_; refine s_off rfl rfl ?_; refine s_off rfl rfl ?_; refine s_on rfl ?_; refine s_do (o_q (.bool true) rfl trivial rfl) ?_; refine s_do (o_q (.bool true) rfl trivial rfl) ?_; refine s_do (o_mov (.bool true) rfl) ?_; refine w_done ?_; refine k_seq ?_; refine w_ret ?_; obtain rfl := os hf; exact r_flat ⟨trivial, trivial⟩ rfl (.refl _)
               ·refine s_lit (s := 162) (b := false) rfl (bf c192) ?_; refine s_on rfl ?_; refine s_do (o_q (.ptr 0 0 7) rfl trivial rfl) ?_; refine s_on rfl ?_; refine s_do (o_q (.bool o_1.Until) rfl nle rfl) ?_; refine s_on rfl ?_; refine s_do (o_q (.bool (!o_1.Until)) rfl trivial rfl) ?_; refine s_on rfl ?_; refine s_do (o_q (.bool (!o_1.Until)) rfl trivial rfl) ?_; refine s_do (o_q (.bool (!o_1.Until)) rfl trivial rfl) ?_; refine s_do (o_mov (.bool (!o_1.Until)) rfl) ?_; refine w_done ?_; refine k_seq ?_; refine w_ret ?_; obtain rfl := os hf; exact r_flat ⟨trivial, trivial⟩ rfl (.refl _)
              ·refine s_lit (s := 158) (b := false) rfl (bf c191) ?_; refine s_off rfl rfl ?_; refine s_off rfl rfl ?_; refine s_off rfl rfl ?_; refine s_off rfl rfl ?_; refine s_offs rfl ?_; refine s_offs rfl ?_; refine s_offs rfl ?_; refine s_off rfl rfl ?_; refine s_do (o_q (.bool false) rfl trivial rfl) ?_; refine s_do (o_mov (.bool false) rfl) ?_; refine w_done ?_; refine k_seq ?_; refine w_ret ?_; obtain rfl := os hf; exact r_flat ⟨trivial, trivial⟩ rfl (.refl _)
            ·refine s_lit (s := 140) (b := false) rfl (bf c187) ?_; refine s_on rfl ?_; refine s_do (o_q (.ptr 0 0 5) rfl trivial rfl) ?_; refine s_on rfl ?_; refine s_do (o_q (.lst 3 (o_1.Muts.map encGMut)) rfl nle rfl) ?_; refine s_on rfl ?_; refine s_dof (o_len (enc := encGMut) rfl) fun hl193 => ?_; refine s_on rfl ?_; refine s_do (o_q (.bool ((o_1.Muts.length : Int) == 0)) rfl rfl rfl) ?_; refine s_on rfl ?_; refine s_do (o_q (.bool ((o_1.Muts.length : Int) == 0)) rfl trivial rfl) ?_; refine s_do (o_q (.bool ((o_1.Muts.length : Int) == 0)) rfl trivial rfl) ?_; refine s_do (o_mov (.bool ((o_1.Muts.length : Int) == 0)) rfl) ?_
             rcases oi hf with ⟨c194, hf⟩ | ⟨c194, hf⟩
             ·refine s_lit (s := 147) (b := true) rfl c194 ?_; refine s_on rfl ?_; refine s_do (o_q (.ptr 0 0 0) rfl trivial rfl) ?_; refine s_on rfl ?_; refine s_do (o_q (.int .i64 o_1.Kind) rfl nle rfl) ?_; refine s_on rfl ?_; refine s_do (o_q (.bool (o_1.Kind == 2)) rfl rfl rfl) ?_; refine s_on rfl ?_; refine s_do (o_mov (.bool (o_1.Kind == 2)) rfl) ?_
              rcases oi hf with ⟨c195, hf⟩ | ⟨c195, hf⟩
              ·refine s_lit (s := 151) (b := true) rfl c195 ?_; refine s_off rfl rfl ?_; refine s_off rfl rfl ?_; refine s_off rfl rfl ?_; refine s_off rfl rfl ?_; refine s_on rfl ?_; refine s_do (o_q (.bool true) rfl trivial rfl) ?_; refine s_do (o_q (.bool true) rfl trivial rfl) ?_; refine s_do (o_mov (.bool true) rfl) ?_; refine s_on rfl ?_; refine s_do (o_q (.ptr 0 0 0) rfl trivial rfl) ?_; refine s_on rfl ?_; refine s_do (o_q (.int .i64 o_1.Kind) rfl nle rfl) ?_; refine s_on rfl ?_; refine s_do (o_q (.bool (o_1.Kind == 6)) rfl rfl rfl) ?_; refine s_on rfl ?_; refine s_do (o_mov (.bool (o_1.Kind == 6)) rfl) ?_
               rcases oi hf with ⟨c196, hf⟩ | ⟨c196, hf⟩
               ·refine s_lit (s := 162) (b := true) rfl c196 ?_; refine s_off rfl rfl ?_; refine s_off rfl rfl ?_; refine s_off rfl rfl ?_; refine s_on rfl ?_; refine s_do (o_q (.bool true) rfl trivial rfl) ?_; refine s_do (o_q (.bool true) rfl trivial rfl) ?_; refine s_do (o_mov (.bool true) rfl) ?_; refine w_done ?_; refine k_seq ?_; refine w_ret ?_; obtain rfl := os hf; exact r_flat ⟨trivial, trivial⟩ rfl (.refl _)
               ·refine s_lit (s := 162) (b := false) rfl (bf c196) ?_; refine s_on rfl ?_; refine s_do (o_q (.ptr 0 0 7) rfl trivial rfl) ?_; refine s_on rfl ?_; refine s_do (o_q (.bool o_1.Until) rfl nle rfl) ?_; refine s_on rfl ?_; refine s_do (o_q (.bool (!o_1.Until)) rfl trivial rfl) ?_; refine s_on rfl ?_; refine s_do (o_q (.bool (!o_1.Until)) rfl trivial rfl) ?_; refine s_do (o_q (.bool (!o_1.Until)) rfl trivial rfl) ?_; refine s_do (o_mov (.bool (!o_1.Until)) rfl) ?_; refine w_done ?_; refine k_seq ?_; refine w_ret ?_; obtain rfl := os hf; exact r_flat ⟨trivial, trivial⟩ rfl (.refl _)
              ·refine s_lit (s := 151) (b := false) rfl (bf c195) ?_; refine s_on rfl ?_; refine s_do (o_q (.ptr 0 0 6) rfl trivial rfl) ?_; refine s_on rfl ?_; refine s_do (o_q (.lst 1 (o_1.Columns.map AV.str)) rfl nle rfl) ?_; refine s_on rfl ?_; refine s_dof (o_len (enc := AV.str) rfl) fun hl197 => ?_; refine s_on rfl ?_; refine s_do (o_q (.bool ((o_1.Columns.length : Int) == 0)) rfl rfl rfl) ?_; refine s_on rfl ?_; refine s_do (o_q (.bool ((o_1.Columns.length : Int) == 0)) rfl trivial rfl) ?_; refine s_do (o_q (.bool ((o_1.Columns.length : Int) == 0)) rfl trivial rfl) ?_; refine s_do (o_mov (.bool ((o_1.Columns.length : Int) == 0)) rfl) ?_
               rcases oi hf with ⟨c198, hf⟩ | ⟨c198, hf⟩
               ·refine s_lit (s := 158) (b := true) rfl c198 ?_; refine s_on rfl ?_; refine s_do (o_q (.ptr 0 0 0) rfl trivial rfl) ?_; refine s_on rfl ?_; refine s_do (o_q (.int .i64 o_1.Kind) rfl nle rfl) ?_; refine s_on rfl ?_; refine s_do (o_q (.bool (o_1.Kind == 6)) rfl rfl rfl) ?_; refine s_on rfl ?_; refine s_do (o_mov (.bool (o_1.Kind == 6)) rfl) ?_
                rcases oi hf with ⟨c199, hf⟩ | ⟨c199, hf⟩
                ·refine s_lit (s := 162) (b := true) rfl c199 ?_; refine s_off rfl rfl ?_; refine s_off rfl rfl ?_; refine s_off rfl rfl ?_; refine s_on rfl ?_; refine s_do (o_q (.bool true) rfl trivial rfl) ?_; refine s_do (o_q (.bool true) rfl trivial rfl) ?_; refine s_do (o_mov (.bool true) rfl) ?_; refine w_done ?_; refine k_seq ?_; refine w_ret ?_; obtain rfl := os hf; exact r_flat ⟨trivial, trivial⟩ rfl (.refl _)
                ·refine s_lit (s := 162) (b := false) rfl (bf c199) ?_; refine s_on rfl ?_; refine s_do (o_q (.ptr 0 0 7) rfl trivial rfl) ?_; refine s_on rfl ?_; refine s_do (o_q (.bool o_1.Until) rfl nle rfl) ?_; refine s_on rfl ?_; refine s_do (o_q (.bool (!o_1.Until)) rfl trivial rfl) ?_; refine s_on rfl ?_; refine s_do (o_q (.bool (!o_1.Until)) rfl trivial rfl) ?_; refine s_do (o_q (.bool (!o_1.Until)) rfl trivial rfl) ?_; refine s_do (o_mov (.bool (!o_1.Until)) rfl) ?_; refine w_done ?_; refine k_seq ?_; refine w_ret ?_; obtain rfl := os hf; exact r_flat ⟨trivial, trivial⟩ rfl (.refl _)
               ·refine s_lit (s := 158) (b := false) rfl (bf c198) ?_; refine s_off rfl rfl ?_; refine s_off rfl rfl ?_; refine s_off rfl rfl ?_; refine s_off rfl rfl ?_; refine s_offs rfl ?_; refine s_offs rfl ?_; refine s_offs rfl ?_; refine s_off rfl rfl ?_; refine s_do (o_q (.bool false) rfl trivial rfl) ?_; refine s_do (o_mov (.bool false) rfl) ?_; refine w_done ?_; refine k_seq ?_; refine w_ret ?_; obtain rfl := os hf; exact r_flat ⟨trivial, trivial⟩ rfl (.refl _)
             ·refine s_lit (s := 147) (b := false) rfl (bf c194) ?_; refine s_off rfl rfl ?_; refine s_off rfl rfl ?_; refine s_off rfl rfl ?_; refine s_off rfl rfl ?_; refine s_offs rfl ?_; refine s_offs rfl ?_; refine s_offs rfl ?_; refine s_offs rfl ?_; refine s_off rfl rfl ?_; refine s_do (o_q (.bool false) rfl trivial rfl) ?_; refine s_do (o_mov (.bool false) rfl) ?_; refine s_off rfl rfl ?_; refine s_off rfl rfl ?_; refine s_off rfl rfl ?_; refine s_off rfl rfl ?_; refine s_offs rfl ?_; refine s_offs rfl ?_; refine s_offs rfl ?_; refine s_off rfl rfl ?_; refine s_do (o_q (.bool false) rfl trivial rfl) ?_
              refine s_do (o_mov (.bool false) rfl) ?_; refine w_done ?_; refine k_seq ?_; refine w_ret ?_; obtain rfl := os hf; exact r_flat ⟨trivial, trivial⟩ rfl (.refl _)
           ·refine s_lit (s := 129) (b := false) rfl (bf c186) ?_; refine s_on rfl ?_; refine s_do (o_q (.ptr 0 0 4) rfl trivial rfl) ?_; refine s_on rfl ?_; refine s_do (o_q (.lst 3 (o_1.Row.map encGSet)) rfl nle rfl) ?_; refine s_on rfl ?_; refine s_dof (o_len (enc := encGSet) rfl) fun hl200 => ?_; refine s_on rfl ?_; refine s_do (o_q (.bool ((o_1.Row.length : Int) == 0)) rfl rfl rfl) ?_; refine s_on rfl ?_; refine s_do (o_q (.bool ((o_1.Row.length : Int) == 0)) rfl trivial rfl) ?_; refine s_do (o_q (.bool ((o_1.Row.length : Int) == 0)) rfl trivial rfl) ?_; refine s_do (o_mov (.bool ((o_1.Row.length : Int) == 0)) rfl) ?_
            rcases oi hf with ⟨c201, hf⟩ | ⟨c201, hf⟩
            ·refine s_lit (s := 136) (b := true) rfl c201 ?_; refine s_on rfl ?_; refine s_do (o_q (.ptr 0 0 0) rfl trivial rfl) ?_; refine s_on rfl ?_; refine s_do (o_q (.int .i64 o_1.Kind) rfl nle rfl) ?_; refine s_on rfl ?_; refine s_do (o_q (.bool (o_1.Kind == 4)) rfl rfl rfl) ?_; refine s_on rfl ?_; refine s_do (o_mov (.bool (o_1.Kind == 4)) rfl) ?_
             rcases oi hf with ⟨c202, hf⟩ | ⟨c202, hf⟩
             ·refine s_lit (s := 140) (b := true) rfl c202 ?_; refine s_off rfl rfl ?_; refine s_off rfl rfl ?_; refine s_off rfl rfl ?_; refine s_off rfl rfl ?_; refine s_on rfl ?_; refine s_do (o_q (.bool true) rfl trivial rfl) ?_; refine s_do (o_q (.bool true) rfl trivial rfl) ?_; refine s_do (o_mov (.bool true) rfl) ?_; refine s_on rfl ?_; refine s_do (o_q (.ptr 0 0 0) rfl trivial rfl) ?_; refine s_on rfl ?_; refine s_do (o_q (.int .i64 o_1.Kind) rfl nle rfl) ?_; refine s_on rfl ?_; refine s_do (o_q (.bool (o_1.Kind == 2)) rfl rfl rfl) ?_; refine s_on rfl ?_; refine s_do (o_mov (.bool (o_1.Kind == 2)) rfl) ?_
              rcases oi hf with ⟨c203, hf⟩ | ⟨c203, hf⟩
              ·refine s_lit (s := 151) (b := true) rfl c203 ?_; refine s_off rfl rfl ?_; refine s_off rfl rfl ?_; refine s_off rfl rfl ?_; refine s_off rfl rfl ?_; refine s_on rfl ?_; refine s_do (o_q (.bool true) rfl trivial rfl) ?_; refine s_do (o_q (.bool true) rfl trivial rfl) ?_; refine s_do (o_mov (.bool true) rfl) ?_; refine s_on rfl ?_; refine s_do (o_q (.ptr 0 0 0) rfl trivial rfl) ?_; refine s_on rfl ?_; refine s_do (o_q (.int .i64 o_1.Kind) rfl nle rfl) ?_; refine s_on rfl ?_; refine s_do (o_q (.bool (o_1.Kind == 6)) rfl rfl rfl) ?_; refine s_on rfl ?_; refine s_do (o_mov (.bool (o_1.Kind == 6)) rfl) ?_
               rcases oi hf with ⟨c204, hf⟩ | ⟨c204, hf⟩
               ·refine s_lit (s := 162) (b := true) rfl c204 ?_; refine s_off rfl rfl ?_; refine s_off rfl rfl ?_; refine s_off rfl rfl ?_; refine s_on rfl ?_; refine s_do (o_q (.bool true) rfl trivial rfl) ?_; refine s_do (o_q (.bool true) rfl trivial rfl) ?_; refine s_do (o_mov (.bool true) rfl) ?_; refine w_done ?_; refine k_seq ?_; refine w_ret ?_; obtain rfl := os hf; exact r_flat ⟨trivial, trivial⟩ rfl (.refl _)
               ·refine s_lit (s := 162) (b := false) rfl (bf c204) ?_; refine s_on rfl ?_; refine s_do (o_q (.ptr 0 0 7) rfl trivial rfl) ?_; refine s_on rfl ?_; refine s_do (o_q (.bool o_1.Until) rfl nle rfl) ?_; refine s_on rfl ?_; refine s_do (o_q (.bool (!o_1.Until)) rfl trivial rfl) ?_; refine s_on rfl ?_; refine s_do (o_q (.bool (!o_1.Until)) rfl trivial rfl) ?_; refine s_do (o_q (.bool (!o_1.Until)) rfl trivial rfl) ?_; refine s_do (o_mov (.bool (!o_1.Until)) rfl) ?_; refine w_done ?_; refine k_seq ?_; refine w_ret ?_; obtain rfl := os hf; exact r_flat ⟨trivial, trivial⟩ rfl (.refl _)
              ·refine s_lit (s := 151) (b := false) rfl (bf c203) ?_; refine s_on rfl ?_; refine s_do (o_q (.ptr 0 0 6) rfl trivial rfl) ?_; refine s_on rfl ?_; refine s_do (o_q (.lst 1 (o_1.Columns.map AV.str)) rfl nle rfl) ?_; refine s_on rfl ?_; refine s_dof (o_len (enc := AV.str) rfl) fun hl205 => ?_; refine s_on rfl ?_; refine s_do (o_q (.bool ((o_1.Columns.length : Int) == 0)) rfl rfl rfl) ?_; refine s_on rfl ?_; refine s_do (o_q (.bool ((o_1.Columns.length : Int) == 0)) rfl trivial rfl) ?_; refine s_do (o_q (.bool ((o_1.Columns.length : Int) == 0)) rfl trivial rfl) ?_; refine s_do (o_mov (.bool ((o_1.Columns.length : Int) == 0)) rfl) ?_
               rcases oi hf with ⟨c206, hf⟩ | ⟨c206, hf⟩
               ·refine s_lit (s := 158) (b := true) rfl c206 ?_; refine s_on rfl ?_; refine s_do (o_q (.ptr 0 0 0) rfl trivial rfl) ?_; refine s_on rfl ?_; refine s_do (o_q (.int .i64 o_1.Kind) rfl nle rfl) ?_; refine s_on rfl ?_; refine s_do (o_q (.bool (o_1.Kind == 6)) rfl rfl rfl) ?_; refine s_on rfl ?_; refine s_do (o_mov (.bool (o_1.Kind == 6)) rfl) ?_
                rcases oi hf with ⟨c207, hf⟩ | ⟨c207, hf⟩
                ·refine s_lit (s := 162) (b := true) rfl c207 ?_; refine s_off rfl rfl ?_; refine s_off rfl rfl ?_; refine s_off rfl rfl ?_; refine s_on rfl ?_; refine s_do (o_q (.bool true) rfl trivial rfl) ?_; refine s_do (o_q (.bool true) rfl trivial rfl) ?_; refine s_do (o_mov (.bool true) rfl) ?_; refine w_done ?_; refine k_seq ?_; refine w_ret ?_; obtain rfl := os hf; exact r_flat ⟨trivial, trivial⟩ rfl (.refl _)
                ·refine s_lit (s := 162) (b := false) rfl (bf c207) ?_; refine s_on rfl ?_; refine s_do (o_q (.ptr 0 0 7) rfl trivial rfl) ?_; refine s_on rfl ?_; refine s_do (o_q (.bool o_1.Until) rfl nle rfl) ?_; refine s_on rfl ?_; refine s_do (o_q (.bool (!o_1.Until)) rfl trivial rfl) ?_; refine s_on rfl ?_; refine s_do (o_q (.bool (!o_1.Until)) rfl trivial rfl) ?_; refine s_do (o_q (.bool (!o_1.Until)) rfl trivial rfl) ?_; refine s_do (o_mov (.bool (!o_1.Until)) rfl) ?_; refine w_done ?_; refine k_seq ?_; refine w_ret ?_; obtain rfl := os hf; exact r_flat ⟨trivial, trivial⟩ rfl (.refl _)
               ·refine s_lit (s := 158) (b := false) rfl (bf c206) ?_; refine s_off rfl rfl ?_; refine s_off rfl rfl ?_; refine s_off rfl rfl ?_; refine s_off rfl rfl ?_; refine s_offs rfl ?_; refine s_offs rfl ?_; refine s_offs rfl ?_; refine s_off rfl rfl ?_; refine s_do (o_q (.bool false) rfl trivial rfl) ?_; refine s_do (o_mov (.bool false) rfl) ?_; refine w_done ?_; refine k_seq ?_; refine w_ret ?_; obtain rfl := os hf; exact r_flat ⟨trivial, trivial⟩ rfl (.refl _)
             ·refine s_lit (s := 140) (b := false) rfl (bf c202) ?_; refine s_on rfl ?_; refine s_do (o_q (.ptr 0 0 5) rfl trivial rfl) ?_; refine s_on rfl ?_; refine s_do (o_q (.lst 3 (o_1.Muts.map encGMut)) rfl nle rfl) ?_; refine s_on rfl ?_; refine s_dof (o_len (enc := encGMut) rfl) fun hl208 => ?_; refine s_on rfl ?_; refine s_do (o_q (.bool ((o_1.Muts.length : Int) == 0)) rfl rfl rfl) ?_; refine s_on rfl ?_; refine s_do (o_q (.bool ((o_1.Muts.length : Int) == 0)) rfl trivial rfl) ?_; refine s_do (o_q (.bool ((o_1.Muts.length : Int) == 0)) rfl trivial rfl) ?_; refine s_do (o_mov (.bool ((o_1.Muts.length : Int) == 0)) rfl) ?_
              rcases oi hf with ⟨c209, hf⟩ | ⟨c209, hf⟩
              ·refine s_lit (s := 147) (b := true) rfl c209 ?_; refine s_on rfl ?_; refine s_do (o_q (.ptr 0 0 0) rfl trivial rfl) ?_; refine s_on rfl ?_; refine s_do (o_q (.int .i64 o_1.Kind) rfl nle rfl) ?_; refine s_on rfl ?_; refine s_do (o_q (.bool (o_1.Kind == 2)) rfl rfl rfl) ?_; refine s_on rfl ?_; refine s_do (o_mov (.bool (o_1.Kind == 2)) rfl) ?_
               rcases oi hf with ⟨c210, hf⟩ | ⟨c210, hf⟩
               ·refine s_lit (s := 151) (b := true) rfl c210 ?_; refine s_off rfl rfl ?_; refine s_off rfl rfl ?_; refine s_off rfl rfl ?_; refine s_off rfl rfl ?_; refine s_on rfl ?_; refine s_do (o_q (.bool true) rfl trivial rfl) ?_; refine s_do (o_q (.bool true) rfl trivial rfl) ?_; refine s_do (o_mov (.bool true) rfl) ?_; refine s_on rfl ?_; refine s_do (o_q (.ptr 0 0 0) rfl trivial rfl) ?_; refine s_on rfl ?_; refine s_do (o_q (.int .i64 o_1.Kind) rfl nle rfl) ?_; refine s_on rfl ?_; refine s_do (o_q (.bool (o_1.Kind == 6)) rfl rfl rfl) ?_; refine s_on rfl ?_; refine s_do (o_mov (.bool (o_1.Kind == 6)) rfl) ?_
                rcases oi hf with ⟨c211, hf⟩ | ⟨c211, hf⟩
                ·refine s_lit (s := 162) (b := true) rfl c211 ?_; refine s_off rfl rfl ?_; refine s_off rfl rfl ?_; refine s_off rfl rfl ?_; refine s_on rfl ?_; refine s_do (o_q (.bool true) rfl trivial rfl) ?_; refine s_do (o_q (.bool true) rfl trivial rfl) ?_; refine s_do (o_mov (.bool true) rfl) ?_; refine w_done ?_; refine k_seq ?_; refine w_ret ?_; obtain rfl := os hf; exact r_flat ⟨trivial, trivial⟩ rfl (.refl _)
                ·refine s_lit (s := 162) (b := false) rfl (bf c211) ?_; refine s_on rfl ?_; refine s_do (o_q (.ptr 0 0 7) rfl trivial rfl) ?_; refine s_on rfl ?_; refine s_do (o_q (.bool o_1.Until) rfl nle rfl) ?_; refine s_on rfl ?_; refine s_do (o_q (.bool (!o_1.Until)) rfl trivial rfl) ?_; refine s_on rfl ?_; refine s_do (o_q (.bool (!o_1.Until)) rfl trivial rfl) ?_; refine s_do (o_q (.bool (!o_1.Until)) rfl trivial rfl) ?_; refine s_do (o_mov (.bool (!o_1.Until)) rfl) ?_; refine w_done ?_; refine k_seq ?_; refine w_ret ?_; obtain rfl := os hf; exact r_flat ⟨trivial, trivial⟩ rfl (.refl _)
               ·refine s_lit (s := 151) (b := false) rfl (bf c210) ?_; refine s_on rfl ?_; refine s_do (o_q (.ptr 0 0 6) rfl trivial rfl) ?_; refine s_on rfl ?_; refine s_do (o_q (.lst 1 (o_1.Columns.map AV.str)) rfl nle rfl) ?_; refine s_on rfl ?_; refine s_dof (o_len (enc := AV.str) rfl) fun hl212 => ?_; refine s_on rfl ?_; refine s_do (o_q (.bool ((o_1.Columns.length : Int) == 0)) rfl rfl rfl) ?_; refine s_on rfl ?_; refine s_do (o_q (.bool ((o_1.Columns.length : Int) == 0)) rfl trivial rfl) ?_; refine s_do (o_q (.bool ((o_1.Columns.length : Int) == 0)) rfl trivial rfl) ?_; refine s_do (o_mov (.bool ((o_1.Columns.length : Int) == 0)) rfl) ?_
                rcases oi hf with ⟨c213, hf⟩ | ⟨c213, hf⟩
                ·refine s_lit (s := 158) (b := true) rfl c213 ?_; refine s_on rfl ?_; refine s_do (o_q (.ptr 0 0 0) rfl trivial rfl) ?_; refine s_on rfl ?_; refine s_do (o_q (.int .i64 o_1.Kind) rfl nle rfl) ?_; refine s_on rfl ?_; refine s_do (o_q (.bool (o_1.Kind == 6)) rfl rfl rfl) ?_; refine s_on rfl ?_; refine s_do (o_mov (.bool (o_1.Kind == 6)) rfl) ?_
                 rcases oi hf with ⟨c214, hf⟩ | ⟨c214, hf⟩
                 ·refine s_lit (s := 162) (b := true) rfl c214 ?_; refine s_off rfl rfl ?_; refine s_off rfl rfl ?_; refine s_off rfl rfl ?_; refine s_on rfl ?_; refine s_do (o_q (.bool true) rfl trivial rfl) ?_; refine s_do (o_q (.bool true) rfl trivial rfl) ?_; refine s_do (o_mov (.bool true) rfl) ?_; refine w_done ?_; refine k_seq ?_; refine w_ret ?_; obtain rfl := os hf; exact r_flat ⟨trivial, trivial⟩ rfl (.refl _)
                 ·refine s_lit (s := 162) (b := false) rfl (bf c214) ?_; refine s_on rfl ?_; refine s_do (o_q (.ptr 0 0 7) rfl trivial rfl) ?_; refine s_on rfl ?_; refine s_do (o_q (.bool o_1.Until) rfl nle rfl) ?_; refine s_on rfl ?_; refine s_do (o_q (.bool (!o_1.Until)) rfl trivial rfl) ?_; refine s_on rfl ?_; refine s_do (o_q (.bool (!o_1.Until)) rfl trivial rfl) ?_; refine s_do (o_q (.bool (!o_1.Until)) rfl trivial rfl) ?_; refine s_do (o_mov (.bool (!o_1.Until)) rfl) ?_; refine w_done ?_; refine k_seq ?_; refine w_ret ?_; obtain rfl := os hf; exact r_flat ⟨trivial, trivial⟩ rfl (.refl _)
                ·refine s_lit (s := 158) (b := false) rfl (bf c213) ?_; refine s_off rfl rfl ?_; refine s_off rfl rfl ?_; refine s_off rfl rfl ?_; refine s_off rfl rfl ?_; refine s_offs rfl ?_; refine s_offs rfl ?_; refine s_offs rfl ?_; refine s_off rfl rfl ?_; refine s_do (o_q (.bool false) rfl trivial rfl) ?_; refine s_do (o_mov (.bool false) rfl) ?_; refine w_done ?_; refine k_seq ?_; refine w_ret ?_; obtain rfl := os hf; exact r_flat ⟨trivial, trivial⟩ rfl (.refl _)
              ·refine s_lit (s := 147) (b := false) rfl (bf c209) ?_; refine s_off rfl rfl ?_; refine s_off rfl rfl ?_; refine s_off rfl rfl ?_; refine s_off rfl rfl ?_; refine s_offs rfl ?_; refine s_offs rfl ?_; refine s_offs rfl ?_; refine s_offs rfl ?_; refine s_off rfl rfl ?_; refine s_do (o_q (.bool false) rfl trivial rfl) ?_; refine s_do (o_mov (.bool false) rfl) ?_; refine s_off rfl rfl ?_; refine s_off rfl rfl ?_; refine s_off rfl rfl ?_; refine s_off rfl rfl ?_; refine s_offs rfl ?_; refine s_offs rfl ?_; refine s_offs rfl ?_; refine s_off rfl rfl ?_; refine s_do (o_q (.bool false) rfl trivial rfl) ?_
               refine s_do (o_mov (.bool false) rfl) ?_; refine w_done ?_; refine k_seq ?_; refine w_ret ?_; obtain rfl := os hf; exact r_flat ⟨trivial, trivial⟩ rfl (.refl _)
            ·refine s_lit (s := 136) (b := false) rfl (bf c201) ?_; refine s_off rfl rfl ?_; refine s_off rfl rfl ?_; refine s_off rfl rfl ?_; refine s_off rfl rfl ?_; refine s_offs rfl ?_; refine s_offs rfl ?_; refine s_offs rfl ?_; refine s_offs rfl ?_; refine s_off rfl rfl ?_; refine s_do (o_q (.bool false) rfl trivial rfl) ?_; refine s_do (o_mov (.bool false) rfl) ?_; refine s_off rfl rfl ?_; refine s_off rfl rfl ?_; refine s_off rfl rfl ?_; refine s_off rfl rfl ?_; refine s_offs rfl ?_; refine s_offs rfl ?_; refine s_offs rfl ?_; refine s_offs rfl ?_; refine s_off rfl rfl ?_; refine s_do (o_q (.bool false) rfl trivial rfl) ?_
             refine s_do (o_mov (.bool false) rfl) ?_; refine s_off rfl rfl ?_; refine s_off rfl rfl ?_; refine s_off rfl rfl ?_; refine s_off rfl rfl ?_; refine s_offs rfl ?_; refine s_offs rfl ?_; refine s_offs rfl ?_; refine s_off rfl rfl ?_; refine s_do (o_q (.bool false) rfl trivial rfl) ?_; refine s_do (o_mov (.bool false) rfl) ?_; refine w_done ?_; refine k_seq ?_; refine w_ret ?_; obtain rfl := os hf; exact r_flat ⟨trivial, trivial⟩ rfl (.refl _)
          ·refine s_lit (s := 121) (b := false) rfl (bf c185) ?_; refine s_on rfl ?_; refine s_do (o_q (.ptr 0 0 2) rfl trivial rfl) ?_; refine s_on rfl ?_; refine s_do (o_q (.str o_1.Name) rfl nle rfl) ?_; refine s_on rfl ?_; refine s_do (o_q (.bool (o_1.Name == [])) rfl trivial rfl) ?_; refine s_on rfl ?_; refine s_do (o_q (.bool (o_1.Name == [])) rfl trivial rfl) ?_; refine s_do (o_q (.bool (o_1.Name == [])) rfl trivial rfl) ?_; refine s_do (o_mov (.bool (o_1.Name == [])) rfl) ?_
           rcases oi hf with ⟨c215, hf⟩ | ⟨c215, hf⟩
           ·refine s_lit (s := 127) (b := true) rfl c215 ?_; refine s_on rfl ?_; refine s_do (o_mov (.bool row_117) rfl) ?_; refine s_on rfl ?_; refine s_do (o_mov (.bool row_117) rfl) ?_
            rcases oi hf with ⟨c216, hf⟩ | ⟨c216, hf⟩
            ·refine s_lit (s := 129) (b := true) rfl c216 ?_; refine s_off rfl rfl ?_; refine s_off rfl rfl ?_; refine s_off rfl rfl ?_; refine s_off rfl rfl ?_; refine s_on rfl ?_; refine s_do (o_q (.bool true) rfl trivial rfl) ?_; refine s_do (o_q (.bool true) rfl trivial rfl) ?_; refine s_do (o_mov (.bool true) rfl) ?_; refine s_on rfl ?_; refine s_do (o_q (.ptr 0 0 0) rfl trivial rfl) ?_; refine s_on rfl ?_; refine s_do (o_q (.int .i64 o_1.Kind) rfl nle rfl) ?_; refine s_on rfl ?_; refine s_do (o_q (.bool (o_1.Kind == 4)) rfl rfl rfl) ?_; refine s_on rfl ?_; refine s_do (o_mov (.bool (o_1.Kind == 4)) rfl) ?_
             rcases oi hf with ⟨c217, hf⟩ | ⟨c217, hf⟩
             ·refine s_lit (s := 140) (b := true) rfl c217 ?_; refine s_off rfl rfl ?_; refine s_off rfl rfl ?_; refine s_off rfl rfl ?_; refine s_off rfl rfl ?_; refine s_on rfl ?_; refine s_do (o_q (.bool true) rfl trivial rfl) ?_; refine s_do (o_q (.bool true) rfl trivial rfl) ?_; refine s_do (o_mov (.bool true) rfl) ?_; refine s_on rfl ?_; refine s_do (o_q (.ptr 0 0 0) rfl trivial rfl) ?_; refine s_on rfl ?_; refine s_do (o_q (.int .i64 o_1.Kind) rfl nle rfl) ?_; refine s_on rfl ?_; refine s_do (o_q (.bool (o_1.Kind == 2)) rfl rfl rfl) ?_; refine s_on rfl ?_; refine s_do (o_mov (.bool (o_1.Kind == 2)) rfl) ?_
              rcases oi hf with ⟨c218, hf⟩ | ⟨c218, hf⟩
              ·refine s_lit (s := 151) (b := true) rfl c218 ?_; refine s_off rfl rfl ?_; refine s_off rfl rfl ?_; refine s_off rfl rfl ?_; refine s_off rfl rfl ?_; refine s_on rfl ?_; refine s_do (o_q (.bool true) rfl trivial rfl) ?_; refine s_do (o_q (.bool true) rfl trivial rfl) ?_; refine s_do (o_mov (.bool true) rfl) ?_; refine s_on rfl ?_; refine s_do (o_q (.ptr 0 0 0) rfl trivial rfl) ?_; refine s_on rfl ?_; refine s_do (o_q (.int .i64 o_1.Kind) rfl nle rfl) ?_; refine s_on rfl ?_; refine s_do (o_q (.bool (o_1.Kind == 6)) rfl rfl rfl) ?_; refine s_on rfl ?_; refine s_do (o_mov (.bool (o_1.Kind == 6)) rfl) ?_
               rcases oi hf with ⟨c219, hf⟩ | ⟨c219, hf⟩
               ·refine s_lit (s := 162) (b := true) rfl c219 ?_; refine s_off rfl rfl ?_; refine s_off rfl rfl ?_; refine s_off rfl rfl ?_; refine s_on rfl ?_; refine s_do (o_q (.bool true) rfl trivial rfl) ?_; refine s_do (o_q (.bool true) rfl trivial rfl) ?_; refine s_do (o_mov (.bool true) rfl) ?_; refine w_done ?_; refine k_seq ?_; refine w_ret ?_; obtain rfl := os hf; exact r_flat ⟨trivial, trivial⟩ rfl (.refl _)
               ·refine s_lit (s := 162) (b := false) rfl (bf c219) ?_; refine s_on rfl ?_; refine s_do (o_q (.ptr 0 0 7) rfl trivial rfl) ?_; refine s_on rfl ?_; refine s_do (o_q (.bool o_1.Until) rfl nle rfl) ?_; refine s_on rfl ?_; refine s_do (o_q (.bool (!o_1.Until)) rfl trivial rfl) ?_; refine s_on rfl ?_; refine s_do (o_q (.bool (!o_1.Until)) rfl trivial rfl) ?_; refine s_do (o_q (.bool (!o_1.Until)) rfl trivial rfl) ?_; refine s_do (o_mov (.bool (!o_1.Until)) rfl) ?_; refine w_done ?_; refine k_seq ?_; refine w_ret ?_; obtain rfl := os hf; exact r_flat ⟨trivial, trivial⟩ rfl (.refl _)
              ·refine s_lit (s := 151) (b := false) rfl (bf c218) ?_; refine s_on rfl ?_; refine s_do (o_q (.ptr 0 0 6) rfl trivial rfl) ?_; refine s_on rfl ?_; refine s_do (o_q (.lst 1 (o_1.Columns.map AV.str)) rfl nle rfl) ?_; refine s_on rfl ?_; refine s_dof (o_len (enc := AV.str) rfl) fun hl220 => ?_; refine s_on rfl ?_; refine s_do (o_q (.bool ((o_1.Columns.length : Int) == 0)) rfl rfl rfl) ?_; refine s_on rfl ?_; refine s_do (o_q (.bool ((o_1.Columns.length : Int) == 0)) rfl trivial rfl) ?_; refine s_do (o_q (.bool ((o_1.Columns.length : Int) == 0)) rfl trivial rfl) ?_; refine s_do (o_mov (.bool ((o_1.Columns.length : Int) == 0)) rfl) ?_
               rcases oi hf with ⟨c221, hf⟩ | ⟨c221, hf⟩
               ·refine s_lit (s := 158) (b := true) rfl c221 ?_; refine s_on rfl ?_; refine s_do (o_q (.ptr 0 0 0) rfl trivial rfl) ?_; refine s_on rfl ?_; refine s_do (o_q (.int .i64 o_1.Kind) rfl nle rfl) ?_; refine s_on rfl ?_; refine s_do (o_q (.bool (o_1.Kind == 6)) rfl rfl rfl) ?_; refine s_on rfl ?_; refine s_do (o_mov (.bool (o_1.Kind == 6)) rfl) ?_
                rcases oi hf with ⟨c222, hf⟩ | ⟨c222, hf⟩
                ·refine s_lit (s := 162) (b := true) rfl c222 ?_; refine s_off rfl rfl ?_; refine s_off rfl rfl ?_; refine s_off rfl rfl ?_; refine s_on rfl ?_; refine s_do (o_q (.bool true) rfl trivial rfl) ?_; refine s_do (o_q (.bool true) rfl trivial rfl) ?_; refine s_do (o_mov (.bool true) rfl) ?_; refine w_done ?_; refine k_seq ?_; refine w_ret ?_; obtain rfl := os hf; exact r_flat ⟨trivial, trivial⟩ rfl (.refl _)
                ·refine s_lit (s := 162) (b := false) rfl (bf c222) ?_; refine s_on rfl ?_; refine s_do (o_q (.ptr 0 0 7) rfl trivial rfl) ?_; refine s_on rfl ?_; refine s_do (o_q (.bool o_1.Until) rfl nle rfl) ?_; refine s_on rfl ?_; refine s_do (o_q (.bool (!o_1.Until)) rfl trivial rfl) ?_; refine s_on rfl ?_; refine s_do (o_q (.bool (!o_1.Until)) rfl trivial rfl) ?_; refine s_do (o_q (.bool (!o_1.Until)) rfl trivial rfl) ?_; refine s_do (o_mov (.bool (!o_1.Until)) rfl) ?_; refine w_done ?_; refine k_seq ?_; refine w_ret ?_; obtain rfl := os hf; exact r_flat ⟨trivial, trivial⟩ rfl (.refl _)
               ·refine s_lit (s := 158) (b := false) rfl (bf c221) ?_; refine s_off rfl rfl ?_; refine s_off rfl rfl ?_; refine s_off rfl rfl ?_; refine s_off rfl rfl ?_; refine s_offs rfl ?_; refine s_offs rfl ?_; refine s_offs rfl ?_; refine s_off rfl rfl ?_; refine s_do (o_q (.bool false) rfl trivial rfl) ?_; refine s_do (o_mov (.bool false) rfl) ?_; refine w_done ?_; refine k_seq ?_; refine w_ret ?_; obtain rfl := os hf; exact r_flat ⟨trivial, trivial⟩ rfl (.refl _)
             ·refine s_lit (s := 140) (b := false) rfl (bf c217) ?_; refine s_on rfl ?_; refine s_do (o_q (.ptr 0 0 5) rfl trivial rfl) ?_; refine s_on rfl ?_; refine s_do (o_q (.lst 3 (o_1.Muts.map encGMut)) rfl nle rfl) ?_; refine s_on rfl ?_; refine s_dof (o_len (enc := encGMut) rfl) fun hl223 => ?_; refine s_on rfl ?_; refine s_do (o_q (.bool ((o_1.Muts.length : Int) == 0)) rfl rfl rfl) ?_; refine s_on rfl ?_; refine s_do (o_q (.bool ((o_1.Muts.length : Int) == 0)) rfl trivial rfl) ?_; refine s_do (o_q (.bool ((o_1.Muts.length : Int) == 0)) rfl trivial rfl) ?_; refine s_do (o_mov (.bool ((o_1.Muts.length : Int) == 0)) rfl) ?_
              rcases oi hf with ⟨c224, hf⟩ | ⟨c224, hf⟩
              ·refine s_lit (s := 147) (b := true) rfl c224 ?_; refine s_on rfl ?_; refine s_do (o_q (.ptr 0 0 0) rfl trivial rfl) ?_; refine s_on rfl ?_; refine s_do (o_q (.int .i64 o_1.Kind) rfl nle rfl) ?_; refine s_on rfl ?_; refine s_do (o_q (.bool (o_1.Kind == 2)) rfl rfl rfl) ?_; refine s_on rfl ?_; refine s_do (o_mov (.bool (o_1.Kind == 2)) rfl) ?_
               rcases oi hf with ⟨c225, hf⟩ | ⟨c225, hf⟩
               ·refine s_lit (s := 151) (b := true) rfl c225 ?_; refine s_off rfl rfl ?_; refine s_off rfl rfl ?_; refine s_off rfl rfl ?_; refine s_off rfl rfl ?_; refine s_on rfl ?_; refine s_do (o_q (.bool true) rfl trivial rfl) ?_; refine s_do (o_q (.bool true) rfl trivial rfl) ?_; refine s_do (o_mov (.bool true) rfl) ?_; refine s_on rfl ?_; refine s_do (o_q (.ptr 0 0 0) rfl trivial rfl) ?_; refine s_on rfl ?_; refine s_do (o_q (.int .i64 o_1.Kind) rfl nle rfl) ?_; refine s_on rfl ?_; refine s_do (o_q (.bool (o_1.Kind == 6)) rfl rfl rfl) ?_; refine s_on rfl ?_; refine s_do (o_mov (.bool (o_1.Kind == 6)) rfl) ?_
                rcases oi hf with ⟨c226, hf⟩ | ⟨c226, hf⟩
                ·refine s_lit (s := 162) (b := true) rfl c226 ?_; refine s_off rfl rfl ?_; refine s_off rfl rfl ?_; refine s_off rfl rfl ?_; refine s_on rfl ?_; refine s_do (o_q (.bool true) rfl trivial rfl) ?_; refine s_do (o_q (.bool true) rfl trivial rfl) ?_; refine s_do (o_mov (.bool true) rfl) ?_; refine w_done ?_; refine k_seq ?_; refine w_ret ?_; obtain rfl := os hf; exact r_flat ⟨trivial, trivial⟩ rfl (.refl _)
                ·refine s_lit (s := 162) (b := false) rfl (bf c226) ?_; refine s_on rfl ?_; refine s_do (o_q (.ptr 0 0 7) rfl trivial rfl) ?_; refine s_on rfl ?_; refine s_do (o_q (.bool o_1.Until) rfl nle rfl) ?_; refine s_on rfl ?_; refine s_do (o_q (.bool (!o_1.Until)) rfl trivial rfl) ?_; refine s_on rfl ?_; refine s_do (o_q (.bool (!o_1.Until)) rfl trivial rfl) ?_; refine s_do (o_q (.bool (!o_1.Until)) rfl trivial rfl) ?_; refine s_do (o_mov (.bool (!o_1.Until)) rfl) ?_; refine w_done ?_; refine k_seq ?_; refine w_ret ?_; obtain rfl := os hf; exact r_flat ⟨trivial, trivial⟩ rfl (.refl _)
               ·refine s_lit (s := 151) (b := false) rfl (bf c225) ?_; refine s_on rfl ?_; refine s_do (o_q (.ptr 0 0 6) rfl trivial rfl) ?_; refine s_on rfl ?_; refine s_do (o_q (.lst 1 (o_1.Columns.map AV.str)) rfl nle rfl) ?_; refine s_on rfl ?_; refine s_dof (o_len (enc := AV.str) rfl) fun hl227 => ?_; refine s_on rfl ?_; refine s_do (o_q (.bool ((o_1.Columns.length : Int) == 0)) rfl rfl rfl) ?_; refine s_on rfl ?_; refine s_do (o_q (.bool ((o_1.Columns.length : Int) == 0)) rfl trivial rfl) ?_; refine s_do (o_q (.bool ((o_1.Columns.length : Int) == 0)) rfl trivial rfl) ?_; refine s_do (o_mov (.bool ((o_1.Columns.length : Int) == 0)) rfl) ?_
                rcases oi hf with ⟨c228, hf⟩ | ⟨c228, hf⟩
                ·refine s_lit (s := 158) (b := true) rfl c228 ?_; refine s_on rfl ?_; refine s_do (o_q (.ptr 0 0 0) rfl trivial rfl) ?_; refine s_on rfl ?_; refine s_do (o_q (.int .i64 o_1.Kind) rfl nle rfl) ?_; refine s_on rfl ?_; refine s_do (o_q (.bool (o_1.Kind == 6)) rfl rfl rfl) ?_; refine s_on rfl ?_; refine s_do (o_mov (.bool (o_1.Kind == 6)) rfl) ?_
                 rcases oi hf with ⟨c229, hf⟩ | ⟨c229, hf⟩
                 ·refine s_lit (s := 162) (b := true) rfl c229 ?_; refine s_off rfl rfl ?_; refine s_off rfl rfl ?_; refine s_off rfl rfl ?_; refine s_on rfl ?_; refine s_do (o_q (.bool true) rfl trivial rfl) ?_; refine s_do (o_q (.bool true) rfl trivial rfl) ?_; refine s_do (o_mov (.bool true) rfl) ?_; refine w_done ?_; refine k_seq ?_; refine w_ret ?_; obtain rfl := os hf; exact r_flat ⟨trivial, trivial⟩ rfl (.refl _)
                 ·refine s_lit (s := 162) (b := false) rfl (bf c229) ?_; refine s_on rfl ?_; refine s_do (o_q (.ptr 0 0 7) rfl trivial rfl) ?_; refine s_on rfl ?_; refine s_do (o_q (.bool o_1.Until) rfl nle rfl) ?_; refine s_on rfl ?_; refine s_do (o_q (.bool (!o_1.Until)) rfl trivial rfl) ?_; refine s_on rfl ?_; refine s_do (o_q (.bool (!o_1.Until)) rfl trivial rfl) ?_; refine s_do (o_q (.bool (!o_1.Until)) rfl trivial rfl) ?_; refine s_do (o_mov (.bool (!o_1.Until)) rfl) ?_; refine w_done ?_; refine k_seq ?_; refine w_ret ?_; obtain rfl := os hf; exact r_flat ⟨trivial, trivial⟩ rfl (.refl _)
                ·refine s_lit (s := 158) (b := false) rfl (bf c228) ?_; refine s_off rfl rfl ?_; refine s_off rfl rfl ?_; refine s_off rfl rfl ?_; refine s_off rfl rfl ?_; refine s_offs rfl ?_; refine s_offs rfl ?_; refine s_offs rfl ?_; refine s_off rfl rfl ?_; refine s_do (o_q (.bool false) rfl trivial rfl) ?_; refine s_do (o_mov (.bool false) rfl) ?_; refine w_done ?_; refine k_seq ?_; refine w_ret ?_; obtain rfl := os hf; exact r_flat ⟨trivial, trivial⟩ rfl (.refl _)
              ·refine s_lit (s := 147) (b := false) rfl (bf c224) ?_; refine s_off rfl rfl ?_; refine s_off rfl rfl ?_; refine s_off rfl rfl ?_; refine s_off rfl rfl ?_; refine s_offs rfl ?_; refine s_offs rfl ?_; refine s_offs rfl ?_; refine s_offs rfl ?_; refine s_off rfl rfl ?_; refine s_do (o_q (.bool false) rfl trivial rfl) ?_; refine s_do (o_mov (.bool false) rfl) ?_; refine s_off rfl rfl ?_; refine s_off rfl rfl ?_; refine s_off rfl rfl ?_; refine s_off rfl rfl ?_; refine s_offs rfl ?_; refine s_offs rfl ?_; refine s_offs rfl ?_; refine s_off rfl rfl ?_; refine s_do (o_q (.bool false) rfl trivial rfl) ?_
               refine s_do (o_mov (.bool false) rfl) ?_; refine w_done ?_; refine k_seq ?_; refine w_ret ?_; obtain rfl := os hf; exact r_flat ⟨trivial, trivial⟩ rfl (.refl _)
            ·refine s_lit (s := 129) (b := false) rfl (bf c216) ?_; refine s_on rfl ?_; refine s_do (o_q (.ptr 0 0 4) rfl trivial rfl) ?_; refine s_on rfl ?_; refine s_do (o_q (.lst 3 (o_1.Row.map encGSet)) rfl nle rfl) ?_; refine s_on rfl ?_; refine s_dof (o_len (enc := encGSet) rfl) fun hl230 => ?_; refine s_on rfl ?_; refine s_do (o_q (.bool ((o_1.Row.length : Int) == 0)) rfl rfl rfl) ?_; refine s_on rfl ?_; refine s_do (o_q (.bool ((o_1.Row.length : Int) == 0)) rfl trivial rfl) ?_; refine s_do (o_q (.bool ((o_1.Row.length : Int) == 0)) rfl trivial rfl) ?_; refine s_do (o_mov (.bool ((o_1.Row.length : Int) == 0)) rfl) ?_
             rcases oi hf with ⟨c231, hf⟩ | ⟨c231, hf⟩
             ·refine s_lit (s := 136) (b := true) rfl c231 ?_; refine s_on rfl ?_; refine s_do (o_q (.ptr 0 0 0) rfl trivial rfl) ?_; refine s_on rfl ?_; refine s_do (o_q (.int .i64 o_1.Kind) rfl nle rfl) ?_; refine s_on rfl ?_; refine s_do (o_q (.bool (o_1.Kind == 4)) rfl rfl rfl) ?_; refine s_on rfl ?_; refine s_do (o_mov (.bool (o_1.Kind == 4)) rfl) ?_
              rcases oi hf with ⟨c232, hf⟩ | ⟨c232, hf⟩
              ·refine s_lit (s := 140) (b := true) rfl c232 ?_; refine s_off rfl rfl ?_; refine s_off rfl rfl ?_; refine s_off rfl rfl ?_; refine s_off rfl rfl ?_; refine s_on rfl ?_; refine s_do (o_q (.bool true) rfl trivial rfl) ?_; refine s_do (o_q (.bool true) rfl trivial rfl) ?_; refine s_do (o_mov (.bool true) rfl) ?_; refine s_on rfl ?_; refine s_do (o_q (.ptr 0 0 0) rfl trivial rfl) ?_; refine s_on rfl ?_; refine s_do (o_q (.int .i64 o_1.Kind) rfl nle rfl) ?_; refine s_on rfl ?_; refine s_do (o_q (.bool (o_1.Kind == 2)) rfl rfl rfl) ?_; refine s_on rfl ?_; refine s_do (o_mov (.bool (o_1.Kind == 2)) rfl) ?_
               rcases oi hf with ⟨c233, hf⟩ | ⟨c233, hf⟩
               ·refine s_lit (s := 151) (b := true) rfl c233 ?_; refine s_off rfl rfl ?_; refine s_off rfl rfl ?_; refine s_off rfl rfl ?_; refine s_off rfl rfl ?_; refine s_on rfl ?_; refine s_do (o_q (.bool true) rfl trivial rfl) ?_; refine s_do (o_q (.bool true) rfl trivial rfl) ?_; refine s_do (o_mov (.bool true) rfl) ?_; refine s_on rfl ?_; refine s_do (o_q (.ptr 0 0 0) rfl trivial rfl) ?_; refine s_on rfl ?_; refine s_do (o_q (.int .i64 o_1.Kind) rfl nle rfl) ?_; refine s_on rfl ?_; refine s_do (o_q (.bool (o_1.Kind == 6)) rfl rfl rfl) ?_; refine s_on rfl ?_; refine s_do (o_mov (.bool (o_1.Kind == 6)) rfl) ?_
                rcases oi hf with ⟨c234, hf⟩ | ⟨c234, hf⟩
                ·refine s_lit (s := 162) (b := true) rfl c234 ?_; refine s_off rfl rfl ?_; refine s_off rfl rfl ?_; refine s_off rfl rfl ?_; refine s_on rfl ?_; refine s_do (o_q (.bool true) rfl trivial rfl) ?_; refine s_do (o_q (.bool true) rfl trivial rfl) ?_; refine s_do (o_mov (.bool true) rfl) ?_; refine w_done ?_; refine k_seq ?_; refine w_ret ?_; obtain rfl := os hf; exact r_flat ⟨trivial, trivial⟩ rfl (.refl _)
                ·refine s_lit (s := 162) (b := false) rfl (bf c234) ?_; refine s_on rfl ?_; refine s_do (o_q (.ptr 0 0 7) rfl trivial rfl) ?_; refine s_on rfl ?_; refine s_do (o_q (.bool o_1.Until) rfl nle rfl) ?_; refine s_on rfl ?_; refine s_do (o_q (.bool (!o_1.Until)) rfl trivial rfl) ?_; refine s_on rfl ?_; refine s_do (o_q (.bool (!o_1.Until)) rfl trivial rfl) ?_; refine s_do (o_q (.bool (!o_1.Until)) rfl trivial rfl) ?_; refine s_do (o_mov (.bool (!o_1.Until)) rfl) ?_; refine w_done ?_; refine k_seq ?_; refine w_ret ?_; obtain rfl := os hf; exact r_flat ⟨trivial, trivial⟩ rfl (.refl _)
               ·refine s_lit (s := 151) (b := false) rfl (bf c233) ?_; refine s_on rfl ?_; refine s_do (o_q (.ptr 0 0 6) rfl trivial rfl) ?_; refine s_on rfl ?_; refine s_do (o_q (.lst 1 (o_1.Columns.map AV.str)) rfl nle rfl) ?_; refine s_on rfl ?_; refine s_dof (o_len (enc := AV.str) rfl) fun hl235 => ?_; refine s_on rfl ?_; refine s_do (o_q (.bool ((o_1.Columns.length : Int) == 0)) rfl rfl rfl) ?_; refine s_on rfl ?_; refine s_do (o_q (.bool ((o_1.Columns.length : Int) == 0)) rfl trivial rfl) ?_; refine s_do (o_q (.bool ((o_1.Columns.length : Int) == 0)) rfl trivial rfl) ?_; refine s_do (o_mov (.bool ((o_1.Columns.length : Int) == 0)) rfl) ?_
                rcases oi hf with ⟨c236, hf⟩ | ⟨c236, hf⟩
                ·refine s_lit (s := 158) (b := true) rfl c236 ?_; refine s_on rfl ?_; refine s_do (o_q (.ptr 0 0 0) rfl trivial rfl) ?_; refine s_on rfl ?_; refine s_do (o_q (.int .i64 o_1.Kind) rfl nle rfl) ?_; refine s_on rfl ?_; refine s_do (o_q (.bool (o_1.Kind == 6)) rfl rfl rfl) ?_; refine s_on rfl ?_; refine s_do (o_mov (.bool (o_1.Kind == 6)) rfl) ?_
                 rcases oi hf with ⟨c237, hf⟩ | ⟨c237, hf⟩
                 ·refine s_lit (s := 162) (b := true) rfl c237 ?_; refine s_off rfl rfl ?_; refine s_off rfl rfl ?_; refine s_off rfl rfl ?_; refine s_on rfl ?_; refine s_do (o_q (.bool true) rfl trivial rfl) ?_; refine s_do (o_q (.bool true) rfl trivial rfl) ?_; refine s_do (o_mov (.bool true) rfl) ?_; refine w_done ?_; refine k_seq ?_; refine w_ret ?_; obtain rfl := os hf; exact r_flat ⟨trivial, trivial⟩ rfl (.refl _)
                 ·refine s_lit (s := 162) (b := false) rfl (bf c237) ?_; refine s_on rfl ?_; refine s_do (o_q (.ptr 0 0 7) rfl trivial rfl) ?_; refine s_on rfl ?_; refine s_do (o_q (.bool o_1.Until) rfl nle rfl) ?_; refine s_on rfl ?_; refine s_do (o_q (.bool (!o_1.Until)) rfl trivial rfl) ?_; refine s_on rfl ?_; refine s_do (o_q (.bool (!o_1.Until)) rfl trivial rfl) ?_; refine s_do (o_q (.bool (!o_1.Until)) rfl trivial rfl) ?_; refine s_do (o_mov (.bool (!o_1.Until)) rfl) ?_; refine w_done ?_; refine k_seq ?_; refine w_ret ?_; obtain rfl := os hf; exact r_flat ⟨trivial, trivial⟩ rfl (.refl _)
                ·refine s_lit (s := 158) (b := false) rfl (bf c236) ?_; refine s_off rfl rfl ?_; refine s_off rfl rfl ?_; refine s_off rfl rfl ?_; refine s_off rfl rfl ?_; refine s_offs rfl ?_; refine s_offs rfl ?_; refine s_offs rfl ?_; refine s_off rfl rfl ?_; refine s_do (o_q (.bool false) rfl trivial rfl) ?_; refine s_do (o_mov (.bool false) rfl) ?_; refine w_done ?_; refine k_seq ?_; refine w_ret ?_; obtain rfl := os hf; exact r_flat ⟨trivial, trivial⟩ rfl (.refl _)
              ·refine s_lit (s := 140) (b := false) rfl (bf c232) ?_; refine s_on rfl ?_; refine s_do (o_q (.ptr 0 0 5) rfl trivial rfl) ?_; refine s_on rfl ?_; refine s_do (o_q (.lst 3 (o_1.Muts.map encGMut)) rfl nle rfl) ?_; refine s_on rfl ?_; refine s_dof (o_len (enc := encGMut) rfl) fun hl238 => ?_; refine s_on rfl ?_; refine s_do (o_q (.bool ((o_1.Muts.length : Int) == 0)) rfl rfl rfl) ?_; refine s_on rfl ?_; refine s_do (o_q (.bool ((o_1.Muts.length : Int) == 0)) rfl trivial rfl) ?_; refine s_do (o_q (.bool ((o_1.Muts.length : Int) == 0)) rfl trivial rfl) ?_; refine s_do (o_mov (.bool ((o_1.Muts.length : Int) == 0)) rfl) ?_
               rcases oi hf with ⟨c239, hf⟩ | ⟨c239, hf⟩
               ·refine s_lit (s := 147) (b := true) rfl c239 ?_; refine s_on rfl ?_; refine s_do (o_q (.ptr 0 0 0) rfl trivial rfl) ?_; refine s_on rfl ?_; refine s_do (o_q (.int .i64 o_1.Kind) rfl nle rfl) ?_; refine s_on rfl ?_; refine s_do (o_q (.bool (o_1.Kind == 2)) rfl rfl rfl) ?_; refine s_on rfl ?_; refine s_do (o_mov (.bool (o_1.Kind == 2)) rfl) ?_
                rcases oi hf with ⟨c240, hf⟩ | ⟨c240, hf⟩
                ·refine s_lit (s := 151) (b := true) rfl c240 ?_; refine s_off rfl rfl ?_; refine s_off rfl rfl ?_; refine s_off rfl rfl ?_; refine s_off rfl rfl ?_; refine s_on rfl ?_; refine s_do (o_q (.bool true) rfl trivial rfl) ?_; refine s_do (o_q (.bool true) rfl trivial rfl) ?_; refine s_do (o_mov (.bool true) rfl) ?_; refine s_on rfl ?_; refine s_do (o_q (.ptr 0 0 0) rfl trivial rfl) ?_; refine s_on rfl ?_; refine s_do (o_q (.int .i64 o_1.Kind) rfl nle rfl) ?_; refine s_on rfl ?_; refine s_do (o_q (.bool (o_1.Kind == 6)) rfl rfl rfl) ?_; refine s_on rfl ?_; refine s_do (o_mov (.bool (o_1.Kind == 6)) rfl) ?_
                 rcases oi hf with ⟨c241, hf⟩ | ⟨c241, hf⟩
                 ·refine s_lit (s := 162) (b := true) rfl c241 ?_; refine s_off rfl rfl ?_; refine s_off rfl rfl ?_; refine s_off rfl rfl ?_; refine s_on rfl ?_; refine s_do (o_q (.bool true) rfl trivial rfl) ?_; refine s_do (o_q (.bool true) rfl trivial rfl) ?_; refine s_do (o_mov (.bool true) rfl) ?_; refine w_done ?_; refine k_seq ?_; refine w_ret ?_; obtain rfl := os hf; exact r_flat ⟨trivial, trivial⟩ rfl (.refl _)
                 ·refine s_lit (s := 162) (b := false) rfl (bf c241) ?_; refine s_on rfl ?_; refine s_do (o_q (.ptr 0 0 7) rfl trivial rfl) ?_; refine s_on rfl ?_; refine s_do (o_q (.bool o_1.Until) rfl nle rfl) ?_; refine s_on rfl ?_; refine s_do (o_q (.bool (!o_1.Until)) rfl trivial rfl) ?_; refine s_on rfl ?_; refine s_do (o_q (.bool (!o_1.Until)) rfl trivial rfl) ?_; refine s_do (o_q (.bool (!o_1.Until)) rfl trivial rfl) ?_; refine s_do (o_mov (.bool (!o_1.Until)) rfl) ?_; refine w_done ?_; refine k_seq ?_; refine w_ret ?_; obtain rfl := os hf; exact r_flat ⟨trivial, trivial⟩ rfl (.refl _)
                ·refine s_lit (s := 151) (b := false) rfl (bf c240) ?_; refine s_on rfl ?_; refine s_do (o_q (.ptr 0 0 6) rfl trivial rfl) ?_; refine s_on rfl ?_; refine s_do (o_q (.lst 1 (o_1.Columns.map AV.str)) rfl nle rfl) ?_; refine s_on rfl ?_; refine s_dof (o_len (enc := AV.str) rfl) fun hl242 => ?_; refine s_on rfl ?_; refine s_do (o_q (.bool ((o_1.Columns.length : Int) == 0)) rfl rfl rfl) ?_; refine s_on rfl ?_; refine s_do (o_q (.bool ((o_1.Columns.length : Int) == 0)) rfl trivial rfl) ?_; refine s_do (o_q (.bool ((o_1.Columns.length : Int) == 0)) rfl trivial rfl) ?_; refine s_do (o_mov (.bool ((o_1.Columns.length : Int) == 0)) rfl) ?_
                 rcases oi hf with ⟨c243, hf⟩ | ⟨c243, hf⟩
                 ·refine s_lit (s := 158) (b := true) rfl c243 ?_; refine s_on rfl ?_; refine s_do (o_q (.ptr 0 0 0) rfl trivial rfl) ?_; refine s_on rfl ?_; refine s_do (o_q (.int .i64 o_1.Kind) rfl nle rfl) ?_; refine s_on rfl ?_; refine s_do (o_q (.bool (o_1.Kind == 6)) rfl rfl rfl) ?_; refine s_on rfl ?_; refine s_do (o_mov (.bool (o_1.Kind == 6)) rfl) ?_
                  rcases oi hf with ⟨c244, hf⟩ | ⟨c244, hf⟩
                  ·refine s_lit (s := 162) (b := true) rfl c244 ?_; refine s_off rfl rfl ?_; refine s_off rfl rfl ?_; refine s_off rfl rfl ?_; refine s_on rfl ?_; refine s_do (o_q (.bool true) rfl trivial rfl) ?_; refine s_do (o_q (.bool true) rfl trivial rfl) ?_; refine s_do (o_mov (.bool true) rfl) ?_; refine w_done ?_; refine k_seq ?_; refine w_ret ?_; obtain rfl := os hf; exact r_flat ⟨trivial, trivial⟩ rfl (.refl _)
                  ·refine s_lit (s := 162) (b := false) rfl (bf c244) ?_; refine s_on rfl ?_; refine s_do (o_q (.ptr 0 0 7) rfl trivial rfl) ?_; refine s_on rfl ?_; refine s_do (o_q (.bool o_1.Until) rfl nle rfl) ?_; refine s_on rfl ?_; refine s_do (o_q (.bool (!o_1.Until)) rfl trivial rfl) ?_; refine s_on rfl ?_; refine s_do (o_q (.bool (!o_1.Until)) rfl trivial rfl) ?_; refine s_do (o_q (.bool (!o_1.Until)) rfl trivial rfl) ?_; refine s_do (o_mov (.bool (!o_1.Until)) rfl) ?_; refine w_done ?_; refine k_seq ?_; refine w_ret ?_; obtain rfl := os hf; exact r_flat ⟨trivial, trivial⟩ rfl (.refl _)
                 ·refine s_lit (s := 158) (b := false) rfl (bf c243) ?_; refine s_off rfl rfl ?_; refine s_off rfl rfl ?_; refine s_off rfl rfl ?_; refine s_off rfl rfl ?_; refine s_offs rfl ?_; refine s_offs rfl ?_; refine s_offs rfl ?_; refine s_off rfl rfl ?_; refine s_do (o_q (.bool false) rfl trivial rfl) ?_; refine s_do (o_mov (.bool false) rfl) ?_; refine w_done ?_; refine k_seq ?_; refine w_ret ?_; obtain rfl := os hf; exact r_flat ⟨trivial, trivial⟩ rfl (.refl _)
               ·refine s_lit (s := 147) (b := false) rfl (bf c239) ?_; refine s_off rfl rfl ?_; refine s_off rfl rfl ?_; refine s_off rfl rfl ?_; refine s_off rfl rfl ?_; refine s_offs rfl ?_; refine s_offs rfl ?_; refine s_offs rfl ?_; refine s_offs rfl ?_; refine s_off rfl rfl ?_; refine s_do (o_q (.bool false) rfl trivial rfl) ?_; refine s_do (o_mov (.bool false) rfl) ?_; refine s_off rfl rfl ?_; refine s_off rfl rfl ?_; refine s_off rfl rfl ?_; refine s_off rfl rfl ?_; refine s_offs rfl ?_; refine s_offs rfl ?_; refine s_offs rfl ?_; refine s_off rfl rfl ?_; refine s_do (o_q (.bool false) rfl trivial rfl) ?_
                refine s_do (o_mov (.bool false) rfl) ?_; refine w_done ?_; refine k_seq ?_; refine w_ret ?_; obtain rfl := os hf; exact r_flat ⟨trivial, trivial⟩ rfl (.refl _)
             ·refine s_lit (s := 136) (b := false) rfl (bf c231) ?_; refine s_off rfl rfl ?_; refine s_off rfl rfl ?_; refine s_off rfl rfl ?_; refine s_off rfl rfl ?_; refine s_offs rfl ?_; refine s_offs rfl ?_; refine s_offs rfl ?_; refine s_offs rfl ?_; refine s_off rfl rfl ?_; refine s_do (o_q (.bool false) rfl trivial rfl) ?_; refine s_do (o_mov (.bool false) rfl) ?_; refine s_off rfl rfl ?_; refine s_off rfl rfl ?_; refine s_off rfl rfl ?_; refine s_off rfl rfl ?_; refine s_offs rfl ?_; refine s_offs rfl ?_; refine s_offs rfl ?_; refine s_offs rfl ?_; refine s_off rfl rfl ?_; refine s_do (o_q (.bool false) rfl trivial rfl) ?_
              refine s_do (o_mov (.bool false) rfl) ?_; refine s_off rfl rfl ?_; refine s_off rfl rfl ?_; refine s_off rfl rfl ?_; refine s_off rfl rfl ?_; refine s_offs rfl ?_; refine s_offs rfl ?_; refine s_offs rfl ?_; refine s_off rfl rfl ?_; refine s_do (o_q (.bool false) rfl trivial rfl) ?_; refine s_do (o_mov (.bool false) rfl) ?_; refine w_done ?_; refine k_seq ?_; refine w_ret ?_; obtain rfl := os hf; exact r_flat ⟨trivial, trivial⟩ rfl (.refl _)
           ·refine s_lit (s := 127) (b := false) rfl (bf c215) ?_; refine s_off rfl rfl ?_; refine s_off rfl rfl ?_; refine s_offs rfl ?_; refine s_offs rfl ?_; refine s_offs rfl ?_; refine s_offs rfl ?_; refine s_off rfl rfl ?_; refine s_do (o_q (.bool false) rfl trivial rfl) ?_; refine s_do (o_mov (.bool false) rfl) ?_; refine s_off rfl rfl ?_; refine s_off rfl rfl ?_; refine s_off rfl rfl ?_; refine s_off rfl rfl ?_; refine s_offs rfl ?_; refine s_offs rfl ?_; refine s_offs rfl ?_; refine s_offs rfl ?_; refine s_off rfl rfl ?_; refine s_do (o_q (.bool false) rfl trivial rfl) ?_; refine s_do (o_mov (.bool false) rfl) ?_
            refine s_off rfl rfl ?_; refine s_off rfl rfl ?_; refine s_off rfl rfl ?_; refine s_off rfl rfl ?_; refine s_offs rfl ?_; refine s_offs rfl ?_; refine s_offs rfl ?_; refine s_offs rfl ?_; refine s_off rfl rfl ?_; refine s_do (o_q (.bool false) rfl trivial rfl) ?_; refine s_do (o_mov (.bool false) rfl) ?_; refine s_off rfl rfl ?_; refine s_off rfl rfl ?_; refine s_off rfl rfl ?_; refine s_off rfl rfl ?_; refine s_offs rfl ?_; refine s_offs rfl ?_; refine s_offs rfl ?_; refine s_off rfl rfl ?_; refine s_do (o_q (.bool false) rfl trivial rfl) ?_; refine s_do (o_mov (.bool false) rfl) ?_; refine w_done ?_
            refine k_seq ?_; refine w_ret ?_; obtain rfl := os hf; exact r_flat ⟨trivial, trivial⟩ rfl (.refl _)
         ·refine s_lit (s := 119) (b := false) rfl (bf c184) ?_; refine s_off rfl rfl ?_; refine s_off rfl rfl ?_; refine s_offs rfl ?_; refine s_offs rfl ?_; refine s_offs rfl ?_; refine s_off rfl rfl ?_; refine s_do (o_q (.bool false) rfl trivial rfl) ?_; refine s_do (o_mov (.bool false) rfl) ?_; refine s_off rfl rfl ?_; refine s_off rfl rfl ?_; refine s_offs rfl ?_; refine s_offs rfl ?_; refine s_offs rfl ?_; refine s_offs rfl ?_; refine s_off rfl rfl ?_; refine s_do (o_q (.bool false) rfl trivial rfl) ?_; refine s_do (o_mov (.bool false) rfl) ?_; refine s_off rfl rfl ?_; refine s_off rfl rfl ?_; refine s_off rfl rfl ?_
          refine s_off rfl rfl ?_; refine s_offs rfl ?_; refine s_offs rfl ?_; refine s_offs rfl ?_; refine s_offs rfl ?_; refine s_off rfl rfl ?_; refine s_do (o_q (.bool false) rfl trivial rfl) ?_; refine s_do (o_mov (.bool false) rfl) ?_; refine s_off rfl rfl ?_; refine s_off rfl rfl ?_; refine s_off rfl rfl ?_; refine s_off rfl rfl ?_; refine s_offs rfl ?_; refine s_offs rfl ?_; refine s_offs rfl ?_; refine s_offs rfl ?_; refine s_off rfl rfl ?_; refine s_do (o_q (.bool false) rfl trivial rfl) ?_; refine s_do (o_mov (.bool false) rfl) ?_; refine s_off rfl rfl ?_; refine s_off rfl rfl ?_; refine s_off rfl rfl ?_
          refine s_off rfl rfl ?_; refine s_offs rfl ?_; refine s_offs rfl ?_; refine s_offs rfl ?_; refine s_off rfl rfl ?_; refine s_do (o_q (.bool false) rfl trivial rfl) ?_; refine s_do (o_mov (.bool false) rfl) ?_; refine w_done ?_; refine k_seq ?_; refine w_ret ?_; obtain rfl := os hf; exact r_flat ⟨trivial, trivial⟩ rfl (.refl _)
       ·refine s_lit (s := 105) (b := false) rfl (bf c121) ?_; refine s_on rfl ?_; refine s_do (o_q (.ptr 0 0 1) rfl trivial rfl) ?_; refine s_on rfl ?_; refine s_do (o_q (.str o_1.Table) rfl nle rfl) ?_; refine s_on rfl ?_; refine s_do (o_q (.bool (o_1.Table == [])) rfl trivial rfl) ?_; refine s_do (o_q (.bool (o_1.Table == [])) rfl trivial rfl) ?_; refine s_do (o_mov (.bool (o_1.Table == [])) rfl) ?_
        rcases oi hf with ⟨c245, hf⟩ | ⟨c245, hf⟩
        ·refine s_lit (s := 110) (b := true) rfl c245 ?_; refine s_on rfl ?_; refine s_do (o_mov (.bool r_109) rfl) ?_; refine s_on rfl ?_; refine s_do (o_mov (.bool r_109) rfl) ?_
         rcases oi hf with ⟨c246, hf⟩ | ⟨c246, hf⟩
         ·refine s_lit (s := 112) (b := true) rfl c246 ?_; refine s_off rfl rfl ?_; refine s_off rfl rfl ?_; refine s_off rfl rfl ?_; refine s_off rfl rfl ?_; refine s_on rfl ?_; refine s_do (o_q (.bool true) rfl trivial rfl) ?_; refine s_do (o_q (.bool true) rfl trivial rfl) ?_; refine s_do (o_mov (.bool true) rfl) ?_; refine s_on rfl ?_; refine s_do (o_mov (.bool name_112) rfl) ?_; refine s_on rfl ?_; refine s_do (o_mov (.bool name_112) rfl) ?_
          rcases oi hf with ⟨c247, hf⟩ | ⟨c247, hf⟩
          ·refine s_lit (s := 121) (b := true) rfl c247 ?_; refine s_off rfl rfl ?_; refine s_off rfl rfl ?_; refine s_off rfl rfl ?_; refine s_on rfl ?_; refine s_do (o_q (.bool true) rfl trivial rfl) ?_; refine s_do (o_q (.bool true) rfl trivial rfl) ?_; refine s_do (o_mov (.bool true) rfl) ?_; refine s_on rfl ?_; refine s_do (o_mov (.bool row_117) rfl) ?_; refine s_on rfl ?_; refine s_do (o_mov (.bool row_117) rfl) ?_
           rcases oi hf with ⟨c248, hf⟩ | ⟨c248, hf⟩
           ·refine s_lit (s := 129) (b := true) rfl c248 ?_; refine s_off rfl rfl ?_; refine s_off rfl rfl ?_; refine s_off rfl rfl ?_; refine s_off rfl rfl ?_; refine s_on rfl ?_; refine s_do (o_q (.bool true) rfl trivial rfl) ?_; refine s_do (o_q (.bool true) rfl trivial rfl) ?_; refine s_do (o_mov (.bool true) rfl) ?_; refine s_on rfl ?_; refine s_do (o_q (.ptr 0 0 0) rfl trivial rfl) ?_; refine s_on rfl ?_; refine s_do (o_q (.int .i64 o_1.Kind) rfl nle rfl) ?_; refine s_on rfl ?_; refine s_do (o_q (.bool (o_1.Kind == 4)) rfl rfl rfl) ?_; refine s_on rfl ?_; refine s_do (o_mov (.bool (o_1.Kind == 4)) rfl) ?_
            rcases oi hf with ⟨c249, hf⟩ | ⟨c249, hf⟩
            ·refine s_lit (s := 140) (b := true) rfl c249 ?_; refine s_off rfl rfl ?_; refine s_off rfl rfl ?_; refine s_off rfl rfl ?_; refine s_off rfl rfl ?_; refine s_on rfl ?_; refine s_do (o_q (.bool true) rfl trivial rfl) ?_; refine s_do (o_q (.bool true) rfl trivial rfl) ?_; refine s_do (o_mov (.bool true) rfl) ?_; refine s_on rfl ?_; refine s_do (o_q (.ptr 0 0 0) rfl trivial rfl) ?_; refine s_on rfl ?_; refine s_do (o_q (.int .i64 o_1.Kind) rfl nle rfl) ?_; refine s_on rfl ?_; refine s_do (o_q (.bool (o_1.Kind == 2)) rfl rfl rfl) ?_; refine s_on rfl ?_; refine s_do (o_mov (.bool (o_1.Kind == 2)) rfl) ?_
             rcases oi hf with ⟨c250, hf⟩ | ⟨c250, hf⟩
             ·refine s_lit (s := 151) (b := true) rfl c250 ?_; refine s_off rfl rfl ?_; refine s_off rfl rfl ?_; refine s_off rfl rfl ?_; refine s_off rfl rfl ?_; refine s_on rfl ?_; refine s_do (o_q (.bool true) rfl trivial rfl) ?_; refine s_do (o_q (.bool true) rfl trivial rfl) ?_; refine s_do (o_mov (.bool true) rfl) ?_; refine s_on rfl ?_; refine s_do (o_q (.ptr 0 0 0) rfl trivial rfl) ?_; refine s_on rfl ?_; refine s_do (o_q (.int .i64 o_1.Kind) rfl nle rfl) ?_; refine s_on rfl ?_; refine s_do (o_q (.bool (o_1.Kind == 6)) rfl rfl rfl) ?_; refine s_on rfl ?_; refine s_do (o_mov (.bool (o_1.Kind == 6)) rfl) ?_
              rcases oi hf with ⟨c251, hf⟩ | ⟨c251, hf⟩
              ·refine s_lit (s := 162) (b := true) rfl c251 ?_; refine s_off rfl rfl ?_; refine s_off rfl rfl ?_; refine s_off rfl rfl ?_; refine s_on rfl ?_; refine s_do (o_q (.bool true) rfl trivial rfl) ?_; refine s_do (o_q (.bool true) rfl trivial rfl) ?_; refine s_do (o_mov (.bool true) rfl) ?_; refine w_done ?_; refine k_seq ?_; refine w_ret ?_; obtain rfl := os hf; exact r_flat ⟨trivial, trivial⟩ rfl (.refl _)
              ·refine s_lit (s := 162) (b := false) rfl (bf c251) ?_; refine s_on rfl ?_; refine s_do (o_q (.ptr 0 0 7) rfl trivial rfl) ?_; refine s_on rfl ?_; refine s_do (o_q (.bool o_1.Until) rfl nle rfl) ?_; refine s_on rfl ?_; refine s_do (o_q (.bool (!o_1.Until)) rfl trivial rfl) ?_; refine s_on rfl ?_; refine s_do (o_q (.bool (!o_1.Until)) rfl trivial rfl) ?_; refine s_do (o_q (.bool (!o_1.Until)) rfl trivial rfl) ?_; refine s_do (o_mov (.bool (!o_1.Until)) rfl) ?_; refine w_done ?_; refine k_seq ?_; refine w_ret ?_; obtain rfl := os hf; exact r_flat ⟨trivial, trivial⟩ rfl (.refl _)
             ·refine s_lit (s := 151) (b := false) rfl (bf c250) ?_; refine s_on rfl ?_; refine s_do (o_q (.ptr 0 0 6) rfl trivial rfl) ?_; refine s_on rfl ?_; refine s_do (o_q (.lst 1 (o_1.Columns.map AV.str)) rfl nle rfl) ?_; refine s_on rfl ?_; refine s_dof (o_len (enc := AV.str) rfl) fun hl252 => ?_; refine s_on rfl ?_; refine s_do (o_q (.bool ((o_1.Columns.length : Int) == 0)) rfl rfl rfl) ?_; refine s_on rfl ?_; refine s_do (o_q (.bool ((o_1.Columns.length : Int) == 0)) rfl trivial rfl) ?_; refine s_do (o_q (.bool ((o_1.Columns.length : Int) == 0)) rfl trivial rfl) ?_; refine s_do (o_mov (.bool ((o_1.Columns.length : Int) == 0)) rfl) ?_
              rcases oi hf with ⟨c253, hf⟩ | ⟨c253, hf⟩
              ·refine s_lit (s := 158) (b := true) rfl c253 ?_; refine s_on rfl ?_; refine s_do (o_q (.ptr 0 0 0) rfl trivial rfl) ?_; refine s_on rfl ?_; refine s_do (o_q (.int .i64 o_1.Kind) rfl nle rfl) ?_; refine s_on rfl ?_; refine s_do (o_q (.bool (o_1.Kind == 6)) rfl rfl rfl) ?_; refine s_on rfl ?_; refine s_do (o_mov (.bool (o_1.Kind == 6)) rfl) ?_
               rcases oi hf with ⟨c254, hf⟩ | ⟨c254, hf⟩
               ·refine s_lit (s := 162) (b := true) rfl c254 ?_; refine s_off rfl rfl ?_; refine s_off rfl rfl ?_; refine s_off rfl rfl ?_; refine s_on rfl ?_; refine s_do (o_q (.bool true) rfl trivial rfl) ?_; refine s_do (o_q (.bool true) rfl trivial rfl) ?_; refine s_do (o_mov (.bool true) rfl) ?_; refine w_done ?_; refine k_seq ?_; refine w_ret ?_; obtain rfl := os hf; exact r_flat ⟨trivial, trivial⟩ rfl (.refl _)
               ·refine s_lit (s := 162) (b := false) rfl (bf c254) ?_; refine s_on rfl ?_; refine s_do (o_q (.ptr 0 0 7) rfl trivial rfl) ?_; refine s_on rfl ?_; refine s_do (o_q (.bool o_1.Until) rfl nle rfl) ?_; refine s_on rfl ?_; refine s_do (o_q (.bool (!o_1.Until)) rfl trivial rfl) ?_; refine s_on rfl ?_; refine s_do (o_q (.bool (!o_1.Until)) rfl trivial rfl) ?_; refine s_do (o_q (.bool (!o_1.Until)) rfl trivial rfl) ?_; refine s_do (o_mov (.bool (!o_1.Until)) rfl) ?_; refine w_done ?_; refine k_seq ?_; refine w_ret ?_; obtain rfl := os hf; exact r_flat ⟨trivial, trivial⟩ rfl (.refl _)
              ·refine s_lit (s := 158) (b := false) rfl (bf c253) ?_; refine s_off rfl rfl ?_; refine s_off rfl rfl ?_; refine s_off rfl rfl ?_; refine s_off rfl rfl ?_; refine s_offs rfl ?_; refine s_offs rfl ?_; refine s_offs rfl ?_; refine s_off rfl rfl ?_; refine s_do (o_q (.bool false) rfl trivial rfl) ?_; refine s_do (o_mov (.bool false) rfl) ?_; refine w_done ?_; refine k_seq ?_; refine w_ret ?_; obtain rfl := os hf; exact r_flat ⟨trivial, trivial⟩ rfl (.refl _)
            ·refine s_lit (s := 140) (b := false) rfl (bf c249) ?_; refine s_on rfl ?_; refine s_do (o_q (.ptr 0 0 5) rfl trivial rfl) ?_; refine s_on rfl ?_; refine s_do (o_q (.lst 3 (o_1.Muts.map encGMut)) rfl nle rfl) ?_; refine s_on rfl ?_; refine s_dof (o_len (enc := encGMut) rfl) fun hl255 => ?_; refine s_on rfl ?_; refine s_do (o_q (.bool ((o_1.Muts.length : Int) == 0)) rfl rfl rfl) ?_; refine s_on rfl ?_; refine s_do (o_q (.bool ((o_1.Muts.length : Int) == 0)) rfl trivial rfl) ?_; refine s_do (o_q (.bool ((o_1.Muts.length : Int) == 0)) rfl trivial rfl) ?_; refine s_do (o_mov (.bool ((o_1.Muts.length : Int) == 0)) rfl) ?_
             rcases oi hf with ⟨c256, hf⟩ | ⟨c256, hf⟩
             ·refine s_lit (s := 147) (b := true) rfl c256 ?_; refine s_on rfl ?_; refine s_do (o_q (.ptr 0 0 0) rfl trivial rfl) ?_; refine s_on rfl ?_; refine s_do (o_q (.int .i64 o_1.Kind) rfl nle rfl) ?_; refine s_on rfl ?_; refine s_do (o_q (.bool (o_1.Kind == 2)) rfl rfl rfl) ?_; refine s_on rfl ?_; refine s_do (o_mov (.bool (o_1.Kind == 2)) rfl) ?_
              rcases oi hf with ⟨c257, hf⟩ | ⟨c257, hf⟩
              ·refine s_lit (s := 151) (b := true) rfl c257 ?_; refine s_off rfl rfl ?_; refine s_off rfl rfl ?_; refine s_off rfl rfl ?_; refine s_off rfl rfl ?_; refine s_on rfl ?_; refine s_do (o_q (.bool true) rfl trivial rfl) ?_; refine s_do (o_q (.bool true) rfl trivial rfl) ?_; refine s_do (o_mov (.bool true) rfl) ?_; refine s_on rfl ?_; refine s_do (o_q (.ptr 0 0 0) rfl trivial rfl) ?_; refine s_on rfl ?_; refine s_do (o_q (.int .i64 o_1.Kind) rfl nle rfl) ?_; refine s_on rfl ?_; refine s_do (o_q (.bool (o_1.Kind == 6)) rfl rfl rfl) ?_; refine s_on rfl ?_; refine s_do (o_mov (.bool (o_1.Kind == 6)) rfl) ?_
               rcases oi hf with ⟨c258, hf⟩ | ⟨c258, hf⟩
               ·refine s_lit (s := 162) (b := true) rfl c258 ?_; refine s_off rfl rfl ?_; refine s_off rfl rfl ?_; refine s_off rfl rfl ?_; refine s_on rfl ?_; refine s_do (o_q (.bool true) rfl trivial rfl) ?_; refine s_do (o_q (.bool true) rfl trivial rfl) ?_; refine s_do (o_mov (.bool true) rfl) ?_; refine w_done ?_; refine k_seq ?_; refine w_ret ?_; obtain rfl := os hf; exact r_flat ⟨trivial, trivial⟩ rfl (.refl _)
               ·refine s_lit (s := 162) (b := false) rfl (bf c258) ?_; refine s_on rfl ?_; refine s_do (o_q (.ptr 0 0 7) rfl trivial rfl) ?_; refine s_on rfl ?_; refine s_do (o_q (.bool o_1.Until) rfl nle rfl) ?_; refine s_on rfl ?_; refine s_do (o_q (.bool (!o_1.Until)) rfl trivial rfl) ?_; refine s_on rfl ?_; refine s_do (o_q (.bool (!o_1.Until)) rfl trivial rfl) ?_; refine s_do (o_q (.bool (!o_1.Until)) rfl trivial rfl) ?_; refine s_do (o_mov (.bool (!o_1.Until)) rfl) ?_; refine w_done ?_; refine k_seq ?_; refine w_ret ?_; obtain rfl := os hf; exact r_flat ⟨trivial, trivial⟩ rfl (.refl _)
              ·refine s_lit (s := 151) (b := false) rfl (bf c257) ?_; refine s_on rfl ?_; refine s_do (o_q (.ptr 0 0 6) rfl trivial rfl) ?_; refine s_on rfl ?_; refine s_do (o_q (.lst 1 (o_1.Columns.map AV.str)) rfl nle rfl) ?_; refine s_on rfl ?_; refine s_dof (o_len (enc := AV.str) rfl) fun hl259 => ?_; refine s_on rfl ?_; refine s_do (o_q (.bool ((o_1.Columns.length : Int) == 0)) rfl rfl rfl) ?_; refine s_on rfl ?_; refine s_do (o_q (.bool ((o_1.Columns.length : Int) == 0)) rfl trivial rfl) ?_; refine s_do (o_q (.bool ((o_1.Columns.length : Int) == 0)) rfl trivial rfl) ?_; refine s_do (o_mov (.bool ((o_1.Columns.length : Int) == 0)) rfl) ?_
               rcases oi hf with ⟨c260, hf⟩ | ⟨c260, hf⟩
               ·refine s_lit (s := 158) (b := true) rfl c260 ?_; refine s_on rfl ?_; refine s_do (o_q (.ptr 0 0 0) rfl trivial rfl) ?_; refine s_on rfl ?_; refine s_do (o_q (.int .i64 o_1.Kind) rfl nle rfl) ?_; refine s_on rfl ?_; refine s_do (o_q (.bool (o_1.Kind == 6)) rfl rfl rfl) ?_; refine s_on rfl ?_; refine s_do (o_mov (.bool (o_1.Kind == 6)) rfl) ?_
                rcases oi hf with ⟨c261, hf⟩ | ⟨c261, hf⟩
                ·refine s_lit (s := 162) (b := true) rfl c261 ?_; refine s_off rfl rfl ?_; refine s_off rfl rfl ?_; refine s_off rfl rfl ?_; refine s_on rfl ?_; refine s_do (o_q (.bool true) rfl trivial rfl) ?_; refine s_do (o_q (.bool true) rfl trivial rfl) ?_; refine s_do (o_mov (.bool true) rfl) ?_; refine w_done ?_; refine k_seq ?_; refine w_ret ?_; obtain rfl := os hf; exact r_flat ⟨trivial, trivial⟩ rfl (.refl _)
                ·refine s_lit (s := 162) (b := false) rfl (bf c261) ?_; refine s_on rfl ?_; refine s_do (o_q (.ptr 0 0 7) rfl trivial rfl) ?_; refine s_on rfl ?_; refine s_do (o_q (.bool o_1.Until) rfl nle rfl) ?_; refine s_on rfl ?_; refine s_do (o_q (.bool (!o_1.Until)) rfl trivial rfl) ?_; refine s_on rfl ?_; refine s_do (o_q (.bool (!o_1.Until)) rfl trivial rfl) ?_; refine s_do (o_q (.bool (!o_1.Until)) rfl trivial rfl) ?_; refine s_do (o_mov (.bool (!o_1.Until)) rfl) ?_; refine w_done ?_; refine k_seq ?_; refine w_ret ?_; obtain rfl := os hf; exact r_flat ⟨trivial, trivial⟩ rfl (.refl _)
               ·refine s_lit (s := 158) (b := false) rfl (bf c260) ?_; refine s_off rfl rfl ?_; refine s_off rfl rfl ?_; refine s_off rfl rfl ?_; refine s_off rfl rfl ?_; refine s_offs rfl ?_; refine s_offs rfl ?_; refine s_offs rfl ?_; refine s_off rfl rfl ?_; refine s_do (o_q (.bool false) rfl trivial rfl) ?_; refine s_do (o_mov (.bool false) rfl) ?_; refine w_done ?_; refine k_seq ?_; refine w_ret ?_; obtain rfl := os hf; exact r_flat ⟨trivial, trivial⟩ rfl (.refl _)
             ·refine s_lit (s := 147) (b := false) rfl (bf c256) ?_; refine s_off rfl rfl ?_; refine s_off rfl rfl ?_; refine s_off rfl rfl ?_; refine s_off rfl rfl ?_; refine s_offs rfl ?_; refine s_offs rfl ?_; refine s_offs rfl ?_; refine s_offs rfl ?_; refine s_off rfl rfl ?_; refine s_do (o_q (.bool false) rfl trivial rfl) ?_; refine s_do (o_mov (.bool false) rfl) ?_; refine s_off rfl rfl ?_; refine s_off rfl rfl ?_; refine s_off rfl rfl ?_; refine s_off rfl rfl ?_; refine s_offs rfl ?_; refine s_offs rfl ?_; refine s_offs rfl ?_; refine s_off rfl rfl ?_; refine s_do (o_q (.bool false) rfl trivial rfl) ?_
              refine s_do (o_mov (.bool false) rfl) ?_; refine w_done ?_; refine k_seq ?_; refine w_ret ?_; obtain rfl := os hf; exact r_flat ⟨trivial, trivial⟩ rfl (.refl _)
           ·refine s_lit (s := 129) (b := false) rfl (bf c248) ?_; refine s_on rfl ?_; refine s_do (o_q (.ptr 0 0 4) rfl trivial rfl) ?_; refine s_on rfl ?_; refine s_do (o_q (.lst 3 (o_1.Row.map encGSet)) rfl nle rfl) ?_; refine s_on rfl ?_; refine s_dof (o_len (enc := encGSet) rfl) fun hl262 => ?_; refine s_on rfl ?_; refine s_do (o_q (.bool ((o_1.Row.length : Int) == 0)) rfl rfl rfl) ?_; refine s_on rfl ?_; refine s_do (o_q (.bool ((o_1.Row.length : Int) == 0)) rfl trivial rfl) ?_; refine s_do (o_q (.bool ((o_1.Row.length : Int) == 0)) rfl trivial rfl) ?_; refine s_do (o_mov (.bool ((o_1.Row.length : Int) == 0)) rfl) ?_
            rcases oi hf with ⟨c263, hf⟩ | ⟨c263, hf⟩
            ·refine s_lit (s := 136) (b := true) rfl c263 ?_; refine s_on rfl ?_; refine s_do (o_q (.ptr 0 0 0) rfl trivial rfl) ?_; refine s_on rfl ?_; refine s_do (o_q (.int .i64 o_1.Kind) rfl nle rfl) ?_; refine s_on rfl ?_; refine s_do (o_q (.bool (o_1.Kind == 4)) rfl rfl rfl) ?_; refine s_on rfl ?_; refine s_do (o_mov (.bool (o_1.Kind == 4)) rfl) ?_
             rcases oi hf with ⟨c264, hf⟩ | ⟨c264, hf⟩
             ·refine s_lit (s := 140) (b := true) rfl c264 ?_; refine s_off rfl rfl ?_; refine s_off rfl rfl ?_; refine s_off rfl rfl ?_; refine s_off rfl rfl ?_; refine s_on rfl ?_; refine s_do (o_q (.bool true) rfl trivial rfl) ?_; refine s_do (o_q (.bool true) rfl trivial rfl) ?_; refine s_do (o_mov (.bool true) rfl) ?_; refine s_on rfl ?_; refine s_do (o_q (.ptr 0 0 0) rfl trivial rfl) ?_; refine s_on rfl ?_; refine s_do (o_q (.int .i64 o_1.Kind) rfl nle rfl) ?_; refine s_on rfl ?_; refine s_do (o_q (.bool (o_1.Kind == 2)) rfl rfl rfl) ?_; refine s_on rfl ?_; refine s_do (o_mov (.bool (o_1.Kind == 2)) rfl) ?_
              rcases oi hf with ⟨c265, hf⟩ | ⟨c265, hf⟩
              ·refine s_lit (s := 151) (b := true) rfl c265 ?_; refine s_off rfl rfl ?_; refine s_off rfl rfl ?_; refine s_off rfl rfl ?_; refine s_off rfl rfl ?_; refine s_on rfl ?_; refine s_do (o_q (.bool true) rfl trivial rfl) ?_; refine s_do (o_q (.bool true) rfl trivial rfl) ?_; refine s_do (o_mov (.bool true) rfl) ?_; refine s_on rfl ?_; refine s_do (o_q (.ptr 0 0 0) rfl trivial rfl) ?_; refine s_on rfl ?_; refine s_do (o_q (.int .i64 o_1.Kind) rfl nle rfl) ?_; refine s_on rfl ?_; refine s_do (o_q (.bool (o_1.Kind == 6)) rfl rfl rfl) ?_; refine s_on rfl ?_; refine s_do (o_mov (.bool (o_1.Kind == 6)) rfl) ?_
               rcases oi hf with ⟨c266, hf⟩ | ⟨c266, hf⟩
               ·refine s_lit (s := 162) (b := true) rfl c266 ?_; refine s_off rfl rfl ?_; refine s_off rfl rfl ?_; refine s_off rfl rfl ?_; refine s_on rfl ?_; refine s_do (o_q (.bool true) rfl trivial rfl) ?_; refine s_do (o_q (.bool true) rfl trivial rfl) ?_; refine s_do (o_mov (.bool true) rfl) ?_; refine w_done ?_; refine k_seq ?_; refine w_ret ?_; obtain rfl := os hf; exact r_flat ⟨trivial, trivial⟩ rfl (.refl _)
               ·refine s_lit (s := 162) (b := false) rfl (bf c266) ?_; refine s_on rfl ?_; refine s_do (o_q (.ptr 0 0 7) rfl trivial rfl) ?_; refine s_on rfl ?_; refine s_do (o_q (.bool o_1.Until) rfl nle rfl) ?_; refine s_on rfl ?_; refine s_do (o_q (.bool (!o_1.Until)) rfl trivial rfl) ?_; refine s_on rfl ?_; refine s_do (o_q (.bool (!o_1.Until)) rfl trivial rfl) ?_; refine s_do (o_q (.bool (!o_1.Until)) rfl trivial rfl) ?_; refine s_do (o_mov (.bool (!o_1.Until)) rfl) ?_; refine w_done ?_; refine k_seq ?_; refine w_ret ?_; obtain rfl := os hf; exact r_flat ⟨trivial, trivial⟩ rfl (.refl _)
              ·refine s_lit (s := 151) (b := false) rfl (bf c265) ?_; refine s_on rfl ?_; refine s_do (o_q (.ptr 0 0 6) rfl trivial rfl) ?_; refine s_on rfl ?_; refine s_do (o_q (.lst 1 (o_1.Columns.map AV.str)) rfl nle rfl) ?_; refine s_on rfl ?_; refine s_dof (o_len (enc := AV.str) rfl) fun hl267 => ?_; refine s_on rfl ?_; refine s_do (o_q (.bool ((o_1.Columns.length : Int) == 0)) rfl rfl rfl) ?_; refine s_on rfl ?_; refine s_do (o_q (.bool ((o_1.Columns.length : Int) == 0)) rfl trivial rfl) ?_; refine s_do (o_q (.bool ((o_1.Columns.length : Int) == 0)) rfl trivial rfl) ?_; refine s_do (o_mov (.bool ((o_1.Columns.length : Int) == 0)) rfl) ?_
               rcases oi hf with ⟨c268, hf⟩ | ⟨c268, hf⟩
               ·refine s_lit (s := 158) (b := true) rfl c268 ?_; refine s_on rfl ?_; refine s_do (o_q (.ptr 0 0 0) rfl trivial rfl) ?_; refine s_on rfl ?_; refine s_do (o_q (.int .i64 o_1.Kind) rfl nle rfl) ?_; refine s_on rfl ?_; refine s_do (o_q (.bool (o_1.Kind == 6)) rfl rfl rfl) ?_; refine s_on rfl ?_; refine s_do (o_mov (.bool (o_1.Kind == 6)) rfl) ?_
                rcases oi hf with ⟨c269, hf⟩ | ⟨c269, hf⟩
                ·refine s_lit (s := 162) (b := true) rfl c269 ?_; refine s_off rfl rfl ?_; refine s_off rfl rfl ?_; refine s_off rfl rfl ?_; refine s_on rfl ?_; refine s_do (o_q (.bool true) rfl trivial rfl) ?_; refine s_do (o_q (.bool true) rfl trivial rfl) ?_; refine s_do (o_mov (.bool true) rfl) ?_; refine w_done ?_; refine k_seq ?_; refine w_ret ?_; obtain rfl := os hf; exact r_flat ⟨trivial, trivial⟩ rfl (.refl _)
                ·refine s_lit (s := 162) (b := false) rfl (bf c269) ?_; refine s_on rfl ?_; refine s_do (o_q (.ptr 0 0 7) rfl trivial rfl) ?_; refine s_on rfl ?_; refine s_do (o_q (.bool o_1.Until) rfl nle rfl) ?_; refine s_on rfl ?_; refine s_do (o_q (.bool (!o_1.Until)) rfl trivial rfl) ?_; refine s_on rfl ?_; refine s_do (o_q (.bool (!o_1.Until)) rfl trivial rfl) ?_; refine s_do (o_q (.bool (!o_1.Until)) rfl trivial rfl) ?_; refine s_do (o_mov (.bool (!o_1.Until)) rfl) ?_; refine w_done ?_; refine k_seq ?_; refine w_ret ?_; obtain rfl := os hf; exact r_flat ⟨trivial, trivial⟩ rfl (.refl _)
               ·refine s_lit (s := 158) (b := false) rfl (bf c268) ?_; refine s_off rfl rfl ?_; refine s_off rfl rfl ?_; refine s_off rfl rfl ?_; refine s_off rfl rfl ?_; refine s_offs rfl ?_; refine s_offs rfl ?_; refine s_offs rfl ?_; refine s_off rfl rfl ?_; refine s_do (o_q (.bool false) rfl trivial rfl) ?_; refine s_do (o_mov (.bool false) rfl) ?_; refine w_done ?_; refine k_seq ?_; refine w_ret ?_; obtain rfl := os hf; exact r_flat ⟨trivial, trivial⟩ rfl (.refl _)
             ·refine s_lit (s := 140) (b := false) rfl (bf c264) ?_; refine s_on rfl ?_; refine s_do (o_q (.ptr 0 0 5) rfl trivial rfl) ?_; refine s_on rfl ?_; refine s_do (o_q (.lst 3 (o_1.Muts.map encGMut)) rfl nle rfl) ?_; refine s_on rfl ?_; refine s_dof (o_len (enc := encGMut) rfl) fun hl270 => ?_; refine s_on rfl ?_; refine s_do (o_q (.bool ((o_1.Muts.length : Int) == 0)) rfl rfl rfl) ?_; refine s_on rfl ?_; refine s_do (o_q (.bool ((o_1.Muts.length : Int) == 0)) rfl trivial rfl) ?_; refine s_do (o_q (.bool ((o_1.Muts.length : Int) == 0)) rfl trivial rfl) ?_; refine s_do (o_mov (.bool ((o_1.Muts.length : Int) == 0)) rfl) ?_
              rcases oi hf with ⟨c271, hf⟩ | ⟨c271, hf⟩
              ·refine s_lit (s := 147) (b := true) rfl c271 ?_; refine s_on rfl ?_; refine s_do (o_q (.ptr 0 0 0) rfl trivial rfl) ?_; refine s_on rfl ?_; refine s_do (o_q (.int .i64 o_1.Kind) rfl nle rfl) ?_; refine s_on rfl ?_; refine s_do (o_q (.bool (o_1.Kind == 2)) rfl rfl rfl) ?_; refine s_on rfl ?_; refine s_do (o_mov (.bool (o_1.Kind == 2)) rfl) ?_
               rcases oi hf with ⟨c272, hf⟩ | ⟨c272, hf⟩
               ·refine s_lit (s := 151) (b := true) rfl c272 ?_; refine s_off rfl rfl ?_; refine s_off rfl rfl ?_; refine s_off rfl rfl ?_; refine s_off rfl rfl ?_; refine s_on rfl ?_; refine s_do (o_q (.bool true) rfl trivial rfl) ?_; refine s_do (o_q (.bool true) rfl trivial rfl) ?_; refine s_do (o_mov (.bool true) rfl) ?_; refine s_on rfl ?_; refine s_do (o_q (.ptr 0 0 0) rfl trivial rfl) ?_; refine s_on rfl ?_; refine s_do (o_q (.int .i64 o_1.Kind) rfl nle rfl) ?_; refine s_on rfl ?_; refine s_do (o_q (.bool (o_1.Kind == 6)) rfl rfl rfl) ?_; refine s_on rfl ?_; refine s_do (o_mov (.bool (o_1.Kind == 6)) rfl) ?_
                rcases oi hf with ⟨c273, hf⟩ | ⟨c273, hf⟩
                ·refine s_lit (s := 162) (b := true) rfl c273 ?_; refine s_off rfl rfl ?_; refine s_off rfl rfl ?_; refine s_off rfl rfl ?_; refine s_on rfl ?_; refine s_do (o_q (.bool true) rfl trivial rfl) ?_; refine s_do (o_q (.bool true) rfl trivial rfl) ?_; refine s_do (o_mov (.bool true) rfl) ?_; refine w_done ?_; refine k_seq ?_; refine w_ret ?_; obtain rfl := os hf; exact r_flat ⟨trivial, trivial⟩ rfl (.refl _)
                ·refine s_lit (s := 162) (b := false) rfl (bf c273) ?_; refine s_on rfl ?_; refine s_do (o_q (.ptr 0 0 7) rfl trivial rfl) ?_; refine s_on rfl ?_; refine s_do (o_q (.bool o_1.Until) rfl nle rfl) ?_; refine s_on rfl ?_; refine s_do (o_q (.bool (!o_1.Until)) rfl trivial rfl) ?_; refine s_on rfl ?_; refine s_do (o_q (.bool (!o_1.Until)) rfl trivial rfl) ?_; refine s_do (o_q (.bool (!o_1.Until)) rfl trivial rfl) ?_; refine s_do (o_mov (.bool (!o_1.Until)) rfl) ?_; refine w_done ?_; refine k_seq ?_; refine w_ret ?_; obtain rfl := os hf; exact r_flat ⟨trivial, trivial⟩ rfl (.refl _)
               ·refine s_lit (s := 151) (b := false) rfl (bf c272) ?_; refine s_on rfl ?_; refine s_do (o_q (.ptr 0 0 6) rfl trivial rfl) ?_; refine s_on rfl ?_; refine s_do (o_q (.lst 1 (o_1.Columns.map AV.str)) rfl nle rfl) ?_; refine s_on rfl ?_; refine s_dof (o_len (enc := AV.str) rfl) fun hl274 => ?_; refine s_on rfl ?_; refine s_do (o_q (.bool ((o_1.Columns.length : Int) == 0)) rfl rfl rfl) ?_; refine s_on rfl ?_; refine s_do (o_q (.bool ((o_1.Columns.length : Int) == 0)) rfl trivial rfl) ?_; refine s_do (o_q (.bool ((o_1.Columns.length : Int) == 0)) rfl trivial rfl) ?_; refine s_do (o_mov (.bool ((o_1.Columns.length : Int) == 0)) rfl) ?_
                rcases oi hf with ⟨c275, hf⟩ | ⟨c275, hf⟩
                ·refine s_lit (s := 158) (b := true) rfl c275 ?_; refine s_on rfl ?_; refine s_do (o_q (.ptr 0 0 0) rfl trivial rfl) ?_; refine s_on rfl ?_; refine s_do (o_q (.int .i64 o_1.Kind) rfl nle rfl) ?_; refine s_on rfl ?_; refine s_do (o_q (.bool (o_1.Kind == 6)) rfl rfl rfl) ?_; refine s_on rfl ?_; refine s_do (o_mov (.bool (o_1.Kind == 6)) rfl) ?_
                 rcases oi hf with ⟨c276, hf⟩ | ⟨c276, hf⟩
                 ·refine s_lit (s := 162) (b := true) rfl c276 ?_; refine s_off rfl rfl ?_; refine s_off rfl rfl ?_; refine s_off rfl rfl ?_; refine s_on rfl ?_; refine s_do (o_q (.bool true) rfl trivial rfl) ?_; refine s_do (o_q (.bool true) rfl trivial rfl) ?_; refine s_do (o_mov (.bool true) rfl) ?_; refine w_done ?_; refine k_seq ?_; refine w_ret ?_; obtain rfl := os hf; exact r_flat ⟨trivial, trivial⟩ rfl (.refl _)
                 ·refine s_lit (s := 162) (b := false) rfl (bf c276) ?_; refine s_on rfl ?_; refine s_do (o_q (.ptr 0 0 7) rfl trivial rfl) ?_; refine s_on rfl ?_; refine s_do (o_q (.bool o_1.Until) rfl nle rfl) ?_; refine s_on rfl ?_; refine s_do (o_q (.bool (!o_1.Until)) rfl trivial rfl) ?_; refine s_on rfl ?_; refine s_do (o_q (.bool (!o_1.Until)) rfl trivial rfl) ?_; refine s_do (o_q (.bool (!o_1.Until)) rfl trivial rfl) ?_; refine s_do (o_mov (.bool (!o_1.Until)) rfl) ?_; refine w_done ?_; refine k_seq ?_; refine w_ret ?_; obtain rfl := os hf; exact r_flat ⟨trivial, trivial⟩ rfl (.refl _)
                ·refine s_lit (s := 158) (b := false) rfl (bf c275) ?_; refine s_off rfl rfl ?_; refine s_off rfl rfl ?_; refine s_off rfl rfl ?_; refine s_off rfl rfl ?_; refine s_offs rfl ?_; refine s_offs rfl ?_; refine s_offs rfl ?_; refine s_off rfl rfl ?_; refine s_do (o_q (.bool false) rfl trivial rfl) ?_; refine s_do (o_mov (.bool false) rfl) ?_; refine w_done ?_; refine k_seq ?_; refine w_ret ?_; obtain rfl := os hf; exact r_flat ⟨trivial, trivial⟩ rfl (.refl _)
              ·refine s_lit (s := 147) (b := false) rfl (bf c271) ?_; refine s_off rfl rfl ?_; refine s_off rfl rfl ?_; refine s_off rfl rfl ?_; refine s_off rfl rfl ?_; refine s_offs rfl ?_; refine s_offs rfl ?_; refine s_offs rfl ?_; refine s_offs rfl ?_; refine s_off rfl rfl ?_; refine s_do (o_q (.bool false) rfl trivial rfl) ?_; refine s_do (o_mov (.bool false) rfl) ?_; refine s_off rfl rfl ?_; refine s_off rfl rfl ?_; refine s_off rfl rfl ?_; refine s_off rfl rfl ?_; refine s_offs rfl ?_; refine s_offs rfl ?_; refine s_offs rfl ?_; refine s_off rfl rfl ?_; refine s_do (o_q (.bool false) rfl trivial rfl) ?_
               refine s_do (o_mov (.bool false) rfl) ?_; refine w_done ?_; refine k_seq ?_; refine w_ret ?_; obtain rfl := os hf; exact r_flat ⟨trivial, trivial⟩ rfl (.refl _)
            ·refine s_lit (s := 136) (b := false) rfl (bf c263) ?_; refine s_off rfl rfl ?_; refine s_off rfl rfl ?_; refine s_off rfl rfl ?_; refine s_off rfl rfl ?_; refine s_offs rfl ?_; refine s_offs rfl ?_; refine s_offs rfl ?_; refine s_offs rfl ?_; refine s_off rfl rfl ?_; refine s_do (o_q (.bool false) rfl trivial rfl) ?_; refine s_do (o_mov (.bool false) rfl) ?_; refine s_off rfl rfl ?_; refine s_off rfl rfl ?_; refine s_off rfl rfl ?_; refine s_off rfl rfl ?_; refine s_offs rfl ?_; refine s_offs rfl ?_; refine s_offs rfl ?_; refine s_offs rfl ?_; refine s_off rfl rfl ?_; refine s_do (o_q (.bool false) rfl trivial rfl) ?_
             refine s_do (o_mov (.bool false) rfl) ?_; refine s_off rfl rfl ?_; refine s_off rfl rfl ?_; refine s_off rfl rfl ?_; refine s_off rfl rfl ?_; refine s_offs rfl ?_; refine s_offs rfl ?_; refine s_offs rfl ?_; refine s_off rfl rfl ?_; refine s_do (o_q (.bool false) rfl trivial rfl) ?_; refine s_do (o_mov (.bool false) rfl) ?_; refine w_done ?_; refine k_seq ?_; refine w_ret ?_; obtain rfl := os hf; exact r_flat ⟨trivial, trivial⟩ rfl (.refl _)
          ·refine s_lit (s := 121) (b := false) rfl (bf c247) ?_; refine s_on rfl ?_; refine s_do (o_q (.ptr 0 0 2) rfl trivial rfl) ?_; refine s_on rfl ?_; refine s_do (o_q (.str o_1.Name) rfl nle rfl) ?_; refine s_on rfl ?_; refine s_do (o_q (.bool (o_1.Name == [])) rfl trivial rfl) ?_; refine s_on rfl ?_; refine s_do (o_q (.bool (o_1.Name == [])) rfl trivial rfl) ?_; refine s_do (o_q (.bool (o_1.Name == [])) rfl trivial rfl) ?_; refine s_do (o_mov (.bool (o_1.Name == [])) rfl) ?_
           rcases oi hf with ⟨c277, hf⟩ | ⟨c277, hf⟩
           ·refine s_lit (s := 127) (b := true) rfl c277 ?_; refine s_on rfl ?_; refine s_do (o_mov (.bool row_117) rfl) ?_; refine s_on rfl ?_; refine s_do (o_mov (.bool row_117) rfl) ?_
            rcases oi hf with ⟨c278, hf⟩ | ⟨c278, hf⟩
            ·refine s_lit (s := 129) (b := true) rfl c278 ?_; refine s_off rfl rfl ?_; refine s_off rfl rfl ?_; refine s_off rfl rfl ?_; refine s_off rfl rfl ?_; refine s_on rfl ?_; refine s_do (o_q (.bool true) rfl trivial rfl) ?_; refine s_do (o_q (.bool true) rfl trivial rfl) ?_; refine s_do (o_mov (.bool true) rfl) ?_; refine s_on rfl ?_; refine s_do (o_q (.ptr 0 0 0) rfl trivial rfl) ?_; refine s_on rfl ?_; refine s_do (o_q (.int .i64 o_1.Kind) rfl nle rfl) ?_; refine s_on rfl ?_; refine s_do (o_q (.bool (o_1.Kind == 4)) rfl rfl rfl) ?_; refine s_on rfl ?_; refine s_do (o_mov (.bool (o_1.Kind == 4)) rfl) ?_
             rcases oi hf with ⟨c279, hf⟩ | ⟨c279, hf⟩
             ·refine s_lit (s := 140) (b := true) rfl c279 ?_; refine s_off rfl rfl ?_; refine s_off rfl rfl ?_; refine s_off rfl rfl ?_; refine s_off rfl rfl ?_; refine s_on rfl ?_; refine s_do (o_q (.bool true) rfl trivial rfl) ?_; refine s_do (o_q (.bool true) rfl trivial rfl) ?_; refine s_do (o_mov (.bool true) rfl) ?_; refine s_on rfl ?_; refine s_do (o_q (.ptr 0 0 0) rfl trivial rfl) ?_; refine s_on rfl ?_; refine s_do (o_q (.int .i64 o_1.Kind) rfl nle rfl) ?_; refine s_on rfl ?_; refine s_do (o_q (.bool (o_1.Kind == 2)) rfl rfl rfl) ?_; refine s_on rfl ?_; refine s_do (o_mov (.bool (o_1.Kind == 2)) rfl) ?_
              rcases oi hf with ⟨c280, hf⟩ | ⟨c280, hf⟩
              ·refine s_lit (s := 151) (b := true) rfl c280 ?_; refine s_off rfl rfl ?_; refine s_off rfl rfl ?_; refine s_off rfl rfl ?_; refine s_off rfl rfl ?_; refine s_on rfl ?_; refine s_do (o_q (.bool true) rfl trivial rfl) ?_; refine s_do (o_q (.bool true) rfl trivial rfl) ?_; refine s_do (o_mov (.bool true) rfl) ?_; refine s_on rfl ?_; refine s_do (o_q (.ptr 0 0 0) rfl trivial rfl) ?_; refine s_on rfl ?_; refine s_do (o_q (.int .i64 o_1.Kind) rfl nle rfl) ?_; refine s_on rfl ?_; refine s_do (o_q (.bool (o_1.Kind == 6)) rfl rfl rfl) ?_; refine s_on rfl ?_; refine s_do (o_mov (.bool (o_1.Kind == 6)) rfl) ?_
               rcases oi hf with ⟨c281, hf⟩ | ⟨c281, hf⟩
               ·refine s_lit (s := 162) (b := true) rfl c281 ?_; refine s_off rfl rfl ?_; refine s_off rfl rfl ?_; refine s_off rfl rfl ?_; refine s_on rfl ?_; refine s_do (o_q (.bool true) rfl trivial rfl) ?_; refine s_do (o_q (.bool true) rfl trivial rfl) ?_; refine s_do (o_mov (.bool true) rfl) ?_; refine w_done ?_; refine k_seq ?_; refine w_ret ?_; obtain rfl := os hf; exact r_flat ⟨trivial, trivial⟩ rfl (.refl _)
               ·refine s_lit (s := 162) (b := false) rfl (bf c281) ?_; refine s_on rfl ?_; refine s_do (o_q (.ptr 0 0 7) rfl trivial rfl) ?_; refine s_on rfl ?_; refine s_do (o_q (.bool o_1.Until) rfl nle rfl) ?_; refine s_on rfl ?_; refine s_do (o_q (.bool (!o_1.Until)) rfl trivial rfl) ?_; refine s_on rfl ?_; refine s_do (o_q (.bool (!o_1.Until)) rfl trivial rfl) ?_; refine s_do (o_q (.bool (!o_1.Until)) rfl trivial rfl) ?_; refine s_do (o_mov (.bool (!o_1.Until)) rfl) ?_; refine w_done ?_; refine k_seq ?_; refine w_ret ?_; obtain rfl := os hf; exact r_flat ⟨trivial, trivial⟩ rfl (.refl _)
              ·refine s_lit (s := 151) (b := false) rfl (bf c280) ?_; refine s_on rfl ?_; refine s_do (o_q (.ptr 0 0 6) rfl trivial rfl) ?_; refine s_on rfl ?_; refine s_do (o_q (.lst 1 (o_1.Columns.map AV.str)) rfl nle rfl) ?_; refine s_on rfl ?_; refine s_dof (o_len (enc := AV.str) rfl) fun hl282 => ?_; refine s_on rfl ?_; refine s_do (o_q (.bool ((o_1.Columns.length : Int) == 0)) rfl rfl rfl) ?_; refine s_on rfl ?_; refine s_do (o_q (.bool ((o_1.Columns.length : Int) == 0)) rfl trivial rfl) ?_; refine s_do (o_q (.bool ((o_1.Columns.length : Int) == 0)) rfl trivial rfl) ?_; refine s_do (o_mov (.bool ((o_1.Columns.length : Int) == 0)) rfl) ?_
               rcases oi hf with ⟨c283, hf⟩ | ⟨c283, hf⟩
               ·refine s_lit (s := 158) (b := true) rfl c283 ?_; refine s_on rfl ?_; refine s_do (o_q (.ptr 0 0 0) rfl trivial rfl) ?_; refine s_on rfl ?_; refine s_do (o_q (.int .i64 o_1.Kind) rfl nle rfl) ?_; refine s_on rfl ?_; refine s_do (o_q (.bool (o_1.Kind == 6)) rfl rfl rfl) ?_; refine s_on rfl ?_; refine s_do (o_mov (.bool (o_1.Kind == 6)) rfl) ?_
                rcases oi hf with ⟨c284, hf⟩ | ⟨c284, hf⟩
                ·refine s_lit (s := 162) (b := true) rfl c284 ?_; refine s_off rfl rfl ?_; refine s_off rfl rfl ?_; refine s_off rfl rfl ?_; refine s_on rfl ?_; refine s_do (o_q (.bool true) rfl trivial rfl) ?_; refine s_do (o_q (.bool true) rfl trivial rfl) ?_; refine s_do (o_mov (.bool true) rfl) ?_; refine w_done ?_; refine k_seq ?_; refine w_ret ?_; obtain rfl := os hf; exact r_flat ⟨trivial, trivial⟩ rfl (.refl _)
                ·refine s_lit (s := 162) (b := false) rfl (bf c284) ?_; refine s_on rfl ?_; refine s_do (o_q (.ptr 0 0 7) rfl trivial rfl) ?_; refine s_on rfl ?_; refine s_do (o_q (.bool o_1.Until) rfl nle rfl) ?_; refine s_on rfl ?_; refine s_do (o_q (.bool (!o_1.Until)) rfl trivial rfl) ?_; refine s_on rfl ?_; refine s_do (o_q (.bool (!o_1.Until)) rfl trivial rfl) ?_; refine s_do (o_q (.bool (!o_1.Until)) rfl trivial rfl) ?_; refine s_do (o_mov (.bool (!o_1.Until)) rfl) ?_; refine w_done ?_; refine k_seq ?_; refine w_ret ?_; obtain rfl := os hf; exact r_flat ⟨trivial, trivial⟩ rfl (.refl _)
               ·refine s_lit (s := 158) (b := false) rfl (bf c283) ?_; refine s_off rfl rfl ?_; refine s_off rfl rfl ?_; refine s_off rfl rfl ?_; refine s_off rfl rfl ?_; refine s_offs rfl ?_; refine s_offs rfl ?_; refine s_offs rfl ?_; refine s_off rfl rfl ?_; refine s_do (o_q (.bool false) rfl trivial rfl) ?_; refine s_do (o_mov (.bool false) rfl) ?_; refine w_done ?_; refine k_seq ?_; refine w_ret ?_; obtain rfl := os hf; exact r_flat ⟨trivial, trivial⟩ rfl (.refl _)
             ·refine s_lit (s := 140) (b := false) rfl (bf c279) ?_; refine s_on rfl ?_; refine s_do (o_q (.ptr 0 0 5) rfl trivial rfl) ?_; refine s_on rfl ?_; refine s_do (o_q (.lst 3 (o_1.Muts.map encGMut)) rfl nle rfl) ?_; refine s_on rfl ?_; refine s_dof (o_len (enc := encGMut) rfl) fun hl285 => ?_; refine s_on rfl ?_; refine s_do (o_q (.bool ((o_1.Muts.length : Int) == 0)) rfl rfl rfl) ?_; refine s_on rfl ?_; refine s_do (o_q (.bool ((o_1.Muts.length : Int) == 0)) rfl trivial rfl) ?_; refine s_do (o_q (.bool ((o_1.Muts.length : Int) == 0)) rfl trivial rfl) ?_; refine s_do (o_mov (.bool ((o_1.Muts.length : Int) == 0)) rfl) ?_
              rcases oi hf with ⟨c286, hf⟩ | ⟨c286, hf⟩
              ·refine s_lit (s := 147) (b := true) rfl c286 ?_; refine s_on rfl ?_; refine s_do (o_q (.ptr 0 0 0) rfl trivial rfl) ?_; refine s_on rfl ?_; refine s_do (o_q (.int .i64 o_1.Kind) rfl nle rfl) ?_; refine s_on rfl ?_; refine s_do (o_q (.bool (o_1.Kind == 2)) rfl rfl rfl) ?_; refine s_on rfl ?_; refine s_do (o_mov (.bool (o_1.Kind == 2)) rfl) ?_
               rcases oi hf with ⟨c287, hf⟩ | ⟨c287, hf⟩
               ·refine s_lit (s := 151) (b := true) rfl c287 ?_; refine s_off rfl rfl ?_; refine s_off rfl rfl ?_; refine s_off rfl rfl ?_; refine s_off rfl rfl ?_; refine s_on rfl ?_; refine s_do (o_q (.bool true) rfl trivial rfl) ?_; refine s_do (o_q (.bool true) rfl trivial rfl) ?_; refine s_do (o_mov (.bool true) rfl) ?_; refine s_on rfl ?_; refine s_do (o_q (.ptr 0 0 0) rfl trivial rfl) ?_; refine s_on rfl ?_; refine s_do (o_q (.int .i64 o_1.Kind) rfl nle rfl) ?_; refine s_on rfl ?_; refine s_do (o_q (.bool (o_1.Kind == 6)) rfl rfl rfl) ?_; refine s_on rfl ?_; refine s_do (o_mov (.bool (o_1.Kind == 6)) rfl) ?_
                rcases oi hf with ⟨c288, hf⟩ | ⟨c288, hf⟩
                ·refine s_lit (s := 162) (b := true) rfl c288 ?_; refine s_off rfl rfl ?_; refine s_off rfl rfl ?_; refine s_off rfl rfl ?_; refine s_on rfl ?_; refine s_do (o_q (.bool true) rfl trivial rfl) ?_; refine s_do (o_q (.bool true) rfl trivial rfl) ?_; refine s_do (o_mov (.bool true) rfl) ?_; refine w_done ?_; refine k_seq ?_; refine w_ret ?_; obtain rfl := os hf; exact r_flat ⟨trivial, trivial⟩ rfl (.refl _)
                ·refine s_lit (s := 162) (b := false) rfl (bf c288) ?_; refine s_on rfl ?_; refine s_do (o_q (.ptr 0 0 7) rfl trivial rfl) ?_; refine s_on rfl ?_; refine s_do (o_q (.bool o_1.Until) rfl nle rfl) ?_; refine s_on rfl ?_; refine s_do (o_q (.bool (!o_1.Until)) rfl trivial rfl) ?_; refine s_on rfl ?_; refine s_do (o_q (.bool (!o_1.Until)) rfl trivial rfl) ?_; refine s_do (o_q (.bool (!o_1.Until)) rfl trivial rfl) ?_; refine s_do (o_mov (.bool (!o_1.Until)) rfl) ?_; refine w_done ?_; refine k_seq ?_; refine w_ret ?_; obtain rfl := os hf; exact r_flat ⟨trivial, trivial⟩ rfl (.refl _)
               ·refine s_lit (s := 151) (b := false) rfl (bf c287) ?_; refine s_on rfl ?_; refine s_do (o_q (.ptr 0 0 6) rfl trivial rfl) ?_; refine s_on rfl ?_; refine s_do (o_q (.lst 1 (o_1.Columns.map AV.str)) rfl nle rfl) ?_; refine s_on rfl ?_; refine s_dof (o_len (enc := AV.str) rfl) fun hl289 => ?_; refine s_on rfl ?_; refine s_do (o_q (.bool ((o_1.Columns.length : Int) == 0)) rfl rfl rfl) ?_; refine s_on rfl ?_; refine s_do (o_q (.bool ((o_1.Columns.length : Int) == 0)) rfl trivial rfl) ?_; refine s_do (o_q (.bool ((o_1.Columns.length : Int) == 0)) rfl trivial rfl) ?_; refine s_do (o_mov (.bool ((o_1.Columns.length : Int) == 0)) rfl) ?_
                rcases oi hf with ⟨c290, hf⟩ | ⟨c290, hf⟩
                ·refine s_lit (s := 158) (b := true) rfl c290 ?_; refine s_on rfl ?_; refine s_do (o_q (.ptr 0 0 0) rfl trivial rfl) ?_; refine s_on rfl ?_; refine s_do (o_q (.int .i64 o_1.Kind) rfl nle rfl) ?_; refine s_on rfl ?_; refine s_do (o_q (.bool (o_1.Kind == 6)) rfl rfl rfl) ?_; refine s_on rfl ?_; refine s_do (o_mov (.bool (o_1.Kind == 6)) rfl) ?_
                 rcases oi hf with ⟨c291, hf⟩ | ⟨c291, hf⟩
                 ·refine s_lit (s := 162) (b := true) rfl c291 ?_; refine s_off rfl rfl ?_; refine s_off rfl rfl ?_; refine s_off rfl rfl ?_; refine s_on rfl ?_; refine s_do (o_q (.bool true) rfl trivial rfl) ?_; refine s_do (o_q (.bool true) rfl trivial rfl) ?_; refine s_do (o_mov (.bool true) rfl) ?_; refine w_done ?_; refine k_seq ?_; refine w_ret ?_; obtain rfl := os hf; exact r_flat ⟨trivial, trivial⟩ rfl (.refl _)
                 ·refine s_lit (s := 162) (b := false) rfl (bf c291) ?_; refine s_on rfl ?_; refine s_do (o_q (.ptr 0 0 7) rfl trivial rfl) ?_; refine s_on rfl ?_; refine s_do (o_q (.bool o_1.Until) rfl nle rfl) ?_; refine s_on rfl ?_; refine s_do (o_q (.bool (!o_1.Until)) rfl trivial rfl) ?_; refine s_on rfl ?_; refine s_do (o_q (.bool (!o_1.Until)) rfl trivial rfl) ?_; refine s_do (o_q (.bool (!o_1.Until)) rfl trivial rfl) ?_; refine s_do (o_mov (.bool (!o_1.Until)) rfl) ?_; refine w_done ?_; refine k_seq ?_; refine w_ret ?_; obtain rfl := os hf; exact r_flat ⟨trivial, trivial⟩ rfl (.refl _)
                ·refine s_lit (s := 158) (b := false) rfl (bf c290) ?_; refine s_off rfl rfl ?_; refine s_off rfl rfl ?_; refine s_off rfl rfl ?_; refine s_off rfl rfl ?_; refine s_offs rfl ?_; refine s_offs rfl ?_; refine s_offs rfl ?_; refine s_off rfl rfl ?_; refine s_do (o_q (.bool false) rfl trivial rfl) ?_; refine s_do (o_mov (.bool false) rfl) ?_; refine w_done ?_; refine k_seq ?_; refine w_ret ?_; obtain rfl := os hf; exact r_flat ⟨trivial, trivial⟩ rfl (.refl _)
              ·refine s_lit (s := 147) (b := false) rfl (bf c286) ?_; refine s_off rfl rfl ?_; refine s_off rfl rfl ?_; refine s_off rfl rfl ?_; refine s_off rfl rfl ?_; refine s_offs rfl ?_; refine s_offs rfl ?_; refine s_offs rfl ?_; refine s_offs rfl ?_; refine s_off rfl rfl ?_; refine s_do (o_q (.bool false) rfl trivial rfl) ?_; refine s_do (o_mov (.bool false) rfl) ?_; refine s_off rfl rfl ?_; refine s_off rfl rfl ?_; refine s_off rfl rfl ?_; refine s_off rfl rfl ?_; refine s_offs rfl ?_; refine s_offs rfl ?_; refine s_offs rfl ?_; refine s_off rfl rfl ?_; refine s_do (o_q (.bool false) rfl trivial rfl) ?_
               refine s_do (o_mov (.bool false) rfl) ?_; refine w_done ?_; refine k_seq ?_; refine w_ret ?_; obtain rfl := os hf; exact r_flat ⟨trivial, trivial⟩ rfl (.refl _)
            ·refine s_lit (s := 129) (b := false) rfl (bf c278) ?_; refine s_on rfl ?_; refine s_do (o_q (.ptr 0 0 4) rfl trivial rfl) ?_; refine s_on rfl ?_; refine s_do (o_q (.lst 3 (o_1.Row.map encGSet)) rfl nle rfl) ?_; refine s_on rfl ?_; refine s_dof (o_len (enc := encGSet) rfl) fun hl292 => ?_; refine s_on rfl ?_; refine s_do (o_q (.bool ((o_1.Row.length : Int) == 0)) rfl rfl rfl) ?_; refine s_on rfl ?_; refine s_do (o_q (.bool ((o_1.Row.length : Int) == 0)) rfl trivial rfl) ?_; refine s_do (o_q (.bool ((o_1.Row.length : Int) == 0)) rfl trivial rfl) ?_; refine s_do (o_mov (.bool ((o_1.Row.length : Int) == 0)) rfl) ?_
             rcases oi hf with ⟨c293, hf⟩ | ⟨c293, hf⟩
             ·refine s_lit (s := 136) (b := true) rfl c293 ?_; refine s_on rfl ?_; refine s_do (o_q (.ptr 0 0 0) rfl trivial rfl) ?_; refine s_on rfl ?_; refine s_do (o_q (.int .i64 o_1.Kind) rfl nle rfl) ?_; refine s_on rfl ?_; refine s_do (o_q (.bool (o_1.Kind == 4)) rfl rfl rfl) ?_; refine s_on rfl ?_; refine s_do (o_mov (.bool (o_1.Kind == 4)) rfl) ?_
              rcases oi hf with ⟨c294, hf⟩ | ⟨c294, hf⟩
              ·refine s_lit (s := 140) (b := true) rfl c294 ?_; refine s_off rfl rfl ?_; refine s_off rfl rfl ?_; refine s_off rfl rfl ?_; refine s_off rfl rfl ?_; refine s_on rfl ?_; refine s_do (o_q (.bool true) rfl trivial rfl) ?_; refine s_do (o_q (.bool true) rfl trivial rfl) ?_; refine s_do (o_mov (.bool true) rfl) ?_; refine s_on rfl ?_; refine s_do (o_q (.ptr 0 0 0) rfl trivial rfl) ?_; refine s_on rfl ?_; refine s_do (o_q (.int .i64 o_1.Kind) rfl nle rfl) ?_; refine s_on rfl ?_; refine s_do (o_q (.bool (o_1.Kind == 2)) rfl rfl rfl) ?_; refine s_on rfl ?_; refine s_do (o_mov (.bool (o_1.Kind == 2)) rfl) ?_
               rcases oi hf with ⟨c295, hf⟩ | ⟨c295, hf⟩
               ·refine s_lit (s := 151) (b := true) rfl c295 ?_; refine s_off rfl rfl ?_; refine s_off rfl rfl ?_; refine s_off rfl rfl ?_; refine s_off rfl rfl ?_; refine s_on rfl ?_; refine s_do (o_q (.bool true) rfl trivial rfl) ?_; refine s_do (o_q (.bool true) rfl trivial rfl) ?_; refine s_do (o_mov (.bool true) rfl) ?_; refine s_on rfl ?_; refine s_do (o_q (.ptr 0 0 0) rfl trivial rfl) ?_; refine s_on rfl ?_; refine s_do (o_q (.int .i64 o_1.Kind) rfl nle rfl) ?_; refine s_on rfl ?_; refine s_do (o_q (.bool (o_1.Kind == 6)) rfl rfl rfl) ?_; refine s_on rfl ?_; refine s_do (o_mov (.bool (o_1.Kind == 6)) rfl) ?_
                rcases oi hf with ⟨c296, hf⟩ | ⟨c296, hf⟩
                ·refine s_lit (s := 162) (b := true) rfl c296 ?_; refine s_off rfl rfl ?_; refine s_off rfl rfl ?_; refine s_off rfl rfl ?_; refine s_on rfl ?_; refine s_do (o_q (.bool true) rfl trivial rfl) ?_; refine s_do (o_q (.bool true) rfl trivial rfl) ?_; refine s_do (o_mov (.bool true) rfl) ?_; refine w_done ?_; refine k_seq ?_; refine w_ret ?_; obtain rfl := os hf; exact r_flat ⟨trivial, trivial⟩ rfl (.refl _)
                ·refine s_lit (s := 162) (b := false) rfl (bf c296) ?_; refine s_on rfl ?_; refine s_do (o_q (.ptr 0 0 7) rfl trivial rfl) ?_; refine s_on rfl ?_; refine s_do (o_q (.bool o_1.Until) rfl nle rfl) ?_; refine s_on rfl ?_; refine s_do (o_q (.bool (!o_1.Until)) rfl trivial rfl) ?_; refine s_on rfl ?_; refine s_do (o_q (.bool (!o_1.Until)) rfl trivial rfl) ?_; refine s_do (o_q (.bool (!o_1.Until)) rfl trivial rfl) ?_; refine s_do (o_mov (.bool (!o_1.Until)) rfl) ?_; refine w_done ?_; refine k_seq ?_; refine w_ret ?_; obtain rfl := os hf; exact r_flat ⟨trivial, trivial⟩ rfl (.refl _)
               ·refine s_lit (s := 151) (b := false) rfl (bf c295) ?_; refine s_on rfl ?_; refine s_do (o_q (.ptr 0 0 6) rfl trivial rfl) ?_; refine s_on rfl ?_; refine s_do (o_q (.lst 1 (o_1.Columns.map AV.str)) rfl nle rfl) ?_; refine s_on rfl ?_; refine s_dof (o_len (enc := AV.str) rfl) fun hl297 => ?_; refine s_on rfl ?_; refine s_do (o_q (.bool ((o_1.Columns.length : Int) == 0)) rfl rfl rfl) ?_; refine s_on rfl ?_; refine s_do (o_q (.bool ((o_1.Columns.length : Int) == 0)) rfl trivial rfl) ?_; refine s_do (o_q (.bool ((o_1.Columns.length : Int) == 0)) rfl trivial rfl) ?_; refine s_do (o_mov (.bool ((o_1.Columns.length : Int) == 0)) rfl) ?_
                rcases oi hf with ⟨c298, hf⟩ | ⟨c298, hf⟩
                ·refine s_lit (s := 158) (b := true) rfl c298 ?_; refine s_on rfl ?_; refine s_do (o_q (.ptr 0 0 0) rfl trivial rfl) ?_; refine s_on rfl ?_; refine s_do (o_q (.int .i64 o_1.Kind) rfl nle rfl) ?_; refine s_on rfl ?_; refine s_do (o_q (.bool (o_1.Kind == 6)) rfl rfl rfl) ?_; refine s_on rfl ?_; refine s_do (o_mov (.bool (o_1.Kind == 6)) rfl) ?_
                 rcases oi hf with ⟨c299, hf⟩ | ⟨c299, hf⟩
                 ·refine s_lit (s := 162) (b := true) rfl c299 ?_; refine s_off rfl rfl ?_; refine s_off rfl rfl ?_; refine s_off rfl rfl ?_; refine s_on rfl ?_; refine s_do (o_q (.bool true) rfl trivial rfl) ?_; refine s_do (o_q (.bool true) rfl trivial rfl) ?_; refine s_do (o_mov (.bool true) rfl) ?_; refine w_done ?_; refine k_seq ?_; refine w_ret ?_; obtain rfl := os hf; exact r_flat ⟨trivial, trivial⟩ rfl (.refl _)
                 ·refine s_lit (s := 162) (b := false) rfl (bf c299) ?_; refine s_on rfl ?_; refine s_do (o_q (.ptr 0 0 7) rfl trivial rfl) ?_; refine s_on rfl ?_; refine s_do (o_q (.bool o_1.Until) rfl nle rfl) ?_; refine s_on rfl ?_; refine s_do (o_q (.bool (!o_1.Until)) rfl trivial rfl) ?_; refine s_on rfl ?_; refine s_do (o_q (.bool (!o_1.Until)) rfl trivial rfl) ?_; refine s_do (o_q (.bool (!o_1.Until)) rfl trivial rfl) ?_; refine s_do (o_mov (.bool (!o_1.Until)) rfl) ?_; refine w_done ?_; refine k_seq ?_; refine w_ret ?_; obtain rfl := os hf; exact r_flat ⟨trivial, trivial⟩ rfl (.refl _)
                ·refine s_lit (s := 158) (b := false) rfl (bf c298) ?_; refine s_off rfl rfl ?_; refine s_off rfl rfl ?_; refine s_off rfl rfl ?_; refine s_off rfl rfl ?_; refine s_offs rfl ?_; refine s_offs rfl ?_; refine s_offs rfl ?_; refine s_off rfl rfl ?_; refine s_do (o_q (.bool false) rfl trivial rfl) ?_; refine s_do (o_mov (.bool false) rfl) ?_; refine w_done ?_; refine k_seq ?_; refine w_ret ?_; obtain rfl := os hf; exact r_flat ⟨trivial, trivial⟩ rfl (.refl _)
              ·refine s_lit (s := 140) (b := false) rfl (bf c294) ?_; refine s_on rfl ?_; refine s_do (o_q (.ptr 0 0 5) rfl trivial rfl) ?_; refine s_on rfl ?_; refine s_do (o_q (.lst 3 (o_1.Muts.map encGMut)) rfl nle rfl) ?_; refine s_on rfl ?_; refine s_dof (o_len (enc := encGMut) rfl) fun hl300 => ?_; refine s_on rfl ?_; refine s_do (o_q (.bool ((o_1.Muts.length : Int) == 0)) rfl rfl rfl) ?_; refine s_on rfl ?_; refine s_do (o_q (.bool ((o_1.Muts.length : Int) == 0)) rfl trivial rfl) ?_; refine s_do (o_q (.bool ((o_1.Muts.length : Int) == 0)) rfl trivial rfl) ?_; refine s_do (o_mov (.bool ((o_1.Muts.length : Int) == 0)) rfl) ?_
               rcases oi hf with ⟨c301, hf⟩ | ⟨c301, hf⟩
               ·refine s_lit (s := 147) (b := true) rfl c301 ?_; refine s_on rfl ?_; refine s_do (o_q (.ptr 0 0 0) rfl trivial rfl) ?_; refine s_on rfl ?_; refine s_do (o_q (.int .i64 o_1.Kind) rfl nle rfl) ?_; refine s_on rfl ?_; refine s_do (o_q (.bool (o_1.Kind == 2)) rfl rfl rfl) ?_; refine s_on rfl ?_; refine s_do (o_mov (.bool (o_1.Kind == 2)) rfl) ?_
                rcases oi hf with ⟨c302, hf⟩ | ⟨c302, hf⟩
                ·refine s_lit (s := 151) (b := true) rfl c302 ?_; refine s_off rfl rfl ?_; refine s_off rfl rfl ?_; refine s_off rfl rfl ?_; refine s_off rfl rfl ?_; refine s_on rfl ?_; refine s_do (o_q (.bool true) rfl trivial rfl) ?_; refine s_do (o_q (.bool true) rfl trivial rfl) ?_; refine s_do (o_mov (.bool true) rfl) ?_; refine s_on rfl ?_; refine s_do (o_q (.ptr 0 0 0) rfl trivial rfl) ?_; refine s_on rfl ?_; refine s_do (o_q (.int .i64 o_1.Kind) rfl nle rfl) ?_; refine s_on rfl ?_; refine s_do (o_q (.bool (o_1.Kind == 6)) rfl rfl rfl) ?_; refine s_on rfl ?_; refine s_do (o_mov (.bool (o_1.Kind == 6)) rfl) ?_
                 rcases oi hf with ⟨c303, hf⟩ | ⟨c303, hf⟩
                 ·refine s_lit (s := 162) (b := true) rfl c303 ?_; refine s_off rfl rfl ?_; refine s_off rfl rfl ?_; refine s_off rfl rfl ?_; refine s_on rfl ?_; refine s_do (o_q (.bool true) rfl trivial rfl) ?_; refine s_do (o_q (.bool true) rfl trivial rfl) ?_; refine s_do (o_mov (.bool true) rfl) ?_; refine w_done ?_; refine k_seq ?_; refine w_ret ?_; obtain rfl := os hf; exact r_flat ⟨trivial, trivial⟩ rfl (.refl _)
                 ·refine s_lit (s := 162) (b := false) rfl (bf c303) ?_; refine s_on rfl ?_; refine s_do (o_q (.ptr 0 0 7) rfl trivial rfl) ?_; refine s_on rfl ?_; refine s_do (o_q (.bool o_1.Until) rfl nle rfl) ?_; refine s_on rfl ?_; refine s_do (o_q (.bool (!o_1.Until)) rfl trivial rfl) ?_; refine s_on rfl ?_; refine s_do (o_q (.bool (!o_1.Until)) rfl trivial rfl) ?_; refine s_do (o_q (.bool (!o_1.Until)) rfl trivial rfl) ?_; refine s_do (o_mov (.bool (!o_1.Until)) rfl) ?_; refine w_done ?_; refine k_seq ?_; refine w_ret ?_; obtain rfl := os hf; exact r_flat ⟨trivial, trivial⟩ rfl (.refl _)
                ·refine s_lit (s := 151) (b := false) rfl (bf c302) ?_; refine s_on rfl ?_; refine s_do (o_q (.ptr 0 0 6) rfl trivial rfl) ?_; refine s_on rfl ?_; refine s_do (o_q (.lst 1 (o_1.Columns.map AV.str)) rfl nle rfl) ?_; refine s_on rfl ?_; refine s_dof (o_len (enc := AV.str) rfl) fun hl304 => ?_; refine s_on rfl ?_; refine s_do (o_q (.bool ((o_1.Columns.length : Int) == 0)) rfl rfl rfl) ?_; refine s_on rfl ?_; refine s_do (o_q (.bool ((o_1.Columns.length : Int) == 0)) rfl trivial rfl) ?_; refine s_do (o_q (.bool ((o_1.Columns.length : Int) == 0)) rfl trivial rfl) ?_; refine s_do (o_mov (.bool ((o_1.Columns.length : Int) == 0)) rfl) ?_
                 rcases oi hf with ⟨c305, hf⟩ | ⟨c305, hf⟩
                 ·refine s_lit (s := 158) (b := true) rfl c305 ?_; refine s_on rfl ?_; refine s_do (o_q (.ptr 0 0 0) rfl trivial rfl) ?_; refine s_on rfl ?_; refine s_do (o_q (.int .i64 o_1.Kind) rfl nle rfl) ?_; refine s_on rfl ?_; refine s_do (o_q (.bool (o_1.Kind == 6)) rfl rfl rfl) ?_; refine s_on rfl ?_; refine s_do (o_mov (.bool (o_1.Kind == 6)) rfl) ?_
                  rcases oi hf with ⟨c306, hf⟩ | ⟨c306, hf⟩
                  ·refine s_lit (s := 162) (b := true) rfl c306 ?_; refine s_off rfl rfl ?_; refine s_off rfl rfl ?_; refine s_off rfl rfl ?_; refine s_on rfl ?_; refine s_do (o_q (.bool true) rfl trivial rfl) ?_; refine s_do (o_q (.bool true) rfl trivial rfl) ?_; refine s_do (o_mov (.bool true) rfl) ?_; refine w_done ?_; refine k_seq ?_; refine w_ret ?_; obtain rfl := os hf; exact r_flat ⟨trivial, trivial⟩ rfl (.refl _)
                  ·refine s_lit (s := 162) (b := false) rfl (bf c306) ?_; refine s_on rfl ?_; refine s_do (o_q (.ptr 0 0 7) rfl trivial rfl) ?_; refine s_on rfl ?_; refine s_do (o_q (.bool o_1.Until) rfl nle rfl) ?_; refine s_on rfl ?_; refine s_do (o_q (.bool (!o_1.Until)) rfl trivial rfl) ?_; refine s_on rfl ?_; refine s_do (o_q (.bool (!o_1.Until)) rfl trivial rfl) ?_; refine s_do (o_q (.bool (!o_1.Until)) rfl trivial rfl) ?_; refine s_do (o_mov (.bool (!o_1.Until)) rfl) ?_; refine w_done ?_; refine k_seq ?_; refine w_ret ?_; obtain rfl := os hf; exact r_flat ⟨trivial, trivial⟩ rfl (.refl _)
                 ·refine s_lit (s := 158) (b := false) rfl (bf c305) ?_; refine s_off rfl rfl ?_; refine s_off rfl rfl ?_; refine s_off rfl rfl ?_; refine s_off rfl rfl ?_; refine s_offs rfl ?_; refine s_offs rfl ?_; refine s_offs rfl ?_; refine s_off rfl rfl ?_; refine s_do (o_q (.bool false) rfl trivial rfl) ?_; refine s_do (o_mov (.bool false) rfl) ?_; refine w_done ?_; refine k_seq ?_; refine w_ret ?_; obtain rfl := os hf; exact r_flat ⟨trivial, trivial⟩ rfl (.refl _)
               ·refine s_lit (s := 147) (b := false) rfl (bf c301) ?_; refine s_off rfl rfl ?_; refine s_off rfl rfl ?_; refine s_off rfl rfl ?_; refine s_off rfl rfl ?_; refine s_offs rfl ?_; refine s_offs rfl ?_; refine s_offs rfl ?_; refine s_offs rfl ?_; refine s_off rfl rfl ?_; refine s_do (o_q (.bool false) rfl trivial rfl) ?_; refine s_do (o_mov (.bool false) rfl) ?_; refine s_off rfl rfl ?_; refine s_off rfl rfl ?_; refine s_off rfl rfl ?_; refine s_off rfl rfl ?_; refine s_offs rfl ?_; refine s_offs rfl ?_; refine s_offs rfl ?_; refine s_off rfl rfl ?_; refine s_do (o_q (.bool false) rfl trivial rfl) ?_
                refine s_do (o_mov (.bool false) rfl) ?_; refine w_done ?_; refine k_seq ?_; refine w_ret ?_; obtain rfl := os hf; exact r_flat ⟨trivial, trivial⟩ rfl (.refl _)
             ·refine s_lit (s := 136) (b := false) rfl (bf c293) ?_; refine s_off rfl rfl ?_; refine s_off rfl rfl ?_; refine s_off rfl rfl ?_; refine s_off rfl rfl ?_; refine s_offs rfl ?_; refine s_offs rfl ?_; refine s_offs rfl ?_; refine s_offs rfl ?_; refine s_off rfl rfl ?_; refine s_do (o_q (.bool false) rfl trivial rfl) ?_; refine s_do (o_mov (.bool false) rfl) ?_; refine s_off rfl rfl ?_; refine s_off rfl rfl ?_; refine s_off rfl rfl ?_; refine s_off rfl rfl ?_; refine s_offs rfl ?_; refine s_offs rfl ?_; refine s_offs rfl ?_; refine s_offs rfl ?_; refine s_off rfl rfl ?_; refine s_do (o_q (.bool false) rfl trivial rfl) ?_
              refine s_do (o_mov (.bool false) rfl) ?_; refine s_off rfl rfl ?_; refine s_off rfl rfl ?_; refine s_off rfl rfl ?_; refine s_off rfl rfl ?_; refine s_offs rfl ?_; refine s_offs rfl ?_; refine s_offs rfl ?_; refine s_off rfl rfl ?_; refine s_do (o_q (.bool false) rfl trivial rfl) ?_; refine s_do (o_mov (.bool false) rfl) ?_; refine w_done ?_; refine k_seq ?_; refine w_ret ?_; obtain rfl := os hf; exact r_flat ⟨trivial, trivial⟩ rfl (.refl _)
           ·refine s_lit (s := 127) (b := false) rfl (bf c277) ?_; refine s_off rfl rfl ?_; refine s_off rfl rfl ?_; refine s_offs rfl ?_; refine s_offs rfl ?_; refine s_offs rfl ?_; refine s_offs rfl ?_; refine s_off rfl rfl ?_; refine s_do (o_q (.bool false) rfl trivial rfl) ?_; refine s_do (o_mov (.bool false) rfl) ?_; refine s_off rfl rfl ?_; refine s_off rfl rfl ?_; refine s_off rfl rfl ?_; refine s_off rfl rfl ?_; refine s_offs rfl ?_; refine s_offs rfl ?_; refine s_offs rfl ?_; refine s_offs rfl ?_; refine s_off rfl rfl ?_; refine s_do (o_q (.bool false) rfl trivial rfl) ?_; refine s_do (o_mov (.bool false) rfl) ?_
            refine s_off rfl rfl ?_; refine s_off rfl rfl ?_; refine s_off rfl rfl ?_; refine s_off rfl rfl ?_; refine s_offs rfl ?_; refine s_offs rfl ?_; refine s_offs rfl ?_; refine s_offs rfl ?_; refine s_off rfl rfl ?_; refine s_do (o_q (.bool false) rfl trivial rfl) ?_; refine s_do (o_mov (.bool false) rfl) ?_; refine s_off rfl rfl ?_; refine s_off rfl rfl ?_; refine s_off rfl rfl ?_; refine s_off rfl rfl ?_; refine s_offs rfl ?_; refine s_offs rfl ?_; refine s_offs rfl ?_; refine s_off rfl rfl ?_; refine s_do (o_q (.bool false) rfl trivial rfl) ?_; refine s_do (o_mov (.bool false) rfl) ?_; refine w_done ?_
            refine k_seq ?_; refine w_ret ?_; obtain rfl := os hf; exact r_flat ⟨trivial, trivial⟩ rfl (.refl _)
         ·refine s_lit (s := 112) (b := false) rfl (bf c246) ?_; refine s_on rfl ?_; refine s_do (o_q (.ptr 0 0 3) rfl trivial rfl) ?_; refine s_on rfl ?_; refine s_do (o_q (.lst 3 (o_1.Where.map encGCond)) rfl nle rfl) ?_; refine s_on rfl ?_; refine s_dof (o_len (enc := encGCond) rfl) fun hl307 => ?_; refine s_on rfl ?_; refine s_do (o_q (.bool ((o_1.Where.length : Int) == 0)) rfl rfl rfl) ?_; refine s_on rfl ?_; refine s_do (o_q (.bool ((o_1.Where.length : Int) == 0)) rfl trivial rfl) ?_; refine s_do (o_q (.bool ((o_1.Where.length : Int) == 0)) rfl trivial rfl) ?_; refine s_do (o_mov (.bool ((o_1.Where.length : Int) == 0)) rfl) ?_
          rcases oi hf with ⟨c308, hf⟩ | ⟨c308, hf⟩
          ·refine s_lit (s := 119) (b := true) rfl c308 ?_; refine s_on rfl ?_; refine s_do (o_mov (.bool name_112) rfl) ?_; refine s_on rfl ?_; refine s_do (o_mov (.bool name_112) rfl) ?_
           rcases oi hf with ⟨c309, hf⟩ | ⟨c309, hf⟩
           ·refine s_lit (s := 121) (b := true) rfl c309 ?_; refine s_off rfl rfl ?_; refine s_off rfl rfl ?_; refine s_off rfl rfl ?_; refine s_on rfl ?_; refine s_do (o_q (.bool true) rfl trivial rfl) ?_; refine s_do (o_q (.bool true) rfl trivial rfl) ?_; refine s_do (o_mov (.bool true) rfl) ?_; refine s_on rfl ?_; refine s_do (o_mov (.bool row_117) rfl) ?_; refine s_on rfl ?_; refine s_do (o_mov (.bool row_117) rfl) ?_
            rcases oi hf with ⟨c310, hf⟩ | ⟨c310, hf⟩
            ·refine s_lit (s := 129) (b := true) rfl c310 ?_; refine s_off rfl rfl ?_; refine s_off rfl rfl ?_; refine s_off rfl rfl ?_; refine s_off rfl rfl ?_; refine s_on rfl ?_; refine s_do (o_q (.bool true) rfl trivial rfl) ?_; refine s_do (o_q (.bool true) rfl trivial rfl) ?_; refine s_do (o_mov (.bool true) rfl) ?_; refine s_on rfl ?_; refine s_do (o_q (.ptr 0 0 0) rfl trivial rfl) ?_; refine s_on rfl ?_; refine s_do (o_q (.int .i64 o_1.Kind) rfl nle rfl) ?_; refine s_on rfl ?_; refine s_do (o_q (.bool (o_1.Kind == 4)) rfl rfl rfl) ?_; refine s_on rfl ?_; refine s_do (o_mov (.bool (o_1.Kind == 4)) rfl) ?_
             rcases oi hf with ⟨c311, hf⟩ | ⟨c311, hf⟩
             ·refine s_lit (s := 140) (b := true) rfl c311 ?_; refine s_off rfl rfl ?_; refine s_off rfl rfl ?_; refine s_off rfl rfl ?_; refine s_off rfl rfl ?_; refine s_on rfl ?_; refine s_do (o_q (.bool true) rfl trivial rfl) ?_; refine s_do (o_q (.bool true) rfl trivial rfl) ?_; refine s_do (o_mov (.bool true) rfl) ?_; refine s_on rfl ?_; refine s_do (o_q (.ptr 0 0 0) rfl trivial rfl) ?_; refine s_on rfl ?_; refine s_do (o_q (.int .i64 o_1.Kind) rfl nle rfl) ?_; refine s_on rfl ?_; refine s_do (o_q (.bool (o_1.Kind == 2)) rfl rfl rfl) ?_; refine s_on rfl ?_; refine s_do (o_mov (.bool (o_1.Kind == 2)) rfl) ?_
              rcases oi hf with ⟨c312, hf⟩ | ⟨c312, hf⟩
              ·refine s_lit (s := 151) (b := true) rfl c312 ?_; refine s_off rfl rfl ?_; refine s_off rfl rfl ?_; refine s_off rfl rfl ?_; refine s_off rfl rfl ?_; refine s_on rfl ?_; refine s_do (o_q (.bool true) rfl trivial rfl) ?_; refine s_do (o_q (.bool true) rfl trivial rfl) ?_; refine s_do (o_mov (.bool true) rfl) ?_; refine s_on rfl ?_; refine s_do (o_q (.ptr 0 0 0) rfl trivial rfl) ?_; refine s_on rfl ?_; refine s_do (o_q (.int .i64 o_1.Kind) rfl nle rfl) ?_; refine s_on rfl ?_; refine s_do (o_q (.bool (o_1.Kind == 6)) rfl rfl rfl) ?_; refine s_on rfl ?_; refine s_do (o_mov (.bool (o_1.Kind == 6)) rfl) ?_
               rcases oi hf with ⟨c313, hf⟩ | ⟨c313, hf⟩
               ·refine s_lit (s := 162) (b := true) rfl c313 ?_; refine s_off rfl rfl ?_; refine s_off rfl rfl ?_; refine s_off rfl rfl ?_; refine s_on rfl ?_; refine s_do (o_q (.bool true) rfl trivial rfl) ?_; refine s_do (o_q (.bool true) rfl trivial rfl) ?_; refine s_do (o_mov (.bool true) rfl) ?_; refine w_done ?_; refine k_seq ?_; refine w_ret ?_; obtain rfl := os hf; exact r_flat ⟨trivial, trivial⟩ rfl (.refl _)
               ·refine s_lit (s := 162) (b := false) rfl (bf c313) ?_; refine s_on rfl ?_; refine s_do (o_q (.ptr 0 0 7) rfl trivial rfl) ?_; refine s_on rfl ?_; refine s_do (o_q (.bool o_1.Until) rfl nle rfl) ?_; refine s_on rfl ?_; refine s_do (o_q (.bool (!o_1.Until)) rfl trivial rfl) ?_; refine s_on rfl ?_; refine s_do (o_q (.bool (!o_1.Until)) rfl trivial rfl) ?_; refine s_do (o_q (.bool (!o_1.Until)) rfl trivial rfl) ?_; refine s_do (o_mov (.bool (!o_1.Until)) rfl) ?_; refine w_done ?_; refine k_seq ?_; refine w_ret ?_; obtain rfl := os hf; exact r_flat ⟨trivial, trivial⟩ rfl (.refl _)
              ·refine s_lit (s := 151) (b := false) rfl (bf c312) ?_; refine s_on rfl ?_; refine s_do (o_q (.ptr 0 0 6) rfl trivial rfl) ?_; refine s_on rfl ?_; refine s_do (o_q (.lst 1 (o_1.Columns.map AV.str)) rfl nle rfl) ?_; refine s_on rfl ?_; refine s_dof (o_len (enc := AV.str) rfl) fun hl314 => ?_; refine s_on rfl ?_; refine s_do (o_q (.bool ((o_1.Columns.length : Int) == 0)) rfl rfl rfl) ?_; refine s_on rfl ?_; refine s_do (o_q (.bool ((o_1.Columns.length : Int) == 0)) rfl trivial rfl) ?_; refine s_do (o_q (.bool ((o_1.Columns.length : Int) == 0)) rfl trivial rfl) ?_; refine s_do (o_mov (.bool ((o_1.Columns.length : Int) == 0)) rfl) ?_
               rcases oi hf with ⟨c315, hf⟩ | ⟨c315, hf⟩
               ·refine s_lit (s := 158) (b := true) rfl c315 ?_; refine s_on rfl ?_; refine s_do (o_q (.ptr 0 0 0) rfl trivial rfl) ?_; refine s_on rfl ?_; refine s_do (o_q (.int .i64 o_1.Kind) rfl nle rfl) ?_; refine s_on rfl ?_; refine s_do (o_q (.bool (o_1.Kind == 6)) rfl rfl rfl) ?_; refine s_on rfl ?_; refine s_do (o_mov (.bool (o_1.Kind == 6)) rfl) ?_
                rcases oi hf with ⟨c316, hf⟩ | ⟨c316, hf⟩
                ·refine s_lit (s := 162) (b := true) rfl c316 ?_; refine s_off rfl rfl ?_; refine s_off rfl rfl ?_; refine s_off rfl rfl ?_; refine s_on rfl ?_; refine s_do (o_q (.bool true) rfl trivial rfl) ?_; refine s_do (o_q (.bool true) rfl trivial rfl) ?_; refine s_do (o_mov (.bool true) rfl) ?_; refine w_done ?_; refine k_seq ?_; refine w_ret ?_; obtain rfl := os hf; exact r_flat ⟨trivial, trivial⟩ rfl (.refl _)
                ·refine s_lit (s := 162) (b := false) rfl (bf c316) ?_; refine s_on rfl ?_; refine s_do (o_q (.ptr 0 0 7) rfl trivial rfl) ?_; refine s_on rfl ?_; refine s_do (o_q (.bool o_1.Until) rfl nle rfl) ?_; refine s_on rfl ?_; refine s_do (o_q (.bool (!o_1.Until)) rfl trivial rfl) ?_; refine s_on rfl ?_; refine s_do (o_q (.bool (!o_1.Until)) rfl trivial rfl) ?_; refine s_do (o_q (.bool (!o_1.Until)) rfl trivial rfl) ?_; refine s_do (o_mov (.bool (!o_1.Until)) rfl) ?_; refine w_done ?_; refine k_seq ?_; refine w_ret ?_; obtain rfl := os hf; exact r_flat ⟨trivial, trivial⟩ rfl (.refl _)
               ·refine s_lit (s := 158) (b := false) rfl (bf c315) ?_; refine s_off rfl rfl ?_; refine s_off rfl rfl ?_; refine s_off rfl rfl ?_; refine s_off rfl rfl ?_; refine s_offs rfl ?_; refine s_offs rfl ?_; refine s_offs rfl ?_; refine s_off rfl rfl ?_; refine s_do (o_q (.bool false) rfl trivial rfl) ?_; refine s_do (o_mov (.bool false) rfl) ?_; refine w_done ?_; refine k_seq ?_; refine w_ret ?_; obtain rfl := os hf; exact r_flat ⟨trivial, trivial⟩ rfl (.refl _)
             ·refine s_lit (s := 140) (b := false) rfl (bf c311) ?_; refine s_on rfl ?_; refine s_do (o_q (.ptr 0 0 5) rfl trivial rfl) ?_; refine s_on rfl ?_; refine s_do (o_q (.lst 3 (o_1.Muts.map encGMut)) rfl nle rfl) ?_; refine s_on rfl ?_; refine s_dof (o_len (enc := encGMut) rfl) fun hl317 => ?_; refine s_on rfl ?_; refine s_do (o_q (.bool ((o_1.Muts.length : Int) == 0)) rfl rfl rfl) ?_; refine s_on rfl ?_; refine s_do (o_q (.bool ((o_1.Muts.length : Int) == 0)) rfl trivial rfl) ?_; refine s_do (o_q (.bool ((o_1.Muts.length : Int) == 0)) rfl trivial rfl) ?_; refine s_do (o_mov (.bool ((o_1.Muts.length : Int) == 0)) rfl) ?_
              rcases oi hf with ⟨c318, hf⟩ | ⟨c318, hf⟩
              ·refine s_lit (s := 147) (b := true) rfl c318 ?_; refine s_on rfl ?_; refine s_do (o_q (.ptr 0 0 0) rfl trivial rfl) ?_; refine s_on rfl ?_; refine s_do (o_q (.int .i64 o_1.Kind) rfl nle rfl) ?_; refine s_on rfl ?_; refine s_do (o_q (.bool (o_1.Kind == 2)) rfl rfl rfl) ?_; refine s_on rfl ?_; refine s_do (o_mov (.bool (o_1.Kind == 2)) rfl) ?_
               rcases oi hf with ⟨c319, hf⟩ | ⟨c319, hf⟩
               ·refine s_lit (s := 151) (b := true) rfl c319 ?_; refine s_off rfl rfl ?_; refine s_off rfl rfl ?_; refine s_off rfl rfl ?_; refine s_off rfl rfl ?_; refine s_on rfl ?_; refine s_do (o_q (.bool true) rfl trivial rfl) ?_; refine s_do (o_q (.bool true) rfl trivial rfl) ?_; refine s_do (o_mov (.bool true) rfl) ?_; refine s_on rfl ?_; refine s_do (o_q (.ptr 0 0 0) rfl trivial rfl) ?_; refine s_on rfl ?_; refine s_do (o_q (.int .i64 o_1.Kind) rfl nle rfl) ?_; refine s_on rfl ?_; refine s_do (o_q (.bool (o_1.Kind == 6)) rfl rfl rfl) ?_; refine s_on rfl ?_; refine s_do (o_mov (.bool (o_1.Kind == 6)) rfl) ?_
                rcases oi hf with ⟨c320, hf⟩ | ⟨c320, hf⟩
                ·refine s_lit (s := 162) (b := true) rfl c320 ?_; refine s_off rfl rfl ?_; refine s_off rfl rfl ?_; refine s_off rfl rfl ?_; refine s_on rfl ?_; refine s_do (o_q (.bool true) rfl trivial rfl) ?_; refine s_do (o_q (.bool true) rfl trivial rfl) ?_; refine s_do (o_mov (.bool true) rfl) ?_; refine w_done ?_; refine k_seq ?_; refine w_ret ?_; obtain rfl := os hf; exact r_flat ⟨trivial, trivial⟩ rfl (.refl _)
                ·refine s_lit (s := 162) (b := false) rfl (bf c320) ?_; refine s_on rfl ?_; refine s_do (o_q (.ptr 0 0 7) rfl trivial rfl) ?_; refine s_on rfl ?_; refine s_do (o_q (.bool o_1.Until) rfl nle rfl) ?_; refine s_on rfl ?_; refine s_do (o_q (.bool (!o_1.Until)) rfl trivial rfl) ?_; refine s_on rfl ?_; refine s_do (o_q (.bool (!o_1.Until)) rfl trivial rfl) ?_; refine s_do (o_q (.bool (!o_1.Until)) rfl trivial rfl) ?_; refine s_do (o_mov (.bool (!o_1.Until)) rfl) ?_; refine w_done ?_; refine k_seq ?_; refine w_ret ?_; obtain rfl := os hf; exact r_flat ⟨trivial, trivial⟩ rfl (.refl _)
               ·refine s_lit (s := 151) (b := false) rfl (bf c319) ?_; refine s_on rfl ?_; refine s_do (o_q (.ptr 0 0 6) rfl trivial rfl) ?_; refine s_on rfl ?_; refine s_do (o_q (.lst 1 (o_1.Columns.map AV.str)) rfl nle rfl) ?_; refine s_on rfl ?_; refine s_dof (o_len (enc := AV.str) rfl) fun hl321 => ?_; refine s_on rfl ?_; refine s_do (o_q (.bool ((o_1.Columns.length : Int) == 0)) rfl rfl rfl) ?_; refine s_on rfl ?_; refine s_do (o_q (.bool ((o_1.Columns.length : Int) == 0)) rfl trivial rfl) ?_; refine s_do (o_q (.bool ((o_1.Columns.length : Int) == 0)) rfl trivial rfl) ?_; refine s_do (o_mov (.bool ((o_1.Columns.length : Int) == 0)) rfl) ?_
                rcases oi hf with ⟨c322, hf⟩ | ⟨c322, hf⟩
                ·refine s_lit (s := 158) (b := true) rfl c322 ?_; refine s_on rfl ?_; refine s_do (o_q (.ptr 0 0 0) rfl trivial rfl) ?_; refine s_on rfl ?_; refine s_do (o_q (.int .i64 o_1.Kind) rfl nle rfl) ?_; refine s_on rfl ?_; refine s_do (o_q (.bool (o_1.Kind == 6)) rfl rfl rfl) ?_; refine s_on rfl ?_; refine s_do (o_mov (.bool (o_1.Kind == 6)) rfl) ?_
                 rcases oi hf with ⟨c323, hf⟩ | ⟨c323, hf⟩
                 ·refine s_lit (s := 162) (b := true) rfl c323 ?_; refine s_off rfl rfl ?_; refine s_off rfl rfl ?_; refine s_off rfl rfl ?_; refine s_on rfl ?_; refine s_do (o_q (.bool true) rfl trivial rfl) ?_; refine s_do (o_q (.bool true) rfl trivial rfl) ?_; refine s_do (o_mov (.bool true) rfl) ?_; refine w_done ?_; refine k_seq ?_; refine w_ret ?_; obtain rfl := os hf; exact r_flat ⟨trivial, trivial⟩ rfl (.refl _)
                 ·refine s_lit (s := 162) (b := false) rfl (bf c323) ?_; refine s_on rfl ?_; refine s_do (o_q (.ptr 0 0 7) rfl trivial rfl) ?_; refine s_on rfl ?_; refine s_do (o_q (.bool o_1.Until) rfl nle rfl) ?_; refine s_on rfl ?_; refine s_do (o_q (.bool (!o_1.Until)) rfl trivial rfl) ?_; refine s_on rfl ?_; refine s_do (o_q (.bool (!o_1.Until)) rfl trivial rfl) ?_; refine s_do (o_q (.bool (!o_1.Until)) rfl trivial rfl) ?_; refine s_do (o_mov (.bool (!o_1.Until)) rfl) ?_; refine w_done ?_; refine k_seq ?_; refine w_ret ?_; obtain rfl := os hf; exact r_flat ⟨trivial, trivial⟩ rfl (.refl _)
                ·refine s_lit (s := 158) (b := false) rfl (bf c322) ?_; refine s_off rfl rfl ?_; refine s_off rfl rfl ?_; refine s_off rfl rfl ?_; refine s_off rfl rfl ?_; refine s_offs rfl ?_; refine s_offs rfl ?_; refine s_offs rfl ?_; refine s_off rfl rfl ?_; refine s_do (o_q (.bool false) rfl trivial rfl) ?_; refine s_do (o_mov (.bool false) rfl) ?_; refine w_done ?_; refine k_seq ?_; refine w_ret ?_; obtain rfl := os hf; exact r_flat ⟨trivial, trivial⟩ rfl (.refl _)
              ·refine s_lit (s := 147) (b := false) rfl (bf c318) ?_; refine s_off rfl rfl ?_; refine s_off rfl rfl ?_; refine s_off rfl rfl ?_; refine s_off rfl rfl ?_; refine s_offs rfl ?_; refine s_offs rfl ?_; refine s_offs rfl ?_; refine s_offs rfl ?_; refine s_off rfl rfl ?_; refine s_do (o_q (.bool false) rfl trivial rfl) ?_; refine s_do (o_mov (.bool false) rfl) ?_; refine s_off rfl rfl ?_; refine s_off rfl rfl ?_; refine s_off rfl rfl ?_; refine s_off rfl rfl ?_; refine s_offs rfl ?_; refine s_offs rfl ?_; refine s_offs rfl ?_; refine s_off rfl rfl ?_; refine s_do (o_q (.bool false) rfl trivial rfl) ?_
               refine s_do (o_mov (.bool false) rfl) ?_; refine w_done ?_; refine k_seq ?_; refine w_ret ?_; obtain rfl := os hf; exact r_flat ⟨trivial, trivial⟩ rfl (.refl _)
            ·refine s_lit (s := 129) (b := false) rfl (bf c310) ?_; refine s_on rfl ?_; refine s_do (o_q (.ptr 0 0 4) rfl trivial rfl) ?_; refine s_on rfl ?_; refine s_do (o_q (.lst 3 (o_1.Row.map encGSet)) rfl nle rfl) ?_; refine s_on rfl ?_; refine s_dof (o_len (enc := encGSet) rfl) fun hl324 => ?_; refine s_on rfl ?_; refine s_do (o_q (.bool ((o_1.Row.length : Int) == 0)) rfl rfl rfl) ?_; refine s_on rfl ?_; refine s_do (o_q (.bool ((o_1.Row.length : Int) == 0)) rfl trivial rfl) ?_; refine s_do (o_q (.bool ((o_1.Row.length : Int) == 0)) rfl trivial rfl) ?_; refine s_do (o_mov (.bool ((o_1.Row.length : Int) == 0)) rfl) ?_
             rcases oi hf with ⟨c325, hf⟩ | ⟨c325, hf⟩
             ·refine s_lit (s := 136) (b := true) rfl c325 ?_; refine s_on rfl ?_; refine s_do (o_q (.ptr 0 0 0) rfl trivial rfl) ?_; refine s_on rfl ?_; refine s_do (o_q (.int .i64 o_1.Kind) rfl nle rfl) ?_; refine s_on rfl ?_; refine s_do (o_q (.bool (o_1.Kind == 4)) rfl rfl rfl) ?_; refine s_on rfl ?_; refine s_do (o_mov (.bool (o_1.Kind == 4)) rfl) ?_
              rcases oi hf with ⟨c326, hf⟩ | ⟨c326, hf⟩
              ·refine s_lit (s := 140) (b := true) rfl c326 ?_; refine s_off rfl rfl ?_; refine s_off rfl rfl ?_; refine s_off rfl rfl ?_; refine s_off rfl rfl ?_; refine s_on rfl ?_; refine s_do (o_q (.bool true) rfl trivial rfl) ?_; refine s_do (o_q (.bool true) rfl trivial rfl) ?_; refine s_do (o_mov (.bool true) rfl) ?_; refine s_on rfl ?_; refine s_do (o_q (.ptr 0 0 0) rfl trivial rfl) ?_; refine s_on rfl ?_; refine s_do (o_q (.int .i64 o_1.Kind) rfl nle rfl) ?_; refine s_on rfl ?_; refine s_do (o_q (.bool (o_1.Kind == 2)) rfl rfl rfl) ?_; refine s_on rfl ?_; refine s_do (o_mov (.bool (o_1.Kind == 2)) rfl) ?_
               rcases oi hf with ⟨c327, hf⟩ | ⟨c327, hf⟩
               ·refine s_lit (s := 151) (b := true) rfl c327 ?_; refine s_off rfl rfl ?_; refine s_off rfl rfl ?_; refine s_off rfl rfl ?_; refine s_off rfl rfl ?_; refine s_on rfl ?_; refine s_do (o_q (.bool true) rfl trivial rfl) ?_; refine s_do (o_q (.bool true) rfl trivial rfl) ?_; refine s_do (o_mov (.bool true) rfl) ?_; refine s_on rfl ?_; refine s_do (o_q (.ptr 0 0 0) rfl trivial rfl) ?_; refine s_on rfl ?_; refine s_do (o_q (.int .i64 o_1.Kind) rfl nle rfl) ?_; refine s_on rfl ?_; refine s_do (o_q (.bool (o_1.Kind == 6)) rfl rfl rfl) ?_; refine s_on rfl ?_; refine s_do (o_mov (.bool (o_1.Kind == 6)) rfl) ?_
                rcases oi hf with ⟨c328, hf⟩ | ⟨c328, hf⟩
                ·refine s_lit (s := 162) (b := true) rfl c328 ?_; refine s_off rfl rfl ?_; refine s_off rfl rfl ?_; refine s_off rfl rfl ?_; refine s_on rfl ?_; refine s_do (o_q (.bool true) rfl trivial rfl) ?_; refine s_do (o_q (.bool true) rfl trivial rfl) ?_; refine s_do (o_mov (.bool true) rfl) ?_; refine w_done ?_; refine k_seq ?_; refine w_ret ?_; obtain rfl := os hf; exact r_flat ⟨trivial, trivial⟩ rfl (.refl _)
                ·refine s_lit (s := 162) (b := false) rfl (bf c328) ?_; refine s_on rfl ?_; refine s_do (o_q (.ptr 0 0 7) rfl trivial rfl) ?_; refine s_on rfl ?_; refine s_do (o_q (.bool o_1.Until) rfl nle rfl) ?_; refine s_on rfl ?_; refine s_do (o_q (.bool (!o_1.Until)) rfl trivial rfl) ?_; refine s_on rfl ?_; refine s_do (o_q (.bool (!o_1.Until)) rfl trivial rfl) ?_; refine s_do (o_q (.bool (!o_1.Until)) rfl trivial rfl) ?_; refine s_do (o_mov (.bool (!o_1.Until)) rfl) ?_; refine w_done ?_; refine k_seq ?_; refine w_ret ?_; obtain rfl := os hf; exact r_flat ⟨trivial, trivial⟩ rfl (.refl _)
               ·refine s_lit (s := 151) (b := false) rfl (bf c327) ?_; refine s_on rfl ?_; refine s_do (o_q (.ptr 0 0 6) rfl trivial rfl) ?_; refine s_on rfl ?_; refine s_do (o_q (.lst 1 (o_1.Columns.map AV.str)) rfl nle rfl) ?_; refine s_on rfl ?_; refine s_dof (o_len (enc := AV.str) rfl) fun hl329 => ?_; refine s_on rfl ?_; refine s_do (o_q (.bool ((o_1.Columns.length : Int) == 0)) rfl rfl rfl) ?_; refine s_on rfl ?_; refine s_do (o_q (.bool ((o_1.Columns.length : Int) == 0)) rfl trivial rfl) ?_; refine s_do (o_q (.bool ((o_1.Columns.length : Int) == 0)) rfl trivial rfl) ?_; refine s_do (o_mov (.bool ((o_1.Columns.length : Int) == 0)) rfl) ?_
                rcases oi hf with ⟨c330, hf⟩ | ⟨c330, hf⟩
                ·refine s_lit (s := 158) (b := true) rfl c330 ?_; refine s_on rfl ?_; refine s_do (o_q (.ptr 0 0 0) rfl trivial rfl) ?_; refine s_on rfl ?_; refine s_do (o_q (.int .i64 o_1.Kind) rfl nle rfl) ?_; refine s_on rfl ?_; refine s_do (o_q (.bool (o_1.Kind == 6)) rfl rfl rfl) ?_; refine s_on rfl ?_; refine s_do (o_mov (.bool (o_1.Kind == 6)) rfl) ?_
                 rcases oi hf with ⟨c331, hf⟩ | ⟨c331, hf⟩
                 ·refine s_lit (s := 162) (b := true) rfl c331 ?_; refine s_off rfl rfl ?_; refine s_off rfl rfl ?_; refine s_off rfl rfl ?_; refine s_on rfl ?_; refine s_do (o_q (.bool true) rfl trivial rfl) ?_; refine s_do (o_q (.bool true) rfl trivial rfl) ?_; refine s_do (o_mov (.bool true) rfl) ?_; refine w_done ?_; refine k_seq ?_; refine w_ret ?_; obtain rfl := os hf; exact r_flat ⟨trivial, trivial⟩ rfl (.refl _)
                 ·refine s_lit (s := 162) (b := false) rfl (bf c331) ?_; refine s_on rfl ?_; refine s_do (o_q (.ptr 0 0 7) rfl trivial rfl) ?_; refine s_on rfl ?_; refine s_do (o_q (.bool o_1.Until) rfl nle rfl) ?_; refine s_on rfl ?_; refine s_do (o_q (.bool (!o_1.Until)) rfl trivial rfl) ?_; refine s_on rfl ?_; refine s_do (o_q (.bool (!o_1.Until)) rfl trivial rfl) ?_; refine s_do (o_q (.bool (!o_1.Until)) rfl trivial rfl) ?_; refine s_do (o_mov (.bool (!o_1.Until)) rfl) ?_; refine w_done ?_; refine k_seq ?_; refine w_ret ?_; obtain rfl := os hf; exact r_flat ⟨trivial, trivial⟩ rfl (.refl _)
                ·refine s_lit (s := 158) (b := false) rfl (bf c330) ?_; refine s_off rfl rfl ?_; refine s_off rfl rfl ?_; refine s_off rfl rfl ?_; refine s_off rfl rfl ?_; refine s_offs rfl ?_; refine s_offs rfl ?_; refine s_offs rfl ?_; refine s_off rfl rfl ?_; refine s_do (o_q (.bool false) rfl trivial rfl) ?_; refine s_do (o_mov (.bool false) rfl) ?_; refine w_done ?_; refine k_seq ?_; refine w_ret ?_; obtain rfl := os hf; exact r_flat ⟨trivial, trivial⟩ rfl (.refl _)
              ·refine s_lit (s := 140) (b := false) rfl (bf c326) ?_; refine s_on rfl ?_; refine s_do (o_q (.ptr 0 0 5) rfl trivial rfl) ?_; refine s_on rfl ?_; refine s_do (o_q (.lst 3 (o_1.Muts.map encGMut)) rfl nle rfl) ?_; refine s_on rfl ?_; refine s_dof (o_len (enc := encGMut) rfl) fun hl332 => ?_; refine s_on rfl ?_; refine s_do (o_q (.bool ((o_1.Muts.length : Int) == 0)) rfl rfl rfl) ?_; refine s_on rfl ?_; refine s_do (o_q (.bool ((o_1.Muts.length : Int) == 0)) rfl trivial rfl) ?_; refine s_do (o_q (.bool ((o_1.Muts.length : Int) == 0)) rfl trivial rfl) ?_; refine s_do (o_mov (.bool ((o_1.Muts.length : Int) == 0)) rfl) ?_
               rcases oi hf with ⟨c333, hf⟩ | ⟨c333, hf⟩
               ·refine s_lit (s := 147) (b := true) rfl c333 ?_; refine s_on rfl ?_; refine s_do (o_q (.ptr 0 0 0) rfl trivial rfl) ?_; refine s_on rfl ?_; refine s_do (o_q (.int .i64 o_1.Kind) rfl nle rfl) ?_; refine s_on rfl ?_; refine s_do (o_q (.bool (o_1.Kind == 2)) rfl rfl rfl) ?_; refine s_on rfl ?_; refine s_do (o_mov (.bool (o_1.Kind == 2)) rfl) ?_
                rcases oi hf with ⟨c334, hf⟩ | ⟨c334, hf⟩
                ·refine s_lit (s := 151) (b := true) rfl c334 ?_; refine s_off rfl rfl ?_; refine s_off rfl rfl ?_; refine s_off rfl rfl ?_; refine s_off rfl rfl ?_; refine s_on rfl ?_; refine s_do (o_q (.bool true) rfl trivial rfl) ?_; refine s_do (o_q (.bool true) rfl trivial rfl) ?_; refine s_do (o_mov (.bool true) rfl) ?_; refine s_on rfl ?_; refine s_do (o_q (.ptr 0 0 0) rfl trivial rfl) ?_; refine s_on rfl ?_; refine s_do (o_q (.int .i64 o_1.Kind) rfl nle rfl) ?_; refine s_on rfl ?_; refine s_do (o_q (.bool (o_1.Kind == 6)) rfl rfl rfl) ?_; refine s_on rfl ?_; refine s_do (o_mov (.bool (o_1.Kind == 6)) rfl) ?_
                 rcases oi hf with ⟨c335, hf⟩ | ⟨c335, hf⟩
                 ·refine s_lit (s := 162) (b := true) rfl c335 ?_; refine s_off rfl rfl ?_; refine s_off rfl rfl ?_; refine s_off rfl rfl ?_; refine s_on rfl ?_; refine s_do (o_q (.bool true) rfl trivial rfl) ?_; refine s_do (o_q (.bool true) rfl trivial rfl) ?_; refine s_do (o_mov (.bool true) rfl) ?_; refine w_done ?_; refine k_seq ?_; refine w_ret ?_; obtain rfl := os hf; exact r_flat ⟨trivial, trivial⟩ rfl (.refl _)
                 ·refine s_lit (s := 162) (b := false) rfl (bf c335) ?_; refine s_on rfl ?_; refine s_do (o_q (.ptr 0 0 7) rfl trivial rfl) ?_; refine s_on rfl ?_; refine s_do (o_q (.bool o_1.Until) rfl nle rfl) ?_; refine s_on rfl ?_; refine s_do (o_q (.bool (!o_1.Until)) rfl trivial rfl) ?_; refine s_on rfl ?_; refine s_do (o_q (.bool (!o_1.Until)) rfl trivial rfl) ?_; refine s_do (o_q (.bool (!o_1.Until)) rfl trivial rfl) ?_; refine s_do (o_mov (.bool (!o_1.Until)) rfl) ?_; refine w_done ?_; refine k_seq ?_; refine w_ret ?_; obtain rfl := os hf; exact r_flat ⟨trivial, trivial⟩ rfl (.refl _)
                ·refine s_lit (s := 151) (b := false) rfl (bf c334) ?_; refine s_on rfl ?_; refine s_do (o_q (.ptr 0 0 6) rfl trivial rfl) ?_; refine s_on rfl ?_; refine s_do (o_q (.lst 1 (o_1.Columns.map AV.str)) rfl nle rfl) ?_; refine s_on rfl ?_; refine s_dof (o_len (enc := AV.str) rfl) fun hl336 => ?_; refine s_on rfl ?_; refine s_do (o_q (.bool ((o_1.Columns.length : Int) == 0)) rfl rfl rfl) ?_; refine s_on rfl ?_; refine s_do (o_q (.bool ((o_1.Columns.length : Int) == 0)) rfl trivial rfl) ?_; refine s_do (o_q (.bool ((o_1.Columns.length : Int) == 0)) rfl trivial rfl) ?_; refine s_do (o_mov (.bool ((o_1.Columns.length : Int) == 0)) rfl) ?_
                 rcases oi hf with ⟨c337, hf⟩ | ⟨c337, hf⟩
                 ·refine s_lit (s := 158) (b := true) rfl c337 ?_; refine s_on rfl ?_; refine s_do (o_q (.ptr 0 0 0) rfl trivial rfl) ?_; refine s_on rfl ?_; refine s_do (o_q (.int .i64 o_1.Kind) rfl nle rfl) ?_; refine s_on rfl ?_; refine s_do (o_q (.bool (o_1.Kind == 6)) rfl rfl rfl) ?_; refine s_on rfl ?_; refine s_do (o_mov (.bool (o_1.Kind == 6)) rfl) ?_
                  rcases oi hf with ⟨c338, hf⟩ | ⟨c338, hf⟩
                  ·refine s_lit (s := 162) (b := true) rfl c338 ?_; refine s_off rfl rfl ?_; refine s_off rfl rfl ?_; refine s_off rfl rfl ?_; refine s_on rfl ?_; refine s_do (o_q (.bool true) rfl trivial rfl) ?_; refine s_do (o_q (.bool true) rfl trivial rfl) ?_; refine s_do (o_mov (.bool true) rfl) ?_; refine w_done ?_; refine k_seq ?_; refine w_ret ?_; obtain rfl := os hf; exact r_flat ⟨trivial, trivial⟩ rfl (.refl _)
                  ·refine s_lit (s := 162) (b := false) rfl (bf c338) ?_; refine s_on rfl ?_; refine s_do (o_q (.ptr 0 0 7) rfl trivial rfl) ?_; refine s_on rfl ?_; refine s_do (o_q (.bool o_1.Until) rfl nle rfl) ?_; refine s_on rfl ?_; refine s_do (o_q (.bool (!o_1.Until)) rfl trivial rfl) ?_; refine s_on rfl ?_; refine s_do (o_q (.bool (!o_1.Until)) rfl trivial rfl) ?_; refine s_do (o_q (.bool (!o_1.Until)) rfl trivial rfl) ?_; refine s_do (o_mov (.bool (!o_1.Until)) rfl) ?_; refine w_done ?_; refine k_seq ?_; refine w_ret ?_; obtain rfl := os hf; exact r_flat ⟨trivial, trivial⟩ rfl (.refl _)
                 ·refine s_lit (s := 158) (b := false) rfl (bf c337) ?_; refine s_off rfl rfl ?_; refine s_off rfl rfl ?_; refine s_off rfl rfl ?_; refine s_off rfl rfl ?_; refine s_offs rfl ?_; refine s_offs rfl ?_; refine s_offs rfl ?_; refine s_off rfl rfl ?_; refine s_do (o_q (.bool false) rfl trivial rfl) ?_; refine s_do (o_mov (.bool false) rfl) ?_; refine w_done ?_; refine k_seq ?_; refine w_ret ?_; obtain rfl := os hf; exact r_flat ⟨trivial, trivial⟩ rfl (.refl _)
               ·refine s_lit (s := 147) (b := false) rfl (bf c333) ?_; refine s_off rfl rfl ?_; refine s_off rfl rfl ?_; refine s_off rfl rfl ?_; refine s_off rfl rfl ?_; refine s_offs rfl ?_; refine s_offs rfl ?_; refine s_offs rfl ?_; refine s_offs rfl ?_; refine s_off rfl rfl ?_; refine s_do (o_q (.bool false) rfl trivial rfl) ?_; refine s_do (o_mov (.bool false) rfl) ?_; refine s_off rfl rfl ?_; refine s_off rfl rfl ?_; refine s_off rfl rfl ?_; refine s_off rfl rfl ?_; refine s_offs rfl ?_; refine s_offs rfl ?_; refine s_offs rfl ?_; refine s_off rfl rfl ?_; refine s_do (o_q (.bool false) rfl trivial rfl) ?_
                refine s_do (o_mov (.bool false) rfl) ?_; refine w_done ?_; refine k_seq ?_; refine w_ret ?_; obtain rfl := os hf; exact r_flat ⟨trivial, trivial⟩ rfl (.refl _)
             ·refine s_lit (s := 136) (b := false) rfl (bf c325) ?_; refine s_off rfl rfl ?_; refine s_off rfl rfl ?_; refine s_off rfl rfl ?_; refine s_off rfl rfl ?_; refine s_offs rfl ?_; refine s_offs rfl ?_; refine s_offs rfl ?_; refine s_offs rfl ?_; refine s_off rfl rfl ?_; refine s_do (o_q (.bool false) rfl trivial rfl) ?_; refine s_do (o_mov (.bool false) rfl) ?_; refine s_off rfl rfl ?_; refine s_off rfl rfl ?_; refine s_off rfl rfl ?_; refine s_off rfl rfl ?_; refine s_offs rfl ?_; refine s_offs rfl ?_; refine s_offs rfl ?_; refine s_offs rfl ?_; refine s_off rfl rfl ?_; refine s_do (o_q (.bool false) rfl trivial rfl) ?_
              refine s_do (o_mov (.bool false) rfl) ?_; refine s_off rfl rfl ?_; refine s_off rfl rfl ?_; refine s_off rfl rfl ?_; refine s_off rfl rfl ?_; refine s_offs rfl ?_; refine s_offs rfl ?_; refine s_offs rfl ?_; refine s_off rfl rfl ?_; refine s_do (o_q (.bool false) rfl trivial rfl) ?_; refine s_do (o_mov (.bool false) rfl) ?_; refine w_done ?_; refine k_seq ?_; refine w_ret ?_; obtain rfl := os hf; exact r_flat ⟨trivial, trivial⟩ rfl (.refl _)
           ·refine s_lit (s := 121) (b := false) rfl (bf c309) ?_; refine s_on rfl ?_; refine s_do (o_q (.ptr 0 0 2) rfl trivial rfl) ?_; refine s_on rfl ?_; refine s_do (o_q (.str o_1.Name) rfl nle rfl) ?_; refine s_on rfl ?_; refine s_do (o_q (.bool (o_1.Name == [])) rfl trivial rfl) ?_; refine s_on rfl ?_; refine s_do (o_q (.bool (o_1.Name == [])) rfl trivial rfl) ?_; refine s_do (o_q (.bool (o_1.Name == [])) rfl trivial rfl) ?_; refine s_do (o_mov (.bool (o_1.Name == [])) rfl) ?_
            rcases oi hf with ⟨c339, hf⟩ | ⟨c339, hf⟩
            ·refine s_lit (s := 127) (b := true) rfl c339 ?_; refine s_on rfl ?_; refine s_do (o_mov (.bool row_117) rfl) ?_; refine s_on rfl ?_; refine s_do (o_mov (.bool row_117) rfl) ?_
             rcases oi hf with ⟨c340, hf⟩ | ⟨c340, hf⟩
             ·refine s_lit (s := 129) (b := true) rfl c340 ?_; refine s_off rfl rfl ?_; refine s_off rfl rfl ?_; refine s_off rfl rfl ?_; refine s_off rfl rfl ?_; refine s_on rfl ?_; refine s_do (o_q (.bool true) rfl trivial rfl) ?_; refine s_do (o_q (.bool true) rfl trivial rfl) ?_; refine s_do (o_mov (.bool true) rfl) ?_; refine s_on rfl ?_; refine s_do (o_q (.ptr 0 0 0) rfl trivial rfl) ?_; refine s_on rfl ?_; refine s_do (o_q (.int .i64 o_1.Kind) rfl nle rfl) ?_; refine s_on rfl ?_; refine s_do (o_q (.bool (o_1.Kind == 4)) rfl rfl rfl) ?_; refine s_on rfl ?_; refine s_do (o_mov (.bool (o_1.Kind == 4)) rfl) ?_
              rcases oi hf with ⟨c341, hf⟩ | ⟨c341, hf⟩
              ·refine s_lit (s := 140) (b := true) rfl c341 ?_; refine s_off rfl rfl ?_; refine s_off rfl rfl ?_; refine s_off rfl rfl ?_; refine s_off rfl rfl ?_; refine s_on rfl ?_; refine s_do (o_q (.bool true) rfl trivial rfl) ?_; refine s_do (o_q (.bool true) rfl trivial rfl) ?_; refine s_do (o_mov (.bool true) rfl) ?_; refine s_on rfl ?_; refine s_do (o_q (.ptr 0 0 0) rfl trivial rfl) ?_; refine s_on rfl ?_; refine s_do (o_q (.int .i64 o_1.Kind) rfl nle rfl) ?_; refine s_on rfl ?_; refine s_do (o_q (.bool (o_1.Kind == 2)) rfl rfl rfl) ?_; refine s_on rfl ?_; refine s_do (o_mov (.bool (o_1.Kind == 2)) rfl) ?_
               rcases oi hf with ⟨c342, hf⟩ | ⟨c342, hf⟩
               ·refine s_lit (s := 151) (b := true) rfl c342 ?_; refine s_off rfl rfl ?_; refine s_off rfl rfl ?_; refine s_off rfl rfl ?_; refine s_off rfl rfl ?_; refine s_on rfl ?_; refine s_do (o_q (.bool true) rfl trivial rfl) ?_; refine s_do (o_q (.bool true) rfl trivial rfl) ?_; refine s_do (o_mov (.bool true) rfl) ?_; refine s_on rfl ?_; refine s_do (o_q (.ptr 0 0 0) rfl trivial rfl) ?_; refine s_on rfl ?_; refine s_do (o_q (.int .i64 o_1.Kind) rfl nle rfl) ?_; refine s_on rfl ?_; refine s_do (o_q (.bool (o_1.Kind == 6)) rfl rfl rfl) ?_; refine s_on rfl ?_; refine s_do (o_mov (.bool (o_1.Kind == 6)) rfl) ?_
                rcases oi hf with ⟨c343, hf⟩ | ⟨c343, hf⟩
                ·refine s_lit (s := 162) (b := true) rfl c343 ?_; refine s_off rfl rfl ?_; refine s_off rfl rfl ?_; refine s_off rfl rfl ?_; refine s_on rfl ?_; refine s_do (o_q (.bool true) rfl trivial rfl) ?_; refine s_do (o_q (.bool true) rfl trivial rfl) ?_; refine s_do (o_mov (.bool true) rfl) ?_; refine w_done ?_; refine k_seq ?_; refine w_ret ?_; obtain rfl := os hf; exact r_flat ⟨trivial, trivial⟩ rfl (.refl _)
                ·refine s_lit (s := 162) (b := false) rfl (bf c343) ?_; refine s_on rfl ?_; refine s_do (o_q (.ptr 0 0 7) rfl trivial rfl) ?_; refine s_on rfl ?_; refine s_do (o_q (.bool o_1.Until) rfl nle rfl) ?_; refine s_on rfl ?_; refine s_do (o_q (.bool (!o_1.Until)) rfl trivial rfl) ?_; refine s_on rfl ?_; refine s_do (o_q (.bool (!o_1.Until)) rfl trivial rfl) ?_; refine s_do (o_q (.bool (!o_1.Until)) rfl trivial rfl) ?_; refine s_do (o_mov (.bool (!o_1.Until)) rfl) ?_; refine w_done ?_; refine k_seq ?_; refine w_ret ?_; obtain rfl := os hf; exact r_flat ⟨trivial, trivial⟩ rfl (.refl _)
               ·refine s_lit (s := 151) (b := false) rfl (bf c342) ?_; refine s_on rfl ?_; refine s_do (o_q (.ptr 0 0 6) rfl trivial rfl) ?_; refine s_on rfl ?_; refine s_do (o_q (.lst 1 (o_1.Columns.map AV.str)) rfl nle rfl) ?_; refine s_on rfl ?_; refine s_dof (o_len (enc := AV.str) rfl) fun hl344 => ?_; refine s_on rfl ?_; refine s_do (o_q (.bool ((o_1.Columns.length : Int) == 0)) rfl rfl rfl) ?_; refine s_on rfl ?_; refine s_do (o_q (.bool ((o_1.Columns.length : Int) == 0)) rfl trivial rfl) ?_; refine s_do (o_q (.bool ((o_1.Columns.length : Int) == 0)) rfl trivial rfl) ?_; refine s_do (o_mov (.bool ((o_1.Columns.length : Int) == 0)) rfl) ?_
                rcases oi hf with ⟨c345, hf⟩ | ⟨c345, hf⟩
                ·refine s_lit (s := 158) (b := true) rfl c345 ?_; refine s_on rfl ?_; refine s_do (o_q (.ptr 0 0 0) rfl trivial rfl) ?_; refine s_on rfl ?_; refine s_do (o_q (.int .i64 o_1.Kind) rfl nle rfl) ?_; refine s_on rfl ?_; refine s_do (o_q (.bool (o_1.Kind == 6)) rfl rfl rfl) ?_; refine s_on rfl ?_; refine s_do (o_mov (.bool (o_1.Kind == 6)) rfl) ?_
                 rcases oi hf with ⟨c346, hf⟩ | ⟨c346, hf⟩
                 ·refine s_lit (s := 162) (b := true) rfl c346 ?_; refine s_off rfl rfl ?_; refine s_off rfl rfl ?_; refine s_off rfl rfl ?_; refine s_on rfl ?_; refine s_do (o_q (.bool true) rfl trivial rfl) ?_; refine s_do (o_q (.bool true) rfl trivial rfl) ?_; refine s_do (o_mov (.bool true) rfl) ?_; refine w_done ?_; refine k_seq ?_; refine w_ret ?_; obtain rfl := os hf; exact r_flat ⟨trivial, trivial⟩ rfl (.refl _)
                 ·refine s_lit (s := 162) (b := false) rfl (bf c346) ?_; refine s_on rfl ?_; refine s_do (o_q (.ptr 0 0 7) rfl trivial rfl) ?_; refine s_on rfl ?_; refine s_do (o_q (.bool o_1.Until) rfl nle rfl) ?_; refine s_on rfl ?_; refine s_do (o_q (.bool (!o_1.Until)) rfl trivial rfl) ?_; refine s_on rfl ?_; refine s_do (o_q (.bool (!o_1.Until)) rfl trivial rfl) ?_; refine s_do (o_q (.bool (!o_1.Until)) rfl trivial rfl) ?_; refine s_do (o_mov (.bool (!o_1.Until)) rfl) ?_; refine w_done ?_; refine k_seq ?_; refine w_ret ?_; obtain rfl := os hf; exact r_flat ⟨trivial, trivial⟩ rfl (.refl _)
                ·refine s_lit (s := 158) (b := false) rfl (bf c345) ?_; refine s_off rfl rfl ?_; refine s_off rfl rfl ?_; refine s_off rfl rfl ?_; refine s_off rfl rfl ?_; refine s_offs rfl ?_; refine s_offs rfl ?_; refine s_offs rfl ?_; refine s_off rfl rfl ?_; refine s_do (o_q (.bool false) rfl trivial rfl) ?_; refine s_do (o_mov (.bool false) rfl) ?_; refine w_done ?_; refine k_seq ?_; refine w_ret ?_; obtain rfl := os hf; exact r_flat ⟨trivial, trivial⟩ rfl (.refl _)
              ·refine s_lit (s := 140) (b := false) rfl (bf c341) ?_; refine s_on rfl ?_; refine s_do (o_q (.ptr 0 0 5) rfl trivial rfl) ?_; refine s_on rfl ?_; refine s_do (o_q (.lst 3 (o_1.Muts.map encGMut)) rfl nle rfl) ?_; refine s_on rfl ?_; refine s_dof (o_len (enc := encGMut) rfl) fun hl347 => ?_; refine s_on rfl ?_; refine s_do (o_q (.bool ((o_1.Muts.length : Int) == 0)) rfl rfl rfl) ?_; refine s_on rfl ?_; refine s_do (o_q (.bool ((o_1.Muts.length : Int) == 0)) rfl trivial rfl) ?_; refine s_do (o_q (.bool ((o_1.Muts.length : Int) == 0)) rfl trivial rfl) ?_; refine s_do (o_mov (.bool ((o_1.Muts.length : Int) == 0)) rfl) ?_
               rcases oi hf with ⟨c348, hf⟩ | ⟨c348, hf⟩
               ·refine s_lit (s := 147) (b := true) rfl c348 ?_; refine s_on rfl ?_; refine s_do (o_q (.ptr 0 0 0) rfl trivial rfl) ?_; refine s_on rfl ?_; refine s_do (o_q (.int .i64 o_1.Kind) rfl nle rfl) ?_; refine s_on rfl ?_; refine s_do (o_q (.bool (o_1.Kind == 2)) rfl rfl rfl) ?_; refine s_on rfl ?_; refine s_do (o_mov (.bool (o_1.Kind == 2)) rfl) ?_
                rcases oi hf with ⟨c349, hf⟩ | ⟨c349, hf⟩
                ·refine s_lit (s := 151) (b := true) rfl c349 ?_; refine s_off rfl rfl ?_; refine s_off rfl rfl ?_; refine s_off rfl rfl ?_; refine s_off rfl rfl ?_; refine s_on rfl ?_; refine s_do (o_q (.bool true) rfl trivial rfl) ?_; refine s_do (o_q (.bool true) rfl trivial rfl) ?_; refine s_do (o_mov (.bool true) rfl) ?_; refine s_on rfl ?_; refine s_do (o_q (.ptr 0 0 0) rfl trivial rfl) ?_; refine s_on rfl ?_; refine s_do (o_q (.int .i64 o_1.Kind) rfl nle rfl) ?_; refine s_on rfl ?_; refine s_do (o_q (.bool (o_1.Kind == 6)) rfl rfl rfl) ?_; refine s_on rfl ?_; refine s_do (o_mov (.bool (o_1.Kind == 6)) rfl) ?_
                 rcases oi hf with ⟨c350, hf⟩ | ⟨c350, hf⟩
                 ·refine s_lit (s := 162) (b := true) rfl c350 ?_; refine s_off rfl rfl ?_; refine s_off rfl rfl ?_; refine s_off rfl rfl ?_; refine s_on rfl ?_; refine s_do (o_q (.bool true) rfl trivial rfl) ?_; refine s_do (o_q (.bool true) rfl trivial rfl) ?_; refine s_do (o_mov (.bool true) rfl) ?_; refine w_done ?_; refine k_seq ?_; refine w_ret ?_; obtain rfl := os hf; exact r_flat ⟨trivial, trivial⟩ rfl (.refl _)
                 ·refine s_lit (s := 162) (b := false) rfl (bf c350) ?_; refine s_on rfl ?_; refine s_do (o_q (.ptr 0 0 7) rfl trivial rfl) ?_; refine s_on rfl ?_; refine s_do (o_q (.bool o_1.Until) rfl nle rfl) ?_; refine s_on rfl ?_; refine s_do (o_q (.bool (!o_1.Until)) rfl trivial rfl) ?_; refine s_on rfl ?_; refine s_do (o_q (.bool (!o_1.Until)) rfl trivial rfl) ?_; refine s_do (o_q (.bool (!o_1.Until)) rfl trivial rfl) ?_; refine s_do (o_mov (.bool (!o_1.Until)) rfl) ?_; refine w_done ?_; refine k_seq ?_; refine w_ret ?_; obtain rfl := os hf; exact r_flat ⟨trivial, trivial⟩ rfl (.refl _)
                ·refine s_lit (s := 151) (b := false) rfl (bf c349) ?_; refine s_on rfl ?_; refine s_do (o_q (.ptr 0 0 6) rfl trivial rfl) ?_; refine s_on rfl ?_; refine s_do (o_q (.lst 1 (o_1.Columns.map AV.str)) rfl nle rfl) ?_; refine s_on rfl ?_; refine s_dof (o_len (enc := AV.str) rfl) fun hl351 => ?_; refine s_on rfl ?_; refine s_do (o_q (.bool ((o_1.Columns.length : Int) == 0)) rfl rfl rfl) ?_; refine s_on rfl ?_; refine s_do (o_q (.bool ((o_1.Columns.length : Int) == 0)) rfl trivial rfl) ?_; refine s_do (o_q (.bool ((o_1.Columns.length : Int) == 0)) rfl trivial rfl) ?_; refine s_do (o_mov (.bool ((o_1.Columns.length : Int) == 0)) rfl) ?_
                 rcases oi hf with ⟨c352, hf⟩ | ⟨c352, hf⟩
                 ·refine s_lit (s := 158) (b := true) rfl c352 ?_; refine s_on rfl ?_; refine s_do (o_q (.ptr 0 0 0) rfl trivial rfl) ?_; refine s_on rfl ?_; refine s_do (o_q (.int .i64 o_1.Kind) rfl nle rfl) ?_; refine s_on rfl ?_; refine s_do (o_q (.bool (o_1.Kind == 6)) rfl rfl rfl) ?_; refine s_on rfl ?_; refine s_do (o_mov (.bool (o_1.Kind == 6)) rfl) ?_
                  rcases oi hf with ⟨c353, hf⟩ | ⟨c353, hf⟩
                  ·refine s_lit (s := 162) (b := true) rfl c353 ?_; refine s_off rfl rfl ?_; refine s_off rfl rfl ?_; refine s_off rfl rfl ?_; refine s_on rfl ?_; refine s_do (o_q (.bool true) rfl trivial rfl) ?_; refine s_do (o_q (.bool true) rfl trivial rfl) ?_; refine s_do (o_mov (.bool true) rfl) ?_; refine w_done ?_; refine k_seq ?_; refine w_ret ?_; obtain rfl := os hf; exact r_flat ⟨trivial, trivial⟩ rfl (.refl _)
                  ·refine s_lit (s := 162) (b := false) rfl (bf c353) ?_; refine s_on rfl ?_; refine s_do (o_q (.ptr 0 0 7) rfl trivial rfl) ?_; refine s_on rfl ?_; refine s_do (o_q (.bool o_1.Until) rfl nle rfl) ?_; refine s_on rfl ?_; refine s_do (o_q (.bool (!o_1.Until)) rfl trivial rfl) ?_; refine s_on rfl ?_; refine s_do (o_q (.bool (!o_1.Until)) rfl trivial rfl) ?_; refine s_do (o_q (.bool (!o_1.Until)) rfl trivial rfl) ?_; refine s_do (o_mov (.bool (!o_1.Until)) rfl) ?_; refine w_done ?_; refine k_seq ?_; refine w_ret ?_; obtain rfl := os hf; exact r_flat ⟨trivial, trivial⟩ rfl (.refl _)
                 ·refine s_lit (s := 158) (b := false) rfl (bf c352) ?_; refine s_off rfl rfl ?_; refine s_off rfl rfl ?_; refine s_off rfl rfl ?_; refine s_off rfl rfl ?_; refine s_offs rfl ?_; refine s_offs rfl ?_; refine s_offs rfl ?_; refine s_off rfl rfl ?_; refine s_do (o_q (.bool false) rfl trivial rfl) ?_; refine s_do (o_mov (.bool false) rfl) ?_; refine w_done ?_; refine k_seq ?_; refine w_ret ?_; obtain rfl := os hf; exact r_flat ⟨trivial, trivial⟩ rfl (.refl _)
               ·refine s_lit (s := 147) (b := false) rfl (bf c348) ?_; refine s_off rfl rfl ?_; refine s_off rfl rfl ?_; refine s_off rfl rfl ?_; refine s_off rfl rfl ?_; refine s_offs rfl ?_; refine s_offs rfl ?_; refine s_offs rfl ?_; refine s_offs rfl ?_; refine s_off rfl rfl ?_; refine s_do (o_q (.bool false) rfl trivial rfl) ?_; refine s_do (o_mov (.bool false) rfl) ?_; refine s_off rfl rfl ?_; refine s_off rfl rfl ?_; refine s_off rfl rfl ?_; refine s_off rfl rfl ?_; refine s_offs rfl ?_; refine s_offs rfl ?_; refine s_offs rfl ?_; refine s_off rfl rfl ?_; refine s_do (o_q (.bool false) rfl trivial rfl) ?_
                refine s_do (o_mov (.bool false) rfl) ?_; refine w_done ?_; refine k_seq ?_; refine w_ret ?_; obtain rfl := os hf; exact r_flat ⟨trivial, trivial⟩ rfl (.refl _)
             ·refine s_lit (s := 129) (b := false) rfl (bf c340) ?_; refine s_on rfl ?_; refine s_do (o_q (.ptr 0 0 4) rfl trivial rfl) ?_; refine s_on rfl ?_; refine s_do (o_q (.lst 3 (o_1.Row.map encGSet)) rfl nle rfl) ?_; refine s_on rfl ?_; refine s_dof (o_len (enc := encGSet) rfl) fun hl354 => ?_; refine s_on rfl ?_; refine s_do (o_q (.bool ((o_1.Row.length : Int) == 0)) rfl rfl rfl) ?_; refine s_on rfl ?_; refine s_do (o_q (.bool ((o_1.Row.length : Int) == 0)) rfl trivial rfl) ?_; refine s_do (o_q (.bool ((o_1.Row.length : Int) == 0)) rfl trivial rfl) ?_; refine s_do (o_mov (.bool ((o_1.Row.length : Int) == 0)) rfl) ?_
              rcases oi hf with ⟨c355, hf⟩ | ⟨c355, hf⟩
              ·refine s_lit (s := 136) (b := true) rfl c355 ?_; refine s_on rfl ?_; refine s_do (o_q (.ptr 0 0 0) rfl trivial rfl) ?_; refine s_on rfl ?_; refine s_do (o_q (.int .i64 o_1.Kind) rfl nle rfl) ?_; refine s_on rfl ?_; refine s_do (o_q (.bool (o_1.Kind == 4)) rfl rfl rfl) ?_; refine s_on rfl ?_; refine s_do (o_mov (.bool (o_1.Kind == 4)) rfl) ?_
               rcases oi hf with ⟨c356, hf⟩ | ⟨c356, hf⟩
               ·refine s_lit (s := 140) (b := true) rfl c356 ?_; refine s_off rfl rfl ?_; refine s_off rfl rfl ?_; refine s_off rfl rfl ?_; refine s_off rfl rfl ?_; refine s_on rfl ?_; refine s_do (o_q (.bool true) rfl trivial rfl) ?_; refine s_do (o_q (.bool true) rfl trivial rfl) ?_; refine s_do (o_mov (.bool true) rfl) ?_; refine s_on rfl ?_; refine s_do (o_q (.ptr 0 0 0) rfl trivial rfl) ?_; refine s_on rfl ?_; refine s_do (o_q (.int .i64 o_1.Kind) rfl nle rfl) ?_; refine s_on rfl ?_; refine s_do (o_q (.bool (o_1.Kind == 2)) rfl rfl rfl) ?_; refine s_on rfl ?_; refine s_do (o_mov (.bool (o_1.Kind == 2)) rfl) ?_
                rcases oi hf with ⟨c357, hf⟩ | ⟨c357, hf⟩
                ·refine s_lit (s := 151) (b := true) rfl c357 ?_; refine s_off rfl rfl ?_; refine s_off rfl rfl ?_; refine s_off rfl rfl ?_; refine s_off rfl rfl ?_; refine s_on rfl ?_; refine s_do (o_q (.bool true) rfl trivial rfl) ?_; refine s_do (o_q (.bool true) rfl trivial rfl) ?_; refine s_do (o_mov (.bool true) rfl) ?_; refine s_on rfl ?_; refine s_do (o_q (.ptr 0 0 0) rfl trivial rfl) ?_; refine s_on rfl ?_; refine s_do (o_q (.int .i64 o_1.Kind) rfl nle rfl) ?_; refine s_on rfl ?_; refine s_do (o_q (.bool (o_1.Kind == 6)) rfl rfl rfl) ?_; refine s_on rfl ?_; refine s_do (o_mov (.bool (o_1.Kind == 6)) rfl) ?_
                 rcases oi hf with ⟨c358, hf⟩ | ⟨c358, hf⟩
                 ·refine s_lit (s := 162) (b := true) rfl c358 ?_; refine s_off rfl rfl ?_; refine s_off rfl rfl ?_; refine s_off rfl rfl ?_; refine s_on rfl ?_; refine s_do (o_q (.bool true) rfl trivial rfl) ?_; refine s_do (o_q (.bool true) rfl trivial rfl) ?_; refine s_do (o_mov (.bool true) rfl) ?_; refine w_done ?_; refine k_seq ?_; refine w_ret ?_; obtain rfl := os hf; exact r_flat ⟨trivial, trivial⟩ rfl (.refl _)
                 ·refine s_lit (s := 162) (b := false) rfl (bf c358) ?_; refine s_on rfl ?_; refine s_do (o_q (.ptr 0 0 7) rfl trivial rfl) ?_; refine s_on rfl ?_; refine s_do (o_q (.bool o_1.Until) rfl nle rfl) ?_; refine s_on rfl ?_; refine s_do (o_q (.bool (!o_1.Until)) rfl trivial rfl) ?_; refine s_on rfl ?_; refine s_do (o_q (.bool (!o_1.Until)) rfl trivial rfl) ?_; refine s_do (o_q (.bool (!o_1.Until)) rfl trivial rfl) ?_; refine s_do (o_mov (.bool (!o_1.Until)) rfl) ?_; refine w_done ?_; refine k_seq ?_; refine w_ret ?_; obtain rfl := os hf; exact r_flat ⟨trivial, trivial⟩ rfl (.refl _)
                ·refine s_lit (s := 151) (b := false) rfl (bf c357) ?_; refine s_on rfl ?_; refine s_do (o_q (.ptr 0 0 6) rfl trivial rfl) ?_; refine s_on rfl ?_; refine s_do (o_q (.lst 1 (o_1.Columns.map AV.str)) rfl nle rfl) ?_; refine s_on rfl ?_; refine s_dof (o_len (enc := AV.str) rfl) fun hl359 => ?_; refine s_on rfl ?_; refine s_do (o_q (.bool ((o_1.Columns.length : Int) == 0)) rfl rfl rfl) ?_; refine s_on rfl ?_; refine s_do (o_q (.bool ((o_1.Columns.length : Int) == 0)) rfl trivial rfl) ?_; refine s_do (o_q (.bool ((o_1.Columns.length : Int) == 0)) rfl trivial rfl) ?_; refine s_do (o_mov (.bool ((o_1.Columns.length : Int) == 0)) rfl) ?_
                 rcases oi hf with ⟨c360, hf⟩ | ⟨c360, hf⟩
                 ·refine s_lit (s := 158) (b := true) rfl c360 ?_; refine s_on rfl ?_; refine s_do (o_q (.ptr 0 0 0) rfl trivial rfl) ?_; refine s_on rfl ?_; refine s_do (o_q (.int .i64 o_1.Kind) rfl nle rfl) ?_; refine s_on rfl ?_; refine s_do (o_q (.bool (o_1.Kind == 6)) rfl rfl rfl) ?_; refine s_on rfl ?_; refine s_do (o_mov (.bool (o_1.Kind == 6)) rfl) ?_
                  rcases oi hf with ⟨c361, hf⟩ | ⟨c361, hf⟩
                  ·refine s_lit (s := 162) (b := true) rfl c361 ?_; refine s_off rfl rfl ?_; refine s_off rfl rfl ?_; refine s_off rfl rfl ?_; refine s_on rfl ?_; refine s_do (o_q (.bool true) rfl trivial rfl) ?_; refine s_do (o_q (.bool true) rfl trivial rfl) ?_; refine s_do (o_mov (.bool true) rfl) ?_; refine w_done ?_; refine k_seq ?_; refine w_ret ?_; obtain rfl := os hf; exact r_flat ⟨trivial, trivial⟩ rfl (.refl _)
                  ·refine s_lit (s := 162) (b := false) rfl (bf c361) ?_; refine s_on rfl ?_; refine s_do (o_q (.ptr 0 0 7) rfl trivial rfl) ?_; refine s_on rfl ?_; refine s_do (o_q (.bool o_1.Until) rfl nle rfl) ?_; refine s_on rfl ?_; refine s_do (o_q (.bool (!o_1.Until)) rfl trivial rfl) ?_; refine s_on rfl ?_; refine s_do (o_q (.bool (!o_1.Until)) rfl trivial rfl) ?_; refine s_do (o_q (.bool (!o_1.Until)) rfl trivial rfl) ?_; refine s_do (o_mov (.bool (!o_1.Until)) rfl) ?_; refine w_done ?_; refine k_seq ?_; refine w_ret ?_; obtain rfl := os hf; exact r_flat ⟨trivial, trivial⟩ rfl (.refl _)
                 ·refine s_lit (s := 158) (b := false) rfl (bf c360) ?_; refine s_off rfl rfl ?_; refine s_off rfl rfl ?_; refine s_off rfl rfl ?_; refine s_off rfl rfl ?_; refine s_offs rfl ?_; refine s_offs rfl ?_; refine s_offs rfl ?_; refine s_off rfl rfl ?_; refine s_do (o_q (.bool false) rfl trivial rfl) ?_; refine s_do (o_mov (.bool false) rfl) ?_; refine w_done ?_; refine k_seq ?_; refine w_ret ?_; obtain rfl := os hf; exact r_flat ⟨trivial, trivial⟩ rfl (.refl _)
               ·refine s_lit (s := 140) (b := false) rfl (bf c356) ?_; refine s_on rfl ?_; refine s_do (o_q (.ptr 0 0 5) rfl trivial rfl) ?_; refine s_on rfl ?_; refine s_do (o_q (.lst 3 (o_1.Muts.map encGMut)) rfl nle rfl) ?_; refine s_on rfl ?_; refine s_dof (o_len (enc := encGMut) rfl) fun hl362 => ?_; refine s_on rfl ?_; refine s_do (o_q (.bool ((o_1.Muts.length : Int) == 0)) rfl rfl rfl) ?_; refine s_on rfl ?_; refine s_do (o_q (.bool ((o_1.Muts.length : Int) == 0)) rfl trivial rfl) ?_; refine s_do (o_q (.bool ((o_1.Muts.length : Int) == 0)) rfl trivial rfl) ?_; refine s_do (o_mov (.bool ((o_1.Muts.length : Int) == 0)) rfl) ?_
                rcases oi hf with ⟨c363, hf⟩ | ⟨c363, hf⟩
                ·refine s_lit (s := 147) (b := true) rfl c363 ?_; refine s_on rfl ?_; refine s_do (o_q (.ptr 0 0 0) rfl trivial rfl) ?_; refine s_on rfl ?_; refine s_do (o_q (.int .i64 o_1.Kind) rfl nle rfl) ?_; refine s_on rfl ?_; refine s_do (o_q (.bool (o_1.Kind == 2)) rfl rfl rfl) ?_; refine s_on rfl ?_; refine s_do (o_mov (.bool (o_1.Kind == 2)) rfl) ?_
                 rcases oi hf with ⟨c364, hf⟩ | ⟨c364, hf⟩
                 ·refine s_lit (s := 151) (b := true) rfl c364 ?_; refine s_off rfl rfl ?_; refine s_off rfl rfl ?_; refine s_off rfl rfl ?_; refine s_off rfl rfl ?_; refine s_on rfl ?_; refine s_do (o_q (.bool true) rfl trivial rfl) ?_; refine s_do (o_q (.bool true) rfl trivial rfl) ?_; refine s_do (o_mov (.bool true) rfl) ?_; refine s_on rfl ?_; refine s_do (o_q (.ptr 0 0 0) rfl trivial rfl) ?_; refine s_on rfl ?_; refine s_do (o_q (.int .i64 o_1.Kind) rfl nle rfl) ?_; refine s_on rfl ?_; refine s_do (o_q (.bool (o_1.Kind == 6)) rfl rfl rfl) ?_; refine s_on rfl ?_; refine s_do (o_mov (.bool (o_1.Kind == 6)) rfl) ?_
                  rcases oi hf with ⟨c365, hf⟩ | ⟨c365, hf⟩
                  ·refine s_lit (s := 162) (b := true) rfl c365 ?_; refine s_off rfl rfl ?_; refine s_off rfl rfl ?_; refine s_off rfl rfl ?_; refine s_on rfl ?_; refine s_do (o_q (.bool true) rfl trivial rfl) ?_; refine s_do (o_q (.bool true) rfl trivial rfl) ?_; refine s_do (o_mov (.bool true) rfl) ?_; refine w_done ?_; refine k_seq ?_; refine w_ret ?_; obtain rfl := os hf; exact r_flat ⟨trivial, trivial⟩ rfl (.refl _)
                  ·refine s_lit (s := 162) (b := false) rfl (bf c365) ?_; refine s_on rfl ?_; refine s_do (o_q (.ptr 0 0 7) rfl trivial rfl) ?_; refine s_on rfl ?_; refine s_do (o_q (.bool o_1.Until) rfl nle rfl) ?_; refine s_on rfl ?_; refine s_do (o_q (.bool (!o_1.Until)) rfl trivial rfl) ?_; refine s_on rfl ?_; refine s_do (o_q (.bool (!o_1.Until)) rfl trivial rfl) ?_; refine s_do (o_q (.bool (!o_1.Until)) rfl trivial rfl) ?_; refine s_do (o_mov (.bool (!o_1.Until)) rfl) ?_; refine w_done ?_; refine k_seq ?_; refine w_ret ?_; obtain rfl := os hf; exact r_flat ⟨trivial, trivial⟩ rfl (.refl _)
                 ·refine s_lit (s := 151) (b := false) rfl (bf c364) ?_; refine s_on rfl ?_; refine s_do (o_q (.ptr 0 0 6) rfl trivial rfl) ?_; refine s_on rfl ?_; refine s_do (o_q (.lst 1 (o_1.Columns.map AV.str)) rfl nle rfl) ?_; refine s_on rfl ?_; refine s_dof (o_len (enc := AV.str) rfl) fun hl366 => ?_; refine s_on rfl ?_; refine s_do (o_q (.bool ((o_1.Columns.length : Int) == 0)) rfl rfl rfl) ?_; refine s_on rfl ?_; refine s_do (o_q (.bool ((o_1.Columns.length : Int) == 0)) rfl trivial rfl) ?_; refine s_do (o_q (.bool ((o_1.Columns.length : Int) == 0)) rfl trivial rfl) ?_; refine s_do (o_mov (.bool ((o_1.Columns.length : Int) == 0)) rfl) ?_
                  rcases oi hf with ⟨c367, hf⟩ | ⟨c367, hf⟩
                  ·refine s_lit (s := 158) (b := true) rfl c367 ?_; refine s_on rfl ?_; refine s_do (o_q (.ptr 0 0 0) rfl trivial rfl) ?_; refine s_on rfl ?_; refine s_do (o_q (.int .i64 o_1.Kind) rfl nle rfl) ?_; refine s_on rfl ?_; refine s_do (o_q (.bool (o_1.Kind == 6)) rfl rfl rfl) ?_; refine s_on rfl ?_; refine s_do (o_mov (.bool (o_1.Kind == 6)) rfl) ?_
                   rcases oi hf with ⟨c368, hf⟩ | ⟨c368, hf⟩
                   ·refine s_lit (s := 162) (b := true) rfl c368 ?_; refine s_off rfl rfl ?_; refine s_off rfl rfl ?_; refine s_off rfl rfl ?_; refine s_on rfl ?_; refine s_do (o_q (.bool true) rfl trivial rfl) ?_; refine s_do (o_q (.bool true) rfl trivial rfl) ?_; refine s_do (o_mov (.bool true) rfl) ?_; refine w_done ?_; refine k_seq ?_; refine w_ret ?_; obtain rfl := os hf; exact r_flat ⟨trivial, trivial⟩ rfl (.refl _)
                   ·refine s_lit (s := 162) (b := false) rfl (bf c368) ?_; refine s_on rfl ?_; refine s_do (o_q (.ptr 0 0 7) rfl trivial rfl) ?_; refine s_on rfl ?_; refine s_do (o_q (.bool o_1.Until) rfl nle rfl) ?_; refine s_on rfl ?_; refine s_do (o_q (.bool (!o_1.Until)) rfl trivial rfl) ?_; refine s_on rfl ?_; refine s_do (o_q (.bool (!o_1.Until)) rfl trivial rfl) ?_; refine s_do (o_q (.bool (!o_1.Until)) rfl trivial rfl) ?_; refine s_do (o_mov (.bool (!o_1.Until)) rfl) ?_; refine w_done ?_; refine k_seq ?_; refine w_ret ?_; obtain rfl := os hf; exact r_flat ⟨trivial, trivial⟩ rfl (.refl _)
                  ·refine s_lit (s := 158) (b := false) rfl (bf c367) ?_; refine s_off rfl rfl ?_; refine s_off rfl rfl ?_; refine s_off rfl rfl ?_; refine s_off rfl rfl ?_; refine s_offs rfl ?_; refine s_offs rfl ?_; refine s_offs rfl ?_; refine s_off rfl rfl ?_; refine s_do (o_q (.bool false) rfl trivial rfl) ?_; refine s_do (o_mov (.bool false) rfl) ?_; refine w_done ?_; refine k_seq ?_; refine w_ret ?_; obtain rfl := os hf; exact r_flat ⟨trivial, trivial⟩ rfl (.refl _)
                ·refine s_lit (s := 147) (b := false) rfl (bf c363) ?_; refine s_off rfl rfl ?_; refine s_off rfl rfl ?_; refine s_off rfl rfl ?_; refine s_off rfl rfl ?_; refine s_offs rfl ?_; refine s_offs rfl ?_; refine s_offs rfl ?_; refine s_offs rfl ?_; refine s_off rfl rfl ?_; refine s_do (o_q (.bool false) rfl trivial rfl) ?_; refine s_do (o_mov (.bool false) rfl) ?_; refine s_off rfl rfl ?_; refine s_off rfl rfl ?_; refine s_off rfl rfl ?_; refine s_off rfl rfl ?_; refine s_offs rfl ?_; refine s_offs rfl ?_; refine s_offs rfl ?_; refine s_off rfl rfl ?_; refine s_do (o_q (.bool false) rfl trivial rfl) ?_
                 refine s_do (o_mov (.bool false) rfl) ?_; refine w_done ?_; refine k_seq ?_; refine w_ret ?_; obtain rfl := os hf; exact r_flat ⟨trivial, trivial⟩ rfl (.refl _)
              ·refine s_lit (s := 136) (b := false) rfl (bf c355) ?_; refine s_off rfl rfl ?_; refine s_off rfl rfl ?_; refine s_off rfl rfl ?_; refine s_off rfl rfl ?_; refine s_offs rfl ?_; refine s_offs rfl ?_; refine s_offs rfl ?_; refine s_offs rfl ?_; refine s_off rfl rfl ?_; refine s_do (o_q (.bool false) rfl trivial rfl) ?_; refine s_do (o_mov (.bool false) rfl) ?_; refine s_off rfl rfl ?_; refine s_off rfl rfl ?_; refine s_off rfl rfl ?_; refine s_off rfl rfl ?_; refine s_offs rfl ?_; refine s_offs rfl ?_; refine s_offs rfl ?_; refine s_offs rfl ?_; refine s_off rfl rfl ?_; refine s_do (o_q (.bool false) rfl trivial rfl) ?_
               refine s_do (o_mov (.bool false) rfl) ?_; refine s_off rfl rfl ?_; refine s_off rfl rfl ?_; refine s_off rfl rfl ?_; refine s_off rfl rfl ?_; refine s_offs rfl ?_; refine s_offs rfl ?_; refine s_offs rfl ?_; refine s_off rfl rfl ?_; refine s_do (o_q (.bool false) rfl trivial rfl) ?_; refine s_do (o_mov (.bool false) rfl) ?_; refine w_done ?_; refine k_seq ?_; refine w_ret ?_; obtain rfl := os hf; exact r_flat ⟨trivial, trivial⟩ rfl (.refl _)
            ·refine s_lit (s := 127) (b := false) rfl (bf c339) ?_; refine s_off rfl rfl ?_; refine s_off rfl rfl ?_; refine s_offs rfl ?_; refine s_offs rfl ?_; refine s_offs rfl ?_; refine s_offs rfl ?_; refine s_off rfl rfl ?_; refine s_do (o_q (.bool false) rfl trivial rfl) ?_; refine s_do (o_mov (.bool false) rfl) ?_; refine s_off rfl rfl ?_; refine s_off rfl rfl ?_; refine s_off rfl rfl ?_; refine s_off rfl rfl ?_; refine s_offs rfl ?_; refine s_offs rfl ?_; refine s_offs rfl ?_; refine s_offs rfl ?_; refine s_off rfl rfl ?_; refine s_do (o_q (.bool false) rfl trivial rfl) ?_; refine s_do (o_mov (.bool false) rfl) ?_
             refine s_off rfl rfl ?_; refine s_off rfl rfl ?_; refine s_off rfl rfl ?_; refine s_off rfl rfl ?_; refine s_offs rfl ?_; refine s_offs rfl ?_; refine s_offs rfl ?_; refine s_offs rfl ?_; refine s_off rfl rfl ?_; refine s_do (o_q (.bool false) rfl trivial rfl) ?_; refine s_do (o_mov (.bool false) rfl) ?_; refine s_off rfl rfl ?_; refine s_off rfl rfl ?_; refine s_off rfl rfl ?_; refine s_off rfl rfl ?_; refine s_offs rfl ?_; refine s_offs rfl ?_; refine s_offs rfl ?_; refine s_off rfl rfl ?_; refine s_do (o_q (.bool false) rfl trivial rfl) ?_; refine s_do (o_mov (.bool false) rfl) ?_; refine w_done ?_
             refine k_seq ?_; refine w_ret ?_; obtain rfl := os hf; exact r_flat ⟨trivial, trivial⟩ rfl (.refl _)
          ·refine s_lit (s := 119) (b := false) rfl (bf c308) ?_; refine s_off rfl rfl ?_; refine s_off rfl rfl ?_; refine s_offs rfl ?_; refine s_offs rfl ?_; refine s_offs rfl ?_; refine s_off rfl rfl ?_; refine s_do (o_q (.bool false) rfl trivial rfl) ?_; refine s_do (o_mov (.bool false) rfl) ?_; refine s_off rfl rfl ?_; refine s_off rfl rfl ?_; refine s_offs rfl ?_; refine s_offs rfl ?_; refine s_offs rfl ?_; refine s_offs rfl ?_; refine s_off rfl rfl ?_; refine s_do (o_q (.bool false) rfl trivial rfl) ?_; refine s_do (o_mov (.bool false) rfl) ?_; refine s_off rfl rfl ?_; refine s_off rfl rfl ?_; refine s_off rfl rfl ?_
           refine s_off rfl rfl ?_; refine s_offs rfl ?_; refine s_offs rfl ?_; refine s_offs rfl ?_; refine s_offs rfl ?_; refine s_off rfl rfl ?_; refine s_do (o_q (.bool false) rfl trivial rfl) ?_; refine s_do (o_mov (.bool false) rfl) ?_; refine s_off rfl rfl ?_; refine s_off rfl rfl ?_; refine s_off rfl rfl ?_; refine s_off rfl rfl ?_; refine s_offs rfl ?_; refine s_offs rfl ?_; refine s_offs rfl ?_; refine s_offs rfl ?_; refine s_off rfl rfl ?_; refine s_do (o_q (.bool false) rfl trivial rfl) ?_; refine s_do (o_mov (.bool false) rfl) ?_; refine s_off rfl rfl ?_; refine s_off rfl rfl ?_; refine s_off rfl rfl ?_
           refine s_off rfl rfl ?_; refine s_offs rfl ?_; refine s_offs rfl ?_; refine s_offs rfl ?_; refine s_off rfl rfl ?_; refine s_do (o_q (.bool false) rfl trivial rfl) ?_; refine s_do (o_mov (.bool false) rfl) ?_; refine w_done ?_; refine k_seq ?_; refine w_ret ?_; obtain rfl := os hf; exact r_flat ⟨trivial, trivial⟩ rfl (.refl _)
        ·refine s_lit (s := 110) (b := false) rfl (bf c245) ?_; refine s_off rfl rfl ?_; refine s_off rfl rfl ?_; refine s_offs rfl ?_; refine s_offs rfl ?_; refine s_offs rfl ?_; refine s_offs rfl ?_; refine s_off rfl rfl ?_; refine s_do (o_q (.bool false) rfl trivial rfl) ?_; refine s_do (o_mov (.bool false) rfl) ?_; refine s_off rfl rfl ?_; refine s_off rfl rfl ?_; refine s_offs rfl ?_; refine s_offs rfl ?_; refine s_offs rfl ?_; refine s_off rfl rfl ?_; refine s_do (o_q (.bool false) rfl trivial rfl) ?_; refine s_do (o_mov (.bool false) rfl) ?_; refine s_off rfl rfl ?_; refine s_off rfl rfl ?_; refine s_offs rfl ?_
         refine s_offs rfl ?_; refine s_offs rfl ?_; refine s_offs rfl ?_; refine s_off rfl rfl ?_; refine s_do (o_q (.bool false) rfl trivial rfl) ?_; refine s_do (o_mov (.bool false) rfl) ?_; refine s_off rfl rfl ?_; refine s_off rfl rfl ?_; refine s_off rfl rfl ?_; refine s_off rfl rfl ?_; refine s_offs rfl ?_; refine s_offs rfl ?_; refine s_offs rfl ?_; refine s_offs rfl ?_; refine s_off rfl rfl ?_; refine s_do (o_q (.bool false) rfl trivial rfl) ?_; refine s_do (o_mov (.bool false) rfl) ?_; refine s_off rfl rfl ?_; refine s_off rfl rfl ?_; refine s_off rfl rfl ?_; refine s_off rfl rfl ?_; refine s_offs rfl ?_
         refine s_offs rfl ?_; refine s_offs rfl ?_; refine s_offs rfl ?_; refine s_off rfl rfl ?_; refine s_do (o_q (.bool false) rfl trivial rfl) ?_; refine s_do (o_mov (.bool false) rfl) ?_; refine s_off rfl rfl ?_; refine s_off rfl rfl ?_; refine s_off rfl rfl ?_; refine s_off rfl rfl ?_; refine s_offs rfl ?_; refine s_offs rfl ?_; refine s_offs rfl ?_; refine s_off rfl rfl ?_; refine s_do (o_q (.bool false) rfl trivial rfl) ?_; refine s_do (o_mov (.bool false) rfl) ?_; refine w_done ?_; refine k_seq ?_; refine w_ret ?_; obtain rfl := os hf; exact r_flat ⟨trivial, trivial⟩ rfl (.refl _)

end Go.R
