/- Walks. -/
import Derived.Test.YthejoafcjkoahaaGreatOC3
set_option linter.all false
namespace Go.R
open Go Go.Proofs
set_option linter.unusedVariables false
set_option linter.unusedSimpArgs false
set_option maxHeartbeats 8000000
/- (impl.Op).isUnused -/
def c86:ACode :=
 (.seq (.reg (tq 1 (.box 8 (.t 0)) (tm 2 (.c (.bool false)) .done)))
 (.seq (.reg (tq 10 (.faddr 1 (.t 1)) (tq 11 (.load 1 false (.t 10)) (tq 12 (.bin .eql (.t 11) (.c (.str []))) (tq 13 (.faddr 2 (.t 1)) (tq 14 (.load 1 false (.t 13)) (tq 15 (.bin .eql (.t 14) (.c (.str []))) (tq 16 (.faddr 3 (.t 1)) (tq 17 (.load 1 false (.t 16)) (tq 18 (.len (.t 17)) (tq 19 (.bin .eql (.t 18) (.c (.int .i64 0))) (tq 20 (.faddr 4 (.t 1)) (tq 21 (.load 1 false (.t 20)) (tq 22 (.len (.t 21)) (tq 23 (.bin .eql (.t 22) (.c (.int .i64 0))) (tm 3 (.t 12) (tm 4 (.t 15) (tm 5 (.t 19) (tm 6 (.t 23) .done)))))))))))))))))))
 (.seq (.reg (tq 24 (.faddr 5 (.t 1)) (tq 25 (.load 1 false (.t 24)) (tq 26 (.len (.t 25)) (tq 27 (.bin .eql (.t 26) (.c (.int .i64 0))) (tq 28 (.faddr 6 (.t 1)) (tq 29 (.load 1 false (.t 28)) (tq 30 (.len (.t 29)) (tq 31 (.bin .eql (.t 30) (.c (.int .i64 0))) (tq 32 (.faddr 7 (.t 1)) (tq 33 (.load 1 false (.t 32)) (tq 34 (.not (.t 33)) (tm 7 (.t 27) (tm 8 (.t 31) (tm 9 (.t 34) .done)))))))))))))))
 (.seq (.seq (.reg (tq 35 (.faddr 0 (.t 1)) (tq 36 (.load 1 false (.t 35)) .done)))
 (.block 0 (.seq (.reg (tq 38 (.bin .eql (.t 36) (.c (.int .i64 1))) (tm 37 (.t 38) .done)))
 (.cond (.t 37) (.seq (.reg (tm 39 (.t 5) (tm 40 (.t 39) (tg 41 40 true (.mov (.t 7)) (tq 42 (.pick (.t 40) (.t 41) (.c (.bool false))) (tm 43 (.t 42) (tg 44 43 true (.mov (.t 8)) (tq 45 (.pick (.t 43) (.t 44) (.c (.bool false))) (tm 46 (.t 45) (tg 47 46 true (.mov (.t 9)) (tq 48 (.pick (.t 46) (.t 47) (.c (.bool false))) (tm 2 (.t 48) .done))))))))))))
 .ret)
 (.seq (.reg (tq 50 (.bin .eql (.t 36) (.c (.int .i64 2))) (tm 49 (.t 50) .done)))
 (.cond (.t 49) (.seq (.reg (tm 51 (.t 4) (tm 52 (.t 51) (tg 53 52 true (.mov (.t 6)) (tq 54 (.pick (.t 52) (.t 53) (.c (.bool false))) (tm 55 (.t 54) (tg 56 55 true (.mov (.t 7)) (tq 57 (.pick (.t 55) (.t 56) (.c (.bool false))) (tm 58 (.t 57) (tg 59 58 true (.mov (.t 9)) (tq 60 (.pick (.t 58) (.t 59) (.c (.bool false))) (tm 2 (.t 60) .done))))))))))))
 .ret)
 (.seq (.reg (tq 62 (.bin .eql (.t 36) (.c (.int .i64 3))) (tm 61 (.t 62) .done)))
 (.cond (.t 61) (.seq (.reg (tm 63 (.t 4) (tm 64 (.t 63) (tg 65 64 true (.mov (.t 7)) (tq 66 (.pick (.t 64) (.t 65) (.c (.bool false))) (tm 67 (.t 66) (tg 68 67 true (.mov (.t 8)) (tq 69 (.pick (.t 67) (.t 68) (.c (.bool false))) (tm 70 (.t 69) (tg 71 70 true (.mov (.t 9)) (tq 72 (.pick (.t 70) (.t 71) (.c (.bool false))) (tm 2 (.t 72) .done))))))))))))
 .ret)
 (.seq (.reg (tq 74 (.bin .eql (.t 36) (.c (.int .i64 4))) (tm 73 (.t 74) .done)))
 (.cond (.t 73) (.seq (.reg (tm 75 (.t 4) (tm 76 (.t 75) (tg 77 76 true (.mov (.t 6)) (tq 78 (.pick (.t 76) (.t 77) (.c (.bool false))) (tm 79 (.t 78) (tg 80 79 true (.mov (.t 8)) (tq 81 (.pick (.t 79) (.t 80) (.c (.bool false))) (tm 82 (.t 81) (tg 83 82 true (.mov (.t 9)) (tq 84 (.pick (.t 82) (.t 83) (.c (.bool false))) (tm 2 (.t 84) .done))))))))))))
 .ret)
 (.seq (.reg (tq 86 (.bin .eql (.t 36) (.c (.int .i64 5))) (tm 85 (.t 86) .done)))
 (.cond (.t 85) (.seq (.reg (tm 87 (.t 4) (tm 88 (.t 87) (tg 89 88 true (.mov (.t 6)) (tq 90 (.pick (.t 88) (.t 89) (.c (.bool false))) (tm 91 (.t 90) (tg 92 91 true (.mov (.t 7)) (tq 93 (.pick (.t 91) (.t 92) (.c (.bool false))) (tm 94 (.t 93) (tg 95 94 true (.mov (.t 8)) (tq 96 (.pick (.t 94) (.t 95) (.c (.bool false))) (tm 97 (.t 96) (tg 98 97 true (.mov (.t 9)) (tq 99 (.pick (.t 97) (.t 98) (.c (.bool false))) (tm 2 (.t 99) .done)))))))))))))))
 .ret)
 (.seq (.reg (tq 101 (.bin .eql (.t 36) (.c (.int .i64 6))) (tm 100 (.t 101) .done)))
 (.cond (.t 100) (.seq (.reg (tm 102 (.t 4) (tm 103 (.t 102) (tg 104 103 true (.mov (.t 7)) (tq 105 (.pick (.t 103) (.t 104) (.c (.bool false))) (tm 106 (.t 105) (tg 107 106 true (.mov (.t 8)) (tq 108 (.pick (.t 106) (.t 107) (.c (.bool false))) (tm 2 (.t 108) .done)))))))))
 .ret)
 (.seq (.seq (.reg (tq 110 (.bin .eql (.t 36) (.c (.int .i64 7))) (tm 109 (.t 110) .done)))
 (.cond (.t 109) .skip
 (.reg (tq 111 (.bin .eql (.t 36) (.c (.int .i64 8))) (tm 109 (.t 111) .done)))))
 (.cut (.cond (.t 109) (.seq (.reg (tm 112 (.t 3) (tm 113 (.t 112) (tg 114 113 true (.mov (.t 4)) (tq 115 (.pick (.t 113) (.t 114) (.c (.bool false))) (tm 116 (.t 115) (tg 117 116 true (.mov (.t 5)) (tq 118 (.pick (.t 116) (.t 117) (.c (.bool false))) (tm 119 (.t 118) (tg 120 119 true (.mov (.t 6)) (tq 121 (.pick (.t 119) (.t 120) (.c (.bool false))) (tm 122 (.t 121) (tg 123 122 true (.mov (.t 7)) (tq 124 (.pick (.t 122) (.t 123) (.c (.bool false))) (tm 125 (.t 124) (tg 126 125 true (.mov (.t 8)) (tq 127 (.pick (.t 125) (.t 126) (.c (.bool false))) (tm 128 (.t 127) (tg 129 128 true (.mov (.t 9)) (tq 130 (.pick (.t 128) (.t 129) (.c (.bool false))) (tm 2 (.t 130) .done)))))))))))))))))))))
 .ret)
 (.seq (.seq (.reg (tq 132 (.bin .eql (.t 36) (.c (.int .i64 9))) (tm 131 (.t 132) .done)))
 (.cond (.t 131) .skip
 (.reg (tq 133 (.bin .eql (.t 36) (.c (.int .i64 10))) (tm 131 (.t 133) .done)))))
 (.cut (.cond (.t 131) (.seq (.reg (tm 134 (.t 3) (tm 135 (.t 134) (tg 136 135 true (.mov (.t 5)) (tq 137 (.pick (.t 135) (.t 136) (.c (.bool false))) (tm 138 (.t 137) (tg 139 138 true (.mov (.t 6)) (tq 140 (.pick (.t 138) (.t 139) (.c (.bool false))) (tm 141 (.t 140) (tg 142 141 true (.mov (.t 7)) (tq 143 (.pick (.t 141) (.t 142) (.c (.bool false))) (tm 144 (.t 143) (tg 145 144 true (.mov (.t 8)) (tq 146 (.pick (.t 144) (.t 145) (.c (.bool false))) (tm 147 (.t 146) (tg 148 147 true (.mov (.t 9)) (tq 149 (.pick (.t 147) (.t 148) (.c (.bool false))) (tm 2 (.t 149) .done))))))))))))))))))
 .ret)
 .skip))))))))))))))))))))
 (.seq (.reg (tm 2 (.c (.bool false)) .done))
 .ret)))))
theorem fc86:fcomp Tryz.prog Tryz.f86 = some (c86.erase,[.mov (.t 2)],150):=by kernel_rfl
def impl_Op_isUnused (o_1:GOp):Option Bool :=
    if (o_1.Kind == 1) then
    if ((o_1.Where.length:Int) == 0) then
    if ((o_1.Muts.length:Int) == 0) then
    if ((o_1.Columns.length:Int) == 0) then
    some (!o_1.Until)
    else
    some false
    else
    some false
    else
    some false
    else
    if (o_1.Kind == 2) then
    if (o_1.Name == []) then
    if ((o_1.Row.length:Int) == 0) then
    if ((o_1.Muts.length:Int) == 0) then
    some (!o_1.Until)
    else
    some false
    else
    some false
    else
    some false
    else
    if (o_1.Kind == 3) then
    if (o_1.Name == []) then
    if ((o_1.Muts.length:Int) == 0) then
    if ((o_1.Columns.length:Int) == 0) then
    some (!o_1.Until)
    else
    some false
    else
    some false
    else
    some false
    else
    if (o_1.Kind == 4) then
    if (o_1.Name == []) then
    if ((o_1.Row.length:Int) == 0) then
    if ((o_1.Columns.length:Int) == 0) then
    some (!o_1.Until)
    else
    some false
    else
    some false
    else
    some false
    else
    if (o_1.Kind == 5) then
    some (bif (bif (bif (bif (o_1.Name == []) then ((o_1.Row.length:Int) == 0) else false) then ((o_1.Muts.length:Int) == 0) else false) then ((o_1.Columns.length:Int) == 0) else false) then (!o_1.Until) else false)
    else
    if (o_1.Kind == 6) then
    if (o_1.Name == []) then
    if ((o_1.Muts.length:Int) == 0) then
    some ((o_1.Columns.length:Int) == 0)
    else
    some false
    else
    some false
    else
    ((if (o_1.Kind == 7) then
    some true
    else
    some (o_1.Kind == 8):Option Bool)).bind fun s109_27 =>
    if s109_27 then
    some (bif (bif (bif (bif (bif (bif (o_1.Table == []) then (o_1.Name == []) else false) then ((o_1.Where.length:Int) == 0) else false) then ((o_1.Row.length:Int) == 0) else false) then ((o_1.Muts.length:Int) == 0) else false) then ((o_1.Columns.length:Int) == 0) else false) then (!o_1.Until) else false)
    else
    ((if (o_1.Kind == 9) then
    some true
    else
    some (o_1.Kind == 10):Option Bool)).bind fun s131_32 =>
    if s131_32 then
    some (bif (bif (bif (bif (bif (o_1.Table == []) then ((o_1.Where.length:Int) == 0) else false) then ((o_1.Row.length:Int) == 0) else false) then ((o_1.Muts.length:Int) == 0) else false) then ((o_1.Columns.length:Int) == 0) else false) then (!o_1.Until) else false)
    else
    some false
theorem w_impl_Op_isUnused (o_1:GOp) (r:Bool) (hf:impl_Op_isUnused o_1 = some r):CallOK Tryz.prog 86 .flat [(encGOp o_1)] (.bool r):=by
 refine CallOK.of_awp mixed Tryz.func86 fc86 nle ?_;rw [argT_eq];unfold impl_Op_isUnused at hf;unfold c86;refine (show awp Tryz.prog false 0 _ (ofL [(0,(encGOp o_1))]) [] _ from ?_);refine sr<|s_do (o_box (j:=0) (c:=(.agg [(.int .i64 o_1.Kind),(.str o_1.Table),(.str o_1.Name),(.lst 3 (o_1.Where.map encGCond)),(.lst 3 (o_1.Row.map encGSet)),(.lst 3 (o_1.Muts.map encGMut)),(.lst 1 (o_1.Columns.map AV.str)),(.bool o_1.Until)])) rfl trivial rfl rfl)<|s_mov (.bool false) rfl<|dk<|sr<|s_q (.ptr 0 0 1) rfl trivial rfl<|s_q (.str o_1.Table) rfl nle rfl<|s_q (.bool (o_1.Table == [])) rfl trivial rfl<|s_q (.ptr 0 0 2) rfl trivial rfl<|s_q (.str o_1.Name) rfl nle rfl<|?_
 refine s_q (.bool (o_1.Name == [])) rfl trivial rfl<|s_q (.ptr 0 0 3) rfl trivial rfl<|s_q (.lst 3 (o_1.Where.map encGCond)) rfl nle rfl<|s_dof (o_len (enc:=encGCond) rfl) fun hl2 => s_q (.bool ((o_1.Where.length:Int) == 0)) rfl rfl rfl<|s_q (.ptr 0 0 4) rfl trivial rfl<|s_q (.lst 3 (o_1.Row.map encGSet)) rfl nle rfl<|s_dof (o_len (enc:=encGSet) rfl) fun hl3 => s_q (.bool ((o_1.Row.length:Int) == 0)) rfl rfl rfl<|s_mov (.bool (o_1.Table == [])) rfl<|s_mov (.bool (o_1.Name == [])) rfl<|s_mov (.bool ((o_1.Where.length:Int) == 0)) rfl<|s_mov (.bool ((o_1.Row.length:Int) == 0)) rfl<|dk<|sr<|s_q (.ptr 0 0 5) rfl trivial rfl<|s_q (.lst 3 (o_1.Muts.map encGMut)) rfl nle rfl<|?_
 refine s_dof (o_len (enc:=encGMut) rfl) fun hl4 => s_q (.bool ((o_1.Muts.length:Int) == 0)) rfl rfl rfl<|s_q (.ptr 0 0 6) rfl trivial rfl<|s_q (.lst 1 (o_1.Columns.map AV.str)) rfl nle rfl<|s_dof (o_len (enc:=AV.str) rfl) fun hl5 => s_q (.bool ((o_1.Columns.length:Int) == 0)) rfl rfl rfl<|s_q (.ptr 0 0 7) rfl trivial rfl<|s_q (.bool o_1.Until) rfl nle rfl<|s_q (.bool (!o_1.Until)) rfl trivial rfl<|s_mov (.bool ((o_1.Muts.length:Int) == 0)) rfl<|s_mov (.bool ((o_1.Columns.length:Int) == 0)) rfl<|s_mov (.bool (!o_1.Until)) rfl<|dk<|awp_seq<|sr<|s_q (.ptr 0 0 0) rfl trivial rfl<|s_q (.int .i64 o_1.Kind) rfl nle rfl<|dk<|?_
 refine w_blk<|sr<|s_q (.bool (o_1.Kind == 1)) rfl rfl rfl<|s_mov (.bool (o_1.Kind == 1)) rfl<|dk<|?_
 rcases oi hf with ⟨c6,hf⟩ | ⟨c6,hf⟩
 ·refine w_condt rfl c6<|sr<|?_
  rcases oi hf with ⟨c7,hf⟩ | ⟨c7,hf⟩
  ·rcases oi hf with ⟨c8,hf⟩ | ⟨c8,hf⟩
   ·rcases oi hf with ⟨c9,hf⟩ | ⟨c9,hf⟩
    ·refine s_mov (.bool ((o_1.Where.length:Int) == 0)) rfl<|s_mov (.bool ((o_1.Where.length:Int) == 0)) rfl<|s_lit (s:=40) (b:=true) rfl c7<|s_on rfl<|s_mov (.bool ((o_1.Muts.length:Int) == 0)) rfl<|s_q (.bool ((o_1.Muts.length:Int) == 0)) rfl trivial rfl<|s_mov (.bool ((o_1.Muts.length:Int) == 0)) rfl<|s_lit (s:=43) (b:=true) rfl c8<|s_on rfl<|s_mov (.bool ((o_1.Columns.length:Int) == 0)) rfl<|s_q (.bool ((o_1.Columns.length:Int) == 0)) rfl trivial rfl<|s_mov (.bool ((o_1.Columns.length:Int) == 0)) rfl<|s_lit (s:=46) (b:=true) rfl c9<|s_on rfl<|s_mov (.bool (!o_1.Until)) rfl<|s_q (.bool (!o_1.Until)) rfl trivial rfl<|s_mov (.bool (!o_1.Until)) rfl<|?_
     refine dk<|w_ret<|?_;obtain rfl:=os hf;exact r_flat ⟨trivial,trivial⟩ rfl (.refl _)
    ·refine s_mov (.bool ((o_1.Where.length:Int) == 0)) rfl<|s_mov (.bool ((o_1.Where.length:Int) == 0)) rfl<|s_lit (s:=40) (b:=true) rfl c7<|s_on rfl<|s_mov (.bool ((o_1.Muts.length:Int) == 0)) rfl<|s_q (.bool ((o_1.Muts.length:Int) == 0)) rfl trivial rfl<|s_mov (.bool ((o_1.Muts.length:Int) == 0)) rfl<|s_lit (s:=43) (b:=true) rfl c8<|s_on rfl<|s_mov (.bool ((o_1.Columns.length:Int) == 0)) rfl<|s_q (.bool ((o_1.Columns.length:Int) == 0)) rfl trivial rfl<|s_mov (.bool ((o_1.Columns.length:Int) == 0)) rfl<|s_lit (s:=46) (b:=false) rfl (bf c9)<|s_off rfl rfl<|s_q (.bool false) rfl trivial rfl<|s_mov (.bool false) rfl<|dk<|w_ret<|?_;obtain rfl:=os hf
     exact r_flat ⟨trivial,trivial⟩ rfl (.refl _)
   ·refine s_mov (.bool ((o_1.Where.length:Int) == 0)) rfl<|s_mov (.bool ((o_1.Where.length:Int) == 0)) rfl<|s_lit (s:=40) (b:=true) rfl c7<|s_on rfl<|s_mov (.bool ((o_1.Muts.length:Int) == 0)) rfl<|s_q (.bool ((o_1.Muts.length:Int) == 0)) rfl trivial rfl<|s_mov (.bool ((o_1.Muts.length:Int) == 0)) rfl<|s_lit (s:=43) (b:=false) rfl (bf c8)<|s_off rfl rfl<|s_q (.bool false) rfl trivial rfl<|s_mov (.bool false) rfl<|s_off rfl rfl<|s_q (.bool false) rfl trivial rfl<|s_mov (.bool false) rfl<|dk<|w_ret<|?_;obtain rfl:=os hf;exact r_flat ⟨trivial,trivial⟩ rfl (.refl _)
  ·refine s_mov (.bool ((o_1.Where.length:Int) == 0)) rfl<|s_mov (.bool ((o_1.Where.length:Int) == 0)) rfl<|s_lit (s:=40) (b:=false) rfl (bf c7)<|s_off rfl rfl<|s_q (.bool false) rfl trivial rfl<|s_mov (.bool false) rfl<|s_off rfl rfl<|s_q (.bool false) rfl trivial rfl<|s_mov (.bool false) rfl<|s_off rfl rfl<|s_q (.bool false) rfl trivial rfl<|s_mov (.bool false) rfl<|dk<|w_ret<|?_;obtain rfl:=os hf;exact r_flat ⟨trivial,trivial⟩ rfl (.refl _)
 ·refine w_condf rfl (bf c6)<|sr<|s_q (.bool (o_1.Kind == 2)) rfl rfl rfl<|s_mov (.bool (o_1.Kind == 2)) rfl<|dk<|?_
  rcases oi hf with ⟨c10,hf⟩ | ⟨c10,hf⟩
  ·refine w_condt rfl c10<|sr<|?_
   rcases oi hf with ⟨c11,hf⟩ | ⟨c11,hf⟩
   ·rcases oi hf with ⟨c12,hf⟩ | ⟨c12,hf⟩
    ·rcases oi hf with ⟨c13,hf⟩ | ⟨c13,hf⟩
     ·refine s_mov (.bool (o_1.Name == [])) rfl<|s_mov (.bool (o_1.Name == [])) rfl<|s_lit (s:=52) (b:=true) rfl c11<|s_on rfl<|s_mov (.bool ((o_1.Row.length:Int) == 0)) rfl<|s_q (.bool ((o_1.Row.length:Int) == 0)) rfl trivial rfl<|s_mov (.bool ((o_1.Row.length:Int) == 0)) rfl<|s_lit (s:=55) (b:=true) rfl c12<|s_on rfl<|s_mov (.bool ((o_1.Muts.length:Int) == 0)) rfl<|s_q (.bool ((o_1.Muts.length:Int) == 0)) rfl trivial rfl<|s_mov (.bool ((o_1.Muts.length:Int) == 0)) rfl<|s_lit (s:=58) (b:=true) rfl c13<|s_on rfl<|s_mov (.bool (!o_1.Until)) rfl<|s_q (.bool (!o_1.Until)) rfl trivial rfl<|s_mov (.bool (!o_1.Until)) rfl<|dk<|w_ret<|?_;obtain rfl:=os hf
      exact r_flat ⟨trivial,trivial⟩ rfl (.refl _)
     ·refine s_mov (.bool (o_1.Name == [])) rfl<|s_mov (.bool (o_1.Name == [])) rfl<|s_lit (s:=52) (b:=true) rfl c11<|s_on rfl<|s_mov (.bool ((o_1.Row.length:Int) == 0)) rfl<|s_q (.bool ((o_1.Row.length:Int) == 0)) rfl trivial rfl<|s_mov (.bool ((o_1.Row.length:Int) == 0)) rfl<|s_lit (s:=55) (b:=true) rfl c12<|s_on rfl<|s_mov (.bool ((o_1.Muts.length:Int) == 0)) rfl<|s_q (.bool ((o_1.Muts.length:Int) == 0)) rfl trivial rfl<|s_mov (.bool ((o_1.Muts.length:Int) == 0)) rfl<|s_lit (s:=58) (b:=false) rfl (bf c13)<|s_off rfl rfl<|s_q (.bool false) rfl trivial rfl<|s_mov (.bool false) rfl<|dk<|w_ret<|?_;obtain rfl:=os hf;exact r_flat ⟨trivial,trivial⟩ rfl (.refl _)
    ·refine s_mov (.bool (o_1.Name == [])) rfl<|s_mov (.bool (o_1.Name == [])) rfl<|s_lit (s:=52) (b:=true) rfl c11<|s_on rfl<|s_mov (.bool ((o_1.Row.length:Int) == 0)) rfl<|s_q (.bool ((o_1.Row.length:Int) == 0)) rfl trivial rfl<|s_mov (.bool ((o_1.Row.length:Int) == 0)) rfl<|s_lit (s:=55) (b:=false) rfl (bf c12)<|s_off rfl rfl<|s_q (.bool false) rfl trivial rfl<|s_mov (.bool false) rfl<|s_off rfl rfl<|s_q (.bool false) rfl trivial rfl<|s_mov (.bool false) rfl<|dk<|w_ret<|?_;obtain rfl:=os hf;exact r_flat ⟨trivial,trivial⟩ rfl (.refl _)
   ·refine s_mov (.bool (o_1.Name == [])) rfl<|s_mov (.bool (o_1.Name == [])) rfl<|s_lit (s:=52) (b:=false) rfl (bf c11)<|s_off rfl rfl<|s_q (.bool false) rfl trivial rfl<|s_mov (.bool false) rfl<|s_off rfl rfl<|s_q (.bool false) rfl trivial rfl<|s_mov (.bool false) rfl<|s_off rfl rfl<|s_q (.bool false) rfl trivial rfl<|s_mov (.bool false) rfl<|dk<|w_ret<|?_;obtain rfl:=os hf;exact r_flat ⟨trivial,trivial⟩ rfl (.refl _)
  ·refine w_condf rfl (bf c10)<|sr<|s_q (.bool (o_1.Kind == 3)) rfl rfl rfl<|s_mov (.bool (o_1.Kind == 3)) rfl<|dk<|?_
   rcases oi hf with ⟨c14,hf⟩ | ⟨c14,hf⟩
   ·refine w_condt rfl c14<|sr<|?_
    rcases oi hf with ⟨c15,hf⟩ | ⟨c15,hf⟩
    ·rcases oi hf with ⟨c16,hf⟩ | ⟨c16,hf⟩
     ·rcases oi hf with ⟨c17,hf⟩ | ⟨c17,hf⟩
      ·refine s_mov (.bool (o_1.Name == [])) rfl<|s_mov (.bool (o_1.Name == [])) rfl<|s_lit (s:=64) (b:=true) rfl c15<|s_on rfl<|s_mov (.bool ((o_1.Muts.length:Int) == 0)) rfl<|s_q (.bool ((o_1.Muts.length:Int) == 0)) rfl trivial rfl<|s_mov (.bool ((o_1.Muts.length:Int) == 0)) rfl<|s_lit (s:=67) (b:=true) rfl c16<|s_on rfl<|s_mov (.bool ((o_1.Columns.length:Int) == 0)) rfl<|s_q (.bool ((o_1.Columns.length:Int) == 0)) rfl trivial rfl<|s_mov (.bool ((o_1.Columns.length:Int) == 0)) rfl<|s_lit (s:=70) (b:=true) rfl c17<|s_on rfl<|s_mov (.bool (!o_1.Until)) rfl<|s_q (.bool (!o_1.Until)) rfl trivial rfl<|s_mov (.bool (!o_1.Until)) rfl<|dk<|w_ret<|?_
       obtain rfl:=os hf;exact r_flat ⟨trivial,trivial⟩ rfl (.refl _)
      ·refine s_mov (.bool (o_1.Name == [])) rfl<|s_mov (.bool (o_1.Name == [])) rfl<|s_lit (s:=64) (b:=true) rfl c15<|s_on rfl<|s_mov (.bool ((o_1.Muts.length:Int) == 0)) rfl<|s_q (.bool ((o_1.Muts.length:Int) == 0)) rfl trivial rfl<|s_mov (.bool ((o_1.Muts.length:Int) == 0)) rfl<|s_lit (s:=67) (b:=true) rfl c16<|s_on rfl<|s_mov (.bool ((o_1.Columns.length:Int) == 0)) rfl<|s_q (.bool ((o_1.Columns.length:Int) == 0)) rfl trivial rfl<|s_mov (.bool ((o_1.Columns.length:Int) == 0)) rfl<|s_lit (s:=70) (b:=false) rfl (bf c17)<|s_off rfl rfl<|s_q (.bool false) rfl trivial rfl<|s_mov (.bool false) rfl<|dk<|w_ret<|?_;obtain rfl:=os hf;exact r_flat ⟨trivial,trivial⟩ rfl (.refl _)
     ·refine s_mov (.bool (o_1.Name == [])) rfl<|s_mov (.bool (o_1.Name == [])) rfl<|s_lit (s:=64) (b:=true) rfl c15<|s_on rfl<|s_mov (.bool ((o_1.Muts.length:Int) == 0)) rfl<|s_q (.bool ((o_1.Muts.length:Int) == 0)) rfl trivial rfl<|s_mov (.bool ((o_1.Muts.length:Int) == 0)) rfl<|s_lit (s:=67) (b:=false) rfl (bf c16)<|s_off rfl rfl<|s_q (.bool false) rfl trivial rfl<|s_mov (.bool false) rfl<|s_off rfl rfl<|s_q (.bool false) rfl trivial rfl<|s_mov (.bool false) rfl<|dk<|w_ret<|?_;obtain rfl:=os hf;exact r_flat ⟨trivial,trivial⟩ rfl (.refl _)
    ·refine s_mov (.bool (o_1.Name == [])) rfl<|s_mov (.bool (o_1.Name == [])) rfl<|s_lit (s:=64) (b:=false) rfl (bf c15)<|s_off rfl rfl<|s_q (.bool false) rfl trivial rfl<|s_mov (.bool false) rfl<|s_off rfl rfl<|s_q (.bool false) rfl trivial rfl<|s_mov (.bool false) rfl<|s_off rfl rfl<|s_q (.bool false) rfl trivial rfl<|s_mov (.bool false) rfl<|dk<|w_ret<|?_;obtain rfl:=os hf;exact r_flat ⟨trivial,trivial⟩ rfl (.refl _)
   ·refine w_condf rfl (bf c14)<|sr<|s_q (.bool (o_1.Kind == 4)) rfl rfl rfl<|s_mov (.bool (o_1.Kind == 4)) rfl<|dk<|?_
    rcases oi hf with ⟨c18,hf⟩ | ⟨c18,hf⟩
    ·refine w_condt rfl c18<|sr<|?_
     rcases oi hf with ⟨c19,hf⟩ | ⟨c19,hf⟩
     ·rcases oi hf with ⟨c20,hf⟩ | ⟨c20,hf⟩
      ·rcases oi hf with ⟨c21,hf⟩ | ⟨c21,hf⟩
       ·refine s_mov (.bool (o_1.Name == [])) rfl<|s_mov (.bool (o_1.Name == [])) rfl<|s_lit (s:=76) (b:=true) rfl c19<|s_on rfl<|s_mov (.bool ((o_1.Row.length:Int) == 0)) rfl<|s_q (.bool ((o_1.Row.length:Int) == 0)) rfl trivial rfl<|s_mov (.bool ((o_1.Row.length:Int) == 0)) rfl<|s_lit (s:=79) (b:=true) rfl c20<|s_on rfl<|s_mov (.bool ((o_1.Columns.length:Int) == 0)) rfl<|s_q (.bool ((o_1.Columns.length:Int) == 0)) rfl trivial rfl<|s_mov (.bool ((o_1.Columns.length:Int) == 0)) rfl<|s_lit (s:=82) (b:=true) rfl c21<|s_on rfl<|s_mov (.bool (!o_1.Until)) rfl<|s_q (.bool (!o_1.Until)) rfl trivial rfl<|s_mov (.bool (!o_1.Until)) rfl<|dk<|w_ret<|?_
        obtain rfl:=os hf;exact r_flat ⟨trivial,trivial⟩ rfl (.refl _)
       ·refine s_mov (.bool (o_1.Name == [])) rfl<|s_mov (.bool (o_1.Name == [])) rfl<|s_lit (s:=76) (b:=true) rfl c19<|s_on rfl<|s_mov (.bool ((o_1.Row.length:Int) == 0)) rfl<|s_q (.bool ((o_1.Row.length:Int) == 0)) rfl trivial rfl<|s_mov (.bool ((o_1.Row.length:Int) == 0)) rfl<|s_lit (s:=79) (b:=true) rfl c20<|s_on rfl<|s_mov (.bool ((o_1.Columns.length:Int) == 0)) rfl<|s_q (.bool ((o_1.Columns.length:Int) == 0)) rfl trivial rfl<|s_mov (.bool ((o_1.Columns.length:Int) == 0)) rfl<|s_lit (s:=82) (b:=false) rfl (bf c21)<|s_off rfl rfl<|s_q (.bool false) rfl trivial rfl<|s_mov (.bool false) rfl<|dk<|w_ret<|?_;obtain rfl:=os hf;exact r_flat ⟨trivial,trivial⟩ rfl (.refl _)
      ·refine s_mov (.bool (o_1.Name == [])) rfl<|s_mov (.bool (o_1.Name == [])) rfl<|s_lit (s:=76) (b:=true) rfl c19<|s_on rfl<|s_mov (.bool ((o_1.Row.length:Int) == 0)) rfl<|s_q (.bool ((o_1.Row.length:Int) == 0)) rfl trivial rfl<|s_mov (.bool ((o_1.Row.length:Int) == 0)) rfl<|s_lit (s:=79) (b:=false) rfl (bf c20)<|s_off rfl rfl<|s_q (.bool false) rfl trivial rfl<|s_mov (.bool false) rfl<|s_off rfl rfl<|s_q (.bool false) rfl trivial rfl<|s_mov (.bool false) rfl<|dk<|w_ret<|?_;obtain rfl:=os hf;exact r_flat ⟨trivial,trivial⟩ rfl (.refl _)
     ·refine s_mov (.bool (o_1.Name == [])) rfl<|s_mov (.bool (o_1.Name == [])) rfl<|s_lit (s:=76) (b:=false) rfl (bf c19)<|s_off rfl rfl<|s_q (.bool false) rfl trivial rfl<|s_mov (.bool false) rfl<|s_off rfl rfl<|s_q (.bool false) rfl trivial rfl<|s_mov (.bool false) rfl<|s_off rfl rfl<|s_q (.bool false) rfl trivial rfl<|s_mov (.bool false) rfl<|dk<|w_ret<|?_;obtain rfl:=os hf;exact r_flat ⟨trivial,trivial⟩ rfl (.refl _)
    ·refine w_condf rfl (bf c18)<|sr<|s_q (.bool (o_1.Kind == 5)) rfl rfl rfl<|s_mov (.bool (o_1.Kind == 5)) rfl<|dk<|?_
     rcases oi hf with ⟨c22,hf⟩ | ⟨c22,hf⟩
     ·refine w_condt rfl c22<|sr<|s_mov (.bool (o_1.Name == [])) rfl<|s_mov (.bool (o_1.Name == [])) rfl<|?_;refine s_g (v:=(o_1.Name == [])) (.bool ((o_1.Row.length:Int) == 0)) rfl (fun hv => by (try simp only [gs_on hv]);exact ⟨rfl,trivial,rfl⟩) ?_;refine s_pick (x:=((o_1.Row.length:Int) == 0)) (y:=false) rfl (fun hv => by (try simp only [gs_on hv]);rfl) (fun hv => by (try simp only [gs_on hv]);rfl) ?_;refine s_mov (.bool (bif (o_1.Name == []) then ((o_1.Row.length:Int) == 0) else false)) rfl ?_;refine s_g (v:=(bif (o_1.Name == []) then ((o_1.Row.length:Int) == 0) else false)) (.bool ((o_1.Muts.length:Int) == 0)) rfl (fun hv => by (try simp only [gs_on hv]);exact ⟨rfl,trivial,rfl⟩) ?_
      refine s_pick (x:=((o_1.Muts.length:Int) == 0)) (y:=false) rfl (fun hv => by (try simp only [gs_on hv]);rfl) (fun hv => by (try simp only [gs_on hv]);rfl) ?_;refine s_mov (.bool (bif (bif (o_1.Name == []) then ((o_1.Row.length:Int) == 0) else false) then ((o_1.Muts.length:Int) == 0) else false)) rfl ?_;refine s_g (v:=(bif (bif (o_1.Name == []) then ((o_1.Row.length:Int) == 0) else false) then ((o_1.Muts.length:Int) == 0) else false)) (.bool ((o_1.Columns.length:Int) == 0)) rfl (fun hv => by (try simp only [gs_on hv]);exact ⟨rfl,trivial,rfl⟩) ?_;refine s_pick (x:=((o_1.Columns.length:Int) == 0)) (y:=false) rfl (fun hv => by (try simp only [gs_on hv]);rfl) (fun hv => by (try simp only [gs_on hv]);rfl) ?_
      refine s_mov (.bool (bif (bif (bif (o_1.Name == []) then ((o_1.Row.length:Int) == 0) else false) then ((o_1.Muts.length:Int) == 0) else false) then ((o_1.Columns.length:Int) == 0) else false)) rfl ?_;refine s_g (v:=(bif (bif (bif (o_1.Name == []) then ((o_1.Row.length:Int) == 0) else false) then ((o_1.Muts.length:Int) == 0) else false) then ((o_1.Columns.length:Int) == 0) else false)) (.bool (!o_1.Until)) rfl (fun hv => by (try simp only [gs_on hv]);exact ⟨rfl,trivial,rfl⟩) ?_;refine s_pick (x:=(!o_1.Until)) (y:=false) rfl (fun hv => by (try simp only [gs_on hv]);rfl) (fun hv => by (try simp only [gs_on hv]);rfl) ?_;refine s_mov (.bool (bif (bif (bif (bif (o_1.Name == []) then ((o_1.Row.length:Int) == 0) else false) then ((o_1.Muts.length:Int) == 0) else false) then ((o_1.Columns.length:Int) == 0) else false) then (!o_1.Until) else false)) rfl ?_
      refine dk<|w_ret<|?_;obtain rfl:=os hf;exact r_flat ⟨trivial,trivial⟩ rfl (.refl _)
     ·refine w_condf rfl (bf c22)<|sr<|s_q (.bool (o_1.Kind == 6)) rfl rfl rfl<|s_mov (.bool (o_1.Kind == 6)) rfl<|dk<|?_
      rcases oi hf with ⟨c23,hf⟩ | ⟨c23,hf⟩
      ·refine w_condt rfl c23<|sr<|?_
       rcases oi hf with ⟨c24,hf⟩ | ⟨c24,hf⟩
       ·rcases oi hf with ⟨c25,hf⟩ | ⟨c25,hf⟩
        ·refine s_mov (.bool (o_1.Name == [])) rfl<|s_mov (.bool (o_1.Name == [])) rfl<|s_lit (s:=103) (b:=true) rfl c24<|s_on rfl<|s_mov (.bool ((o_1.Muts.length:Int) == 0)) rfl<|s_q (.bool ((o_1.Muts.length:Int) == 0)) rfl trivial rfl<|s_mov (.bool ((o_1.Muts.length:Int) == 0)) rfl<|s_lit (s:=106) (b:=true) rfl c25<|s_on rfl<|s_mov (.bool ((o_1.Columns.length:Int) == 0)) rfl<|s_q (.bool ((o_1.Columns.length:Int) == 0)) rfl trivial rfl<|s_mov (.bool ((o_1.Columns.length:Int) == 0)) rfl<|dk<|w_ret<|?_;obtain rfl:=os hf;exact r_flat ⟨trivial,trivial⟩ rfl (.refl _)
        ·refine s_mov (.bool (o_1.Name == [])) rfl<|s_mov (.bool (o_1.Name == [])) rfl<|s_lit (s:=103) (b:=true) rfl c24<|s_on rfl<|s_mov (.bool ((o_1.Muts.length:Int) == 0)) rfl<|s_q (.bool ((o_1.Muts.length:Int) == 0)) rfl trivial rfl<|s_mov (.bool ((o_1.Muts.length:Int) == 0)) rfl<|s_lit (s:=106) (b:=false) rfl (bf c25)<|s_off rfl rfl<|s_q (.bool false) rfl trivial rfl<|s_mov (.bool false) rfl<|dk<|w_ret<|?_;obtain rfl:=os hf;exact r_flat ⟨trivial,trivial⟩ rfl (.refl _)
       ·refine s_mov (.bool (o_1.Name == [])) rfl<|s_mov (.bool (o_1.Name == [])) rfl<|s_lit (s:=103) (b:=false) rfl (bf c24)<|s_off rfl rfl<|s_q (.bool false) rfl trivial rfl<|s_mov (.bool false) rfl<|s_off rfl rfl<|s_q (.bool false) rfl trivial rfl<|s_mov (.bool false) rfl<|dk<|w_ret<|?_;obtain rfl:=os hf;exact r_flat ⟨trivial,trivial⟩ rfl (.refl _)
      ·refine w_condf rfl (bf c23)<|awp_seq<|?_
       obtain ⟨s109_27,hb1,hf⟩:=ob hf
       refine awp_cut ([(3,(.bool (o_1.Table == []))),(4,(.bool (o_1.Name == []))),(5,(.bool ((o_1.Where.length:Int) == 0))),(6,(.bool ((o_1.Row.length:Int) == 0))),(7,(.bool ((o_1.Muts.length:Int) == 0))),(8,(.bool ((o_1.Columns.length:Int) == 0))),(9,(.bool (!o_1.Until))),(36,(.int .i64 o_1.Kind)),(109,(.bool s109_27))],[]) ?_ ?_
       ·refine sr<|s_q (.bool (o_1.Kind == 7)) rfl rfl rfl<|s_mov (.bool (o_1.Kind == 7)) rfl<|dk<|?_
        rcases oi hb1 with ⟨c29,hb1⟩ | ⟨c29,hb1⟩
        ·refine w_condt rfl c29<|w_skip<|?_;obtain rfl:=os hb1;exact ⟨[],[],_,_,rfl,rfl,⟨.refl _,⟨.refl _,⟨.refl _,⟨.refl _,⟨.refl _,⟨.refl _,⟨.refl _,⟨.refl _,⟨.refl _,trivial⟩⟩⟩⟩⟩⟩⟩⟩⟩,(.refl _)⟩
        ·refine w_condf rfl (bf c29)<|w_reg<|s_q (.bool (o_1.Kind == 8)) rfl rfl rfl<|s_mov (.bool (o_1.Kind == 8)) rfl<|w_done<|?_;obtain rfl:=os hb1;exact ⟨[],[],_,_,rfl,rfl,⟨.refl _,⟨.refl _,⟨.refl _,⟨.refl _,⟨.refl _,⟨.refl _,⟨.refl _,⟨.refl _,⟨.refl _,trivial⟩⟩⟩⟩⟩⟩⟩⟩⟩,(.refl _)⟩
       ·rcases oi hf with ⟨c30,hf⟩ | ⟨c30,hf⟩
        ·refine w_condt rfl c30<|sr<|s_mov (.bool (o_1.Table == [])) rfl<|s_mov (.bool (o_1.Table == [])) rfl<|?_;refine s_g (v:=(o_1.Table == [])) (.bool (o_1.Name == [])) rfl (fun hv => by (try simp only [gs_on hv]);exact ⟨rfl,trivial,rfl⟩) ?_;refine s_pick (x:=(o_1.Name == [])) (y:=false) rfl (fun hv => by (try simp only [gs_on hv]);rfl) (fun hv => by (try simp only [gs_on hv]);rfl) ?_;refine s_mov (.bool (bif (o_1.Table == []) then (o_1.Name == []) else false)) rfl ?_;refine s_g (v:=(bif (o_1.Table == []) then (o_1.Name == []) else false)) (.bool ((o_1.Where.length:Int) == 0)) rfl (fun hv => by (try simp only [gs_on hv]);exact ⟨rfl,trivial,rfl⟩) ?_;refine s_pick (x:=((o_1.Where.length:Int) == 0)) (y:=false) rfl (fun hv => by (try simp only [gs_on hv]);rfl) (fun hv => by (try simp only [gs_on hv]);rfl) ?_
         refine s_mov (.bool (bif (bif (o_1.Table == []) then (o_1.Name == []) else false) then ((o_1.Where.length:Int) == 0) else false)) rfl ?_;refine s_g (v:=(bif (bif (o_1.Table == []) then (o_1.Name == []) else false) then ((o_1.Where.length:Int) == 0) else false)) (.bool ((o_1.Row.length:Int) == 0)) rfl (fun hv => by (try simp only [gs_on hv]);exact ⟨rfl,trivial,rfl⟩) ?_;refine s_pick (x:=((o_1.Row.length:Int) == 0)) (y:=false) rfl (fun hv => by (try simp only [gs_on hv]);rfl) (fun hv => by (try simp only [gs_on hv]);rfl) ?_;refine s_mov (.bool (bif (bif (bif (o_1.Table == []) then (o_1.Name == []) else false) then ((o_1.Where.length:Int) == 0) else false) then ((o_1.Row.length:Int) == 0) else false)) rfl ?_
         refine s_g (v:=(bif (bif (bif (o_1.Table == []) then (o_1.Name == []) else false) then ((o_1.Where.length:Int) == 0) else false) then ((o_1.Row.length:Int) == 0) else false)) (.bool ((o_1.Muts.length:Int) == 0)) rfl (fun hv => by (try simp only [gs_on hv]);exact ⟨rfl,trivial,rfl⟩) ?_;refine s_pick (x:=((o_1.Muts.length:Int) == 0)) (y:=false) rfl (fun hv => by (try simp only [gs_on hv]);rfl) (fun hv => by (try simp only [gs_on hv]);rfl) ?_;refine s_mov (.bool (bif (bif (bif (bif (o_1.Table == []) then (o_1.Name == []) else false) then ((o_1.Where.length:Int) == 0) else false) then ((o_1.Row.length:Int) == 0) else false) then ((o_1.Muts.length:Int) == 0) else false)) rfl ?_;refine s_g (v:=(bif (bif (bif (bif (o_1.Table == []) then (o_1.Name == []) else false) then ((o_1.Where.length:Int) == 0) else false) then ((o_1.Row.length:Int) == 0) else false) then ((o_1.Muts.length:Int) == 0) else false)) (.bool ((o_1.Columns.length:Int) == 0)) rfl (fun hv => by (try simp only [gs_on hv]);exact ⟨rfl,trivial,rfl⟩) ?_
         refine s_pick (x:=((o_1.Columns.length:Int) == 0)) (y:=false) rfl (fun hv => by (try simp only [gs_on hv]);rfl) (fun hv => by (try simp only [gs_on hv]);rfl) ?_;refine s_mov (.bool (bif (bif (bif (bif (bif (o_1.Table == []) then (o_1.Name == []) else false) then ((o_1.Where.length:Int) == 0) else false) then ((o_1.Row.length:Int) == 0) else false) then ((o_1.Muts.length:Int) == 0) else false) then ((o_1.Columns.length:Int) == 0) else false)) rfl ?_;refine s_g (v:=(bif (bif (bif (bif (bif (o_1.Table == []) then (o_1.Name == []) else false) then ((o_1.Where.length:Int) == 0) else false) then ((o_1.Row.length:Int) == 0) else false) then ((o_1.Muts.length:Int) == 0) else false) then ((o_1.Columns.length:Int) == 0) else false)) (.bool (!o_1.Until)) rfl (fun hv => by (try simp only [gs_on hv]);exact ⟨rfl,trivial,rfl⟩) ?_
         refine s_pick (x:=(!o_1.Until)) (y:=false) rfl (fun hv => by (try simp only [gs_on hv]);rfl) (fun hv => by (try simp only [gs_on hv]);rfl) ?_;refine s_mov (.bool (bif (bif (bif (bif (bif (bif (o_1.Table == []) then (o_1.Name == []) else false) then ((o_1.Where.length:Int) == 0) else false) then ((o_1.Row.length:Int) == 0) else false) then ((o_1.Muts.length:Int) == 0) else false) then ((o_1.Columns.length:Int) == 0) else false) then (!o_1.Until) else false)) rfl<|dk<|w_ret<|?_;obtain rfl:=os hf;exact r_flat ⟨trivial,trivial⟩ rfl (.refl _)
        ·refine w_condf rfl (bf c30)<|awp_seq<|?_
         obtain ⟨s131_32,hb1,hf⟩:=ob hf
         refine awp_cut ([(3,(.bool (o_1.Table == []))),(5,(.bool ((o_1.Where.length:Int) == 0))),(6,(.bool ((o_1.Row.length:Int) == 0))),(7,(.bool ((o_1.Muts.length:Int) == 0))),(8,(.bool ((o_1.Columns.length:Int) == 0))),(9,(.bool (!o_1.Until))),(131,(.bool s131_32))],[]) ?_ ?_
         ·refine sr<|s_q (.bool (o_1.Kind == 9)) rfl rfl rfl<|s_mov (.bool (o_1.Kind == 9)) rfl<|dk<|?_
          rcases oi hb1 with ⟨c34,hb1⟩ | ⟨c34,hb1⟩
          ·refine w_condt rfl c34<|w_skip<|?_;obtain rfl:=os hb1;exact ⟨[],[],_,_,rfl,rfl,⟨.refl _,⟨.refl _,⟨.refl _,⟨.refl _,⟨.refl _,⟨.refl _,⟨.refl _,trivial⟩⟩⟩⟩⟩⟩⟩,(.refl _)⟩
          ·refine w_condf rfl (bf c34)<|w_reg<|s_q (.bool (o_1.Kind == 10)) rfl rfl rfl<|s_mov (.bool (o_1.Kind == 10)) rfl<|w_done<|?_;obtain rfl:=os hb1;exact ⟨[],[],_,_,rfl,rfl,⟨.refl _,⟨.refl _,⟨.refl _,⟨.refl _,⟨.refl _,⟨.refl _,⟨.refl _,trivial⟩⟩⟩⟩⟩⟩⟩,(.refl _)⟩
         ·rcases oi hf with ⟨c35,hf⟩ | ⟨c35,hf⟩
          ·refine w_condt rfl c35<|sr<|s_mov (.bool (o_1.Table == [])) rfl<|s_mov (.bool (o_1.Table == [])) rfl<|?_;refine s_g (v:=(o_1.Table == [])) (.bool ((o_1.Where.length:Int) == 0)) rfl (fun hv => by (try simp only [gs_on hv]);exact ⟨rfl,trivial,rfl⟩) ?_;refine s_pick (x:=((o_1.Where.length:Int) == 0)) (y:=false) rfl (fun hv => by (try simp only [gs_on hv]);rfl) (fun hv => by (try simp only [gs_on hv]);rfl) ?_;refine s_mov (.bool (bif (o_1.Table == []) then ((o_1.Where.length:Int) == 0) else false)) rfl ?_;refine s_g (v:=(bif (o_1.Table == []) then ((o_1.Where.length:Int) == 0) else false)) (.bool ((o_1.Row.length:Int) == 0)) rfl (fun hv => by (try simp only [gs_on hv]);exact ⟨rfl,trivial,rfl⟩) ?_
           refine s_pick (x:=((o_1.Row.length:Int) == 0)) (y:=false) rfl (fun hv => by (try simp only [gs_on hv]);rfl) (fun hv => by (try simp only [gs_on hv]);rfl) ?_;refine s_mov (.bool (bif (bif (o_1.Table == []) then ((o_1.Where.length:Int) == 0) else false) then ((o_1.Row.length:Int) == 0) else false)) rfl ?_;refine s_g (v:=(bif (bif (o_1.Table == []) then ((o_1.Where.length:Int) == 0) else false) then ((o_1.Row.length:Int) == 0) else false)) (.bool ((o_1.Muts.length:Int) == 0)) rfl (fun hv => by (try simp only [gs_on hv]);exact ⟨rfl,trivial,rfl⟩) ?_;refine s_pick (x:=((o_1.Muts.length:Int) == 0)) (y:=false) rfl (fun hv => by (try simp only [gs_on hv]);rfl) (fun hv => by (try simp only [gs_on hv]);rfl) ?_
           refine s_mov (.bool (bif (bif (bif (o_1.Table == []) then ((o_1.Where.length:Int) == 0) else false) then ((o_1.Row.length:Int) == 0) else false) then ((o_1.Muts.length:Int) == 0) else false)) rfl ?_;refine s_g (v:=(bif (bif (bif (o_1.Table == []) then ((o_1.Where.length:Int) == 0) else false) then ((o_1.Row.length:Int) == 0) else false) then ((o_1.Muts.length:Int) == 0) else false)) (.bool ((o_1.Columns.length:Int) == 0)) rfl (fun hv => by (try simp only [gs_on hv]);exact ⟨rfl,trivial,rfl⟩) ?_;refine s_pick (x:=((o_1.Columns.length:Int) == 0)) (y:=false) rfl (fun hv => by (try simp only [gs_on hv]);rfl) (fun hv => by (try simp only [gs_on hv]);rfl) ?_;refine s_mov (.bool (bif (bif (bif (bif (o_1.Table == []) then ((o_1.Where.length:Int) == 0) else false) then ((o_1.Row.length:Int) == 0) else false) then ((o_1.Muts.length:Int) == 0) else false) then ((o_1.Columns.length:Int) == 0) else false)) rfl ?_
           refine s_g (v:=(bif (bif (bif (bif (o_1.Table == []) then ((o_1.Where.length:Int) == 0) else false) then ((o_1.Row.length:Int) == 0) else false) then ((o_1.Muts.length:Int) == 0) else false) then ((o_1.Columns.length:Int) == 0) else false)) (.bool (!o_1.Until)) rfl (fun hv => by (try simp only [gs_on hv]);exact ⟨rfl,trivial,rfl⟩) ?_;refine s_pick (x:=(!o_1.Until)) (y:=false) rfl (fun hv => by (try simp only [gs_on hv]);rfl) (fun hv => by (try simp only [gs_on hv]);rfl) ?_;refine s_mov (.bool (bif (bif (bif (bif (bif (o_1.Table == []) then ((o_1.Where.length:Int) == 0) else false) then ((o_1.Row.length:Int) == 0) else false) then ((o_1.Muts.length:Int) == 0) else false) then ((o_1.Columns.length:Int) == 0) else false) then (!o_1.Until) else false)) rfl ?_
           refine dk<|w_ret<|?_;obtain rfl:=os hf;exact r_flat ⟨trivial,trivial⟩ rfl (.refl _)
          ·refine w_condf rfl (bf c35)<|w_skip<|k_blk<|k_seq<|sr<|s_mov (.bool false) rfl<|dk<|w_ret<|?_;obtain rfl:=os hf;exact r_flat ⟨trivial,trivial⟩ rfl (.refl _)

/- slices.IndexFunc[[]string,string] -/
def c172:ACode :=
 (.seq (.reg (tm 4 (.c (.int .i64 0)) .done))
 (.seq (.seq (.reg (tm 6 (.t 0) (tq 7 (.len (.t 6)) (tm 8 (.c (.int .i64 0)) .done))))
 (.block 0 (.loop (.seq (.reg (tq 9 (.bin .lss (.t 8) (.t 7)) .done))
 (.seq (.cond (.t 9) .skip
 (.exit 0))
 (.seq (.block 1 (.seq (.reg (tm 10 (.t 8) (tm 5 (.t 10) .done)))
 (.seq (.reg (tm 11 (.t 1) (tm 12 (.t 0) (tm 13 (.t 5) (tq 14 (.iaddr 1 (.t 12) (.t 13)) (tq 15 (.load 1 false (.t 14)) (tq 16 (.calv (.t 11) [(.t 15)]) .done)))))))
 (.cond (.t 16) (.seq (.reg (tm 17 (.t 5) (tm 4 (.t 17) .done)))
 .ret)
 .skip))))
 (.reg (tq 18 (.bin .add (.t 8) (.c (.int .i64 1))) (tm 8 (.t 18) .done)))))))))
 (.cut (.seq (.reg (tq 4 (.mov (.c (.int .i64 (-1)))) .done))
 .ret))))
theorem fc172:fcomp Tryz.prog Tryz.f172 = some (c172.erase,[.mov (.t 4)],19):=by kernel_rfl
def slices_IndexFunc_string_string_L1 (f_2:(Str → Option Bool)):List Str → Nat → Option (Fl Int Unit)
  | [],s8_17 =>
    some (.go ())
  | x_31 :: xs,s8_17 =>
    (f_2 x_31).bind fun r_32 =>
    if r_32 then
    some (.ret (s8_17:Int))
    else
    slices_IndexFunc_string_string_L1 f_2 xs (s8_17 + 1)

def slices_IndexFunc_string_string (s_1:(List Str)) (f_2:(Str → Option Bool)):Option Int :=
    (slices_IndexFunc_string_string_L1 f_2 s_1 0).bind fun q => (match q with
    | .ret r => some r
    | .go _ =>
    some (-1))
theorem w_slices_IndexFunc_string_string (s_1:(List Str)) (f_2:(Str → Option Bool)) (r:Int) (hf:slices_IndexFunc_string_string s_1 f_2 = some r) (kf_f_2:Nat) (cf_f_2:List AV) (okf_f_2:okFn Tryz.prog kf_f_2 = true) (hcf_f_2:∀ h p,closeWs h p cf_f_2 = some cf_f_2) (hrf_f_2:∀ f,rens f cf_f_2 = cf_f_2) (hpf_f_2:∀ a0 r,f_2 a0 = some r → CallOK Tryz.prog kf_f_2 .flat ([(.str a0)] ++ cf_f_2) (.bool r)):CallOK Tryz.prog 172 .flat [(.lst 1 (s_1.map AV.str)),(.fn kf_f_2 cf_f_2)] (.int .i64 r):=by
 refine CallOK.of_awp mixed Tryz.func172 fc172 nle ?_;rw [argT_eq];unfold slices_IndexFunc_string_string at hf;unfold c172;refine (show awp Tryz.prog false 0 _ (ofL [(0,(.lst 1 (s_1.map AV.str))),(1,(.fn kf_f_2 cf_f_2))]) [] _ from ?_);refine sr<|s_mov (.int .i64 0) rfl<|dk<|awp_seq<|sr<|s_mov (.lst 1 (s_1.map AV.str)) rfl<|s_dof (o_len (enc:=AV.str) rfl) fun hl3 => s_mov (.int .i64 0) rfl<|dk<|?_
 obtain ⟨p24,hb1,hf⟩:=ob hf
 refine awp_cutx (X:={q:Unit // p24 = .go q}) (fun q => ([],[])) ?_ ?_
 ·refine awp_loop (X:={q:Nat // slices_IndexFunc_string_string_L1 f_2 (s_1.drop q) q = some p24}) (fun q => ([(0,(.lst 1 (s_1.map AV.str))),(1,(.fn kf_f_2 cf_f_2)),(7,(.int .i64 (s_1.length:Int))),(8,(.int .i64 (q.1:Int)))],[])) (fun q => s_1.length - q.1) ⟨0,hb1⟩ ⟨[],[],_,_,rfl,rfl,⟨.refl _,⟨.of_eq (congrArg (AV.fn _) (hrf_f_2 _)),⟨.refl _,⟨.refl _,trivial⟩⟩⟩⟩,(.refl _)⟩ ?_
  rintro ⟨s8_17,hc1⟩
  have hc1:slices_IndexFunc_string_string_L1 f_2 (s_1.drop s8_17) s8_17 = some p24:=hc1
  refine (show awp Tryz.prog false 0 _ (ofL [(0,(.lst 1 (s_1.map AV.str))),(1,(.fn kf_f_2 cf_f_2)),(7,(.int .i64 (s_1.length:Int))),(8,(.int .i64 (s8_17:Int)))]) [] _ from ?_)
  rcases dropc s_1 s8_17 with ⟨hie27,hd30⟩ | ⟨hlt25,x_31,hx26,hd30⟩
  ·rw [hd30,slices_IndexFunc_string_string_L1.eq_1] at hc1
   have hq29:=dlf hie27
   refine sr<|s_q (.bool (decide ((s8_17:Int) < (s_1.length:Int)))) rfl rfl rfl<|dk<|awp_seq<|w_condf rfl hq29<|w_exit<|k_seqx<|k_loopx<|k_blkx<|?_;obtain rfl:=os hc1;exact k_cutn ⟨_,rfl⟩ ⟨[],[],_,_,rfl,rfl,trivial,(.refl _)⟩
  ·rw [hd30,slices_IndexFunc_string_string_L1.eq_2] at hc1
   have hq29:=dlt hlt25
   refine sr<|s_q (.bool (decide ((s8_17:Int) < (s_1.length:Int)))) rfl rfl rfl<|dk<|awp_seq<|w_condt rfl hq29<|w_skip<|k_seq<|awp_seq<|w_blk<|sr<|s_mov (.int .i64 (s8_17:Int)) rfl<|s_mov (.int .i64 (s8_17:Int)) rfl<|dk<|sr<|?_
   obtain ⟨r_32,er33,hc1⟩:=ob hc1
   refine s_mov (.fn kf_f_2 cf_f_2) rfl<|s_mov (.lst 1 (s_1.map AV.str)) rfl<|s_mov (.int .i64 (s8_17:Int)) rfl<|s_do (o_iaddrn (enc:=AV.str) rfl rfl hx26)<|s_q (.str x_31) rfl ⟨rfl,rfl⟩ rfl<|s_do (o_calvp (v:=(.bool r_32)) rfl okf_f_2 hcf_f_2 (hpf_f_2 _ _ er33) rfl (.refl _) rfl)<|dk<|?_
   rcases oi hc1 with ⟨c34,hc1⟩ | ⟨c34,hc1⟩
   ·refine w_condt rfl c34<|sr<|s_mov (.int .i64 (s8_17:Int)) rfl<|s_mov (.int .i64 (s8_17:Int)) rfl<|dk<|w_ret<|?_;obtain rfl:=os hc1;obtain rfl:=os hf;exact r_flat ⟨trivial,trivial⟩ rfl (.refl _)
   ·refine w_condf rfl (bf c34)<|w_skip<|k_blk<|k_seq<|w_reg<|s_q (.int .i64 (w64 ((s8_17:Int) + 1))) rfl rfl rfl<|s_mov (.int .i64 (w64 ((s8_17:Int) + 1))) rfl<|w_done<|?_;exact k_loopn ⟨(s8_17 + 1),hc1⟩ (mul hlt25) ⟨[],[],_,_,rfl,rfl,⟨.refl _,⟨.of_eq (congrArg (AV.fn _) (hrf_f_2 _)),⟨.refl _,⟨.of_eq (congrArg (AV.int _) (w64_incr hlt25 hl3)),trivial⟩⟩⟩⟩,(.refl _)⟩
 ·rintro ⟨_,rfl⟩
  refine sr<|s_mov (.int .i64 (-1)) rfl<|dk<|w_ret<|?_;obtain rfl:=os hf;exact r_flat ⟨trivial,trivial⟩ rfl (.refl _)

/- slices.ContainsFunc[[]string,string] -/
def c135:ACode :=
 (.seq (.reg (tm 4 (.c (.bool false)) .done))
 (.seq (.reg (tm 5 (.t 0) (tm 6 (.t 1) (tq 7 (.call 172 [(.t 5),(.t 6)]) (tq 8 (.bin .geq (.t 7) (.c (.int .i64 0))) (tm 4 (.t 8) .done))))))
 .ret))
theorem fc135:fcomp Tryz.prog Tryz.f135 = some (c135.erase,[.mov (.t 4)],9):=by kernel_rfl
def slices_ContainsFunc_string_string (s_1:(List Str)) (f_2:(Str → Option Bool)):Option Bool :=
    (slices_IndexFunc_string_string s_1 f_2).bind fun r_3 =>
    some (decide (r_3 ≥ 0))
theorem w_slices_ContainsFunc_string_string (s_1:(List Str)) (f_2:(Str → Option Bool)) (r:Bool) (hf:slices_ContainsFunc_string_string s_1 f_2 = some r) (kf_f_2:Nat) (cf_f_2:List AV) (okf_f_2:okFn Tryz.prog kf_f_2 = true) (hcf_f_2:∀ h p,closeWs h p cf_f_2 = some cf_f_2) (hrf_f_2:∀ f,rens f cf_f_2 = cf_f_2) (hpf_f_2:∀ a0 r,f_2 a0 = some r → CallOK Tryz.prog kf_f_2 .flat ([(.str a0)] ++ cf_f_2) (.bool r)):CallOK Tryz.prog 135 .flat [(.lst 1 (s_1.map AV.str)),(.fn kf_f_2 cf_f_2)] (.bool r):=by
  refine CallOK.of_awp mixed Tryz.func135 fc135 nle ?_
  rw [argT_eq]
  unfold slices_ContainsFunc_string_string at hf
  unfold c135
  refine (show awp Tryz.prog false 0 _ (ofL [(0,(.lst 1 (s_1.map AV.str))),(1,(.fn kf_f_2 cf_f_2))]) [] _ from ?_)
  refine awp_seq ?_
  refine w_reg ?_
  refine s_do (o_mov (.bool false) rfl) ?_
  refine w_done ?_
  refine k_seq ?_
  refine awp_seq ?_
  refine w_reg ?_
  obtain ⟨r_3,er4,hf⟩:=ob hf
  refine s_do (o_mov (.lst 1 (s_1.map AV.str)) rfl) ?_
  refine s_do (o_mov (.fn kf_f_2 cf_f_2) rfl) ?_
  refine s_do (o_call (w_slices_IndexFunc_string_string _ _ _ er4 kf_f_2 cf_f_2 okf_f_2 hcf_f_2 hrf_f_2 hpf_f_2) (cls_cons rfl (cls_cons (cls_fn hcf_f_2) rfl)) (.refl _) rfl) ?_
  refine s_do (o_q (.bool (decide (r_3 ≥ 0))) rfl rfl rfl) ?_
  refine s_do (o_mov (.bool (decide (r_3 ≥ 0))) rfl) ?_
  refine w_done ?_
  refine k_seq ?_
  refine w_ret ?_
  obtain rfl:=os hf
  exact r_flat ⟨trivial,trivial⟩ rfl (.refl _)

/- impl.areShort$1 -/
def c136:ACode :=
 (.seq (.reg (tm 2 (.c (.bool false)) .done))
 (.seq (.reg (tm 3 (.t 0) (tq 4 (.lenS (.t 3)) (tq 5 (.bin .gtr (.t 4) (.c (.int .i64 40))) (tm 2 (.t 5) .done)))))
 .ret))
theorem fc136:fcomp Tryz.prog Tryz.f136 = some (c136.erase,[.mov (.t 2)],6):=by kernel_rfl
def impl_areShort_1 (t_1:Str):Option Bool :=
    some (decide ((t_1.length:Int) > 40))
theorem w_impl_areShort_1 (t_1:Str) (r:Bool) (hf:impl_areShort_1 t_1 = some r):CallOK Tryz.prog 136 .flat [(.str t_1)] (.bool r):=by
  refine CallOK.of_awp mixed Tryz.func136 fc136 nle ?_
  rw [argT_eq]
  unfold impl_areShort_1 at hf
  unfold c136
  refine (show awp Tryz.prog false 0 _ (ofL [(0,(.str t_1))]) [] _ from ?_)
  refine awp_seq ?_
  refine w_reg ?_
  refine s_do (o_mov (.bool false) rfl) ?_
  refine w_done ?_
  refine k_seq ?_
  refine awp_seq ?_
  refine w_reg ?_
  refine s_do (o_mov (.str t_1) rfl) ?_
  refine s_dof (o_lenS rfl) fun hl2 => ?_
  refine s_do (o_q (.bool (decide ((t_1.length:Int) > 40))) rfl rfl rfl) ?_
  refine s_do (o_mov (.bool (decide ((t_1.length:Int) > 40))) rfl) ?_
  refine w_done ?_
  refine k_seq ?_
  refine w_ret ?_
  obtain rfl:=os hf
  exact r_flat ⟨trivial,trivial⟩ rfl (.refl _)

/- impl.areShort -/
def c87:ACode :=
 (.seq (.reg (tm 2 (.c (.bool false)) .done))
 (.seq (.reg (tm 3 (.t 0) (tq 4 (.call 135 [(.t 3),(.c (.fn 136 []))]) (tq 5 (.not (.t 4)) (tm 2 (.t 5) .done)))))
 .ret))
theorem fc87:fcomp Tryz.prog Tryz.f87 = some (c87.erase,[.mov (.t 2)],6):=by kernel_rfl
def impl_areShort (list_1:(List Str)):Option Bool :=
    (slices_ContainsFunc_string_string list_1 impl_areShort_1).bind fun r_2 =>
    some (!r_2)
theorem w_impl_areShort (list_1:(List Str)) (r:Bool) (hf:impl_areShort list_1 = some r):CallOK Tryz.prog 87 .flat [(.lst 1 (list_1.map AV.str))] (.bool r):=by
  refine CallOK.of_awp mixed Tryz.func87 fc87 nle ?_
  rw [argT_eq]
  unfold impl_areShort at hf
  unfold c87
  refine (show awp Tryz.prog false 0 _ (ofL [(0,(.lst 1 (list_1.map AV.str)))]) [] _ from ?_)
  refine awp_seq ?_
  refine w_reg ?_
  refine s_do (o_mov (.bool false) rfl) ?_
  refine w_done ?_
  refine k_seq ?_
  refine awp_seq ?_
  refine w_reg ?_
  obtain ⟨r_2,er3,hf⟩:=ob hf
  refine s_do (o_mov (.lst 1 (list_1.map AV.str)) rfl) ?_
  refine s_do (o_call (w_slices_ContainsFunc_string_string _ _ _ er3 136 [] (by kernel_rfl) (fun _ _ => rfl) (fun _ => rfl) (fun a0 r h => w_impl_areShort_1 a0 r h)) rfl (.refl _) rfl) ?_
  refine s_do (o_q (.bool (!r_2)) rfl trivial rfl) ?_
  refine s_do (o_mov (.bool (!r_2)) rfl) ?_
  refine w_done ?_
  refine k_seq ?_
  refine w_ret ?_
  obtain rfl:=os hf
  exact r_flat ⟨trivial,trivial⟩ rfl (.refl _)

/- slices.IndexFunc[[]impl.Cond,impl.Cond] -/
def c173:ACode :=
 (.seq (.reg (tm 4 (.c (.int .i64 0)) .done))
 (.seq (.seq (.reg (tm 6 (.t 0) (tq 7 (.len (.t 6)) (tm 8 (.c (.int .i64 0)) .done))))
 (.block 0 (.loop (.seq (.reg (tq 9 (.bin .lss (.t 8) (.t 7)) .done))
 (.seq (.cond (.t 9) .skip
 (.exit 0))
 (.seq (.block 1 (.seq (.reg (tm 10 (.t 8) (tm 5 (.t 10) .done)))
 (.seq (.reg (tm 11 (.t 1) (tm 12 (.t 0) (tm 13 (.t 5) (tq 14 (.iaddr 3 (.t 12) (.t 13)) (tq 15 (.load 3 true (.t 14)) (tq 16 (.calv (.t 11) [(.t 15)]) .done)))))))
 (.cond (.t 16) (.seq (.reg (tm 17 (.t 5) (tm 4 (.t 17) .done)))
 .ret)
 .skip))))
 (.reg (tq 18 (.bin .add (.t 8) (.c (.int .i64 1))) (tm 8 (.t 18) .done)))))))))
 (.cut (.seq (.reg (tq 4 (.mov (.c (.int .i64 (-1)))) .done))
 .ret))))
theorem fc173:fcomp Tryz.prog Tryz.f173 = some (c173.erase,[.mov (.t 4)],19):=by kernel_rfl
def slices_IndexFunc_impl_Cond_impl_Cond_L1 (f_2:(GCond → Option Bool)):List GCond → Nat → Option (Fl Int Unit)
  | [],s8_17 =>
    some (.go ())
  | x_31 :: xs,s8_17 =>
    (f_2 x_31).bind fun r_32 =>
    if r_32 then
    some (.ret (s8_17:Int))
    else
    slices_IndexFunc_impl_Cond_impl_Cond_L1 f_2 xs (s8_17 + 1)

def slices_IndexFunc_impl_Cond_impl_Cond (s_1:(List GCond)) (f_2:(GCond → Option Bool)):Option Int :=
    (slices_IndexFunc_impl_Cond_impl_Cond_L1 f_2 s_1 0).bind fun q => (match q with
    | .ret r => some r
    | .go _ =>
    some (-1))
theorem w_slices_IndexFunc_impl_Cond_impl_Cond (s_1:(List GCond)) (f_2:(GCond → Option Bool)) (r:Int) (hf:slices_IndexFunc_impl_Cond_impl_Cond s_1 f_2 = some r) (kf_f_2:Nat) (cf_f_2:List AV) (okf_f_2:okFn Tryz.prog kf_f_2 = true) (hcf_f_2:∀ h p,closeWs h p cf_f_2 = some cf_f_2) (hrf_f_2:∀ f,rens f cf_f_2 = cf_f_2) (hpf_f_2:∀ a0 r,f_2 a0 = some r → CallOK Tryz.prog kf_f_2 .flat ([(encGCond a0)] ++ cf_f_2) (.bool r)):CallOK Tryz.prog 173 .flat [(.lst 3 (s_1.map encGCond)),(.fn kf_f_2 cf_f_2)] (.int .i64 r):=by
 refine CallOK.of_awp mixed Tryz.func173 fc173 nle ?_;rw [argT_eq];unfold slices_IndexFunc_impl_Cond_impl_Cond at hf;unfold c173;refine (show awp Tryz.prog false 0 _ (ofL [(0,(.lst 3 (s_1.map encGCond))),(1,(.fn kf_f_2 cf_f_2))]) [] _ from ?_);refine sr<|s_mov (.int .i64 0) rfl<|dk<|awp_seq<|sr<|s_mov (.lst 3 (s_1.map encGCond)) rfl<|s_dof (o_len (enc:=encGCond) rfl) fun hl3 => s_mov (.int .i64 0) rfl<|dk<|?_
 obtain ⟨p24,hb1,hf⟩:=ob hf
 refine awp_cutx (X:={q:Unit // p24 = .go q}) (fun q => ([],[])) ?_ ?_
 ·refine awp_loop (X:={q:Nat // slices_IndexFunc_impl_Cond_impl_Cond_L1 f_2 (s_1.drop q) q = some p24}) (fun q => ([(0,(.lst 3 (s_1.map encGCond))),(1,(.fn kf_f_2 cf_f_2)),(7,(.int .i64 (s_1.length:Int))),(8,(.int .i64 (q.1:Int)))],[])) (fun q => s_1.length - q.1) ⟨0,hb1⟩ ⟨[],[],_,_,rfl,rfl,⟨.refl _,⟨.of_eq (congrArg (AV.fn _) (hrf_f_2 _)),⟨.refl _,⟨.refl _,trivial⟩⟩⟩⟩,(.refl _)⟩ ?_
  rintro ⟨s8_17,hc1⟩
  have hc1:slices_IndexFunc_impl_Cond_impl_Cond_L1 f_2 (s_1.drop s8_17) s8_17 = some p24:=hc1
  refine (show awp Tryz.prog false 0 _ (ofL [(0,(.lst 3 (s_1.map encGCond))),(1,(.fn kf_f_2 cf_f_2)),(7,(.int .i64 (s_1.length:Int))),(8,(.int .i64 (s8_17:Int)))]) [] _ from ?_)
  rcases dropc s_1 s8_17 with ⟨hie27,hd30⟩ | ⟨hlt25,x_31,hx26,hd30⟩
  ·rw [hd30,slices_IndexFunc_impl_Cond_impl_Cond_L1.eq_1] at hc1
   have hq29:=dlf hie27
   refine sr<|s_q (.bool (decide ((s8_17:Int) < (s_1.length:Int)))) rfl rfl rfl<|dk<|awp_seq<|w_condf rfl hq29<|w_exit<|k_seqx<|k_loopx<|k_blkx<|?_;obtain rfl:=os hc1;exact k_cutn ⟨_,rfl⟩ ⟨[],[],_,_,rfl,rfl,trivial,(.refl _)⟩
  ·rw [hd30,slices_IndexFunc_impl_Cond_impl_Cond_L1.eq_2] at hc1
   have hq29:=dlt hlt25
   refine sr<|s_q (.bool (decide ((s8_17:Int) < (s_1.length:Int)))) rfl rfl rfl<|dk<|awp_seq<|w_condt rfl hq29<|w_skip<|k_seq<|awp_seq<|w_blk<|sr<|s_mov (.int .i64 (s8_17:Int)) rfl<|s_mov (.int .i64 (s8_17:Int)) rfl<|dk<|sr<|?_
   obtain ⟨r_32,er33,hc1⟩:=ob hc1
   refine s_mov (.fn kf_f_2 cf_f_2) rfl<|s_mov (.lst 3 (s_1.map encGCond)) rfl<|s_mov (.int .i64 (s8_17:Int)) rfl<|s_do (o_iaddrn (enc:=encGCond) rfl rfl hx26)<|s_q (encGCond x_31) rfl nle rfl<|s_do (o_calvp (v:=(.bool r_32)) rfl okf_f_2 hcf_f_2 (hpf_f_2 _ _ er33) rfl (.refl _) rfl)<|dk<|?_
   rcases oi hc1 with ⟨c34,hc1⟩ | ⟨c34,hc1⟩
   ·refine w_condt rfl c34<|sr<|s_mov (.int .i64 (s8_17:Int)) rfl<|s_mov (.int .i64 (s8_17:Int)) rfl<|dk<|w_ret<|?_;obtain rfl:=os hc1;obtain rfl:=os hf;exact r_flat ⟨trivial,trivial⟩ rfl (.refl _)
   ·refine w_condf rfl (bf c34)<|w_skip<|k_blk<|k_seq<|w_reg<|s_q (.int .i64 (w64 ((s8_17:Int) + 1))) rfl rfl rfl<|s_mov (.int .i64 (w64 ((s8_17:Int) + 1))) rfl<|w_done<|?_;exact k_loopn ⟨(s8_17 + 1),hc1⟩ (mul hlt25) ⟨[],[],_,_,rfl,rfl,⟨.refl _,⟨.of_eq (congrArg (AV.fn _) (hrf_f_2 _)),⟨.refl _,⟨.of_eq (congrArg (AV.int _) (w64_incr hlt25 hl3)),trivial⟩⟩⟩⟩,(.refl _)⟩
 ·rintro ⟨_,rfl⟩
  refine sr<|s_mov (.int .i64 (-1)) rfl<|dk<|w_ret<|?_;obtain rfl:=os hf;exact r_flat ⟨trivial,trivial⟩ rfl (.refl _)

/- slices.ContainsFunc[[]impl.Cond,impl.Cond] -/
def c137:ACode :=
 (.seq (.reg (tm 4 (.c (.bool false)) .done))
 (.seq (.reg (tm 5 (.t 0) (tm 6 (.t 1) (tq 7 (.call 173 [(.t 5),(.t 6)]) (tq 8 (.bin .geq (.t 7) (.c (.int .i64 0))) (tm 4 (.t 8) .done))))))
 .ret))
theorem fc137:fcomp Tryz.prog Tryz.f137 = some (c137.erase,[.mov (.t 4)],9):=by kernel_rfl
def slices_ContainsFunc_impl_Cond_impl_Cond (s_1:(List GCond)) (f_2:(GCond → Option Bool)):Option Bool :=
    (slices_IndexFunc_impl_Cond_impl_Cond s_1 f_2).bind fun r_3 =>
    some (decide (r_3 ≥ 0))
theorem w_slices_ContainsFunc_impl_Cond_impl_Cond (s_1:(List GCond)) (f_2:(GCond → Option Bool)) (r:Bool) (hf:slices_ContainsFunc_impl_Cond_impl_Cond s_1 f_2 = some r) (kf_f_2:Nat) (cf_f_2:List AV) (okf_f_2:okFn Tryz.prog kf_f_2 = true) (hcf_f_2:∀ h p,closeWs h p cf_f_2 = some cf_f_2) (hrf_f_2:∀ f,rens f cf_f_2 = cf_f_2) (hpf_f_2:∀ a0 r,f_2 a0 = some r → CallOK Tryz.prog kf_f_2 .flat ([(encGCond a0)] ++ cf_f_2) (.bool r)):CallOK Tryz.prog 137 .flat [(.lst 3 (s_1.map encGCond)),(.fn kf_f_2 cf_f_2)] (.bool r):=by
 refine CallOK.of_awp mixed Tryz.func137 fc137 nle ?_;rw [argT_eq];unfold slices_ContainsFunc_impl_Cond_impl_Cond at hf;unfold c137;refine (show awp Tryz.prog false 0 _ (ofL [(0,(.lst 3 (s_1.map encGCond))),(1,(.fn kf_f_2 cf_f_2))]) [] _ from ?_);refine sr<|s_mov (.bool false) rfl<|dk<|sr<|?_
 obtain ⟨r_3,er4,hf⟩:=ob hf
 refine s_mov (.lst 3 (s_1.map encGCond)) rfl<|s_mov (.fn kf_f_2 cf_f_2) rfl<|s_do (o_call (w_slices_IndexFunc_impl_Cond_impl_Cond _ _ _ er4 kf_f_2 cf_f_2 okf_f_2 hcf_f_2 hrf_f_2 hpf_f_2) (cls_cons rfl (cls_cons (cls_fn hcf_f_2) rfl)) (.refl _) rfl)<|s_q (.bool (decide (r_3 ≥ 0))) rfl rfl rfl<|s_mov (.bool (decide (r_3 ≥ 0))) rfl<|dk<|w_ret<|?_;obtain rfl:=os hf;exact r_flat ⟨trivial,trivial⟩ rfl (.refl _)

/- impl.isPlain -/
def c181:ACode :=
 (.seq (.reg (tm 2 (.c (.bool false)) .done))
 (.seq (.seq (.reg (tm 4 (.t 0) (tq 5 (.lenS (.t 4)) (tm 6 (.c (.int .i64 0)) .done))))
 (.block 0 (.loop (.seq (.reg (tq 7 (.bin .lss (.t 6) (.t 5)) .done))
 (.seq (.cond (.t 7) .skip
 (.exit 0))
 (.seq (.block 1 (.seq (.reg (tm 8 (.t 6) (tm 3 (.t 8) .done)))
 (.seq (.reg (tm 9 (.t 0) (tm 10 (.t 3) (tq 11 (.idxs (.t 9) (.t 10)) (tq 12 (.bin .lss (.t 11) (.c (.int .u8 32))) (tm 13 (.t 12) (tg 14 13 false (.mov (.t 0)) (tg 15 13 false (.mov (.t 3)) (tg 16 13 false (.idxs (.t 14) (.t 15)) (tg 17 13 false (.bin .gtr (.t 16) (.c (.int .u8 126))) (tq 18 (.pick (.t 13) (.c (.bool true)) (.t 17)) .done)))))))))))
 (.cut (.cond (.t 18) (.seq (.reg (tm 2 (.c (.bool false)) .done))
 .ret)
 .skip)))))
 (.reg (tq 19 (.bin .add (.t 6) (.c (.int .i64 1))) (tm 6 (.t 19) .done)))))))))
 (.cut (.seq (.reg (tm 20 (.t 0) (tq 21 (.lenS (.t 20)) (tq 22 (.bin .leq (.t 21) (.c (.int .i64 200))) (tm 2 (.t 22) .done)))))
 .ret))))
theorem fc181:fcomp Tryz.prog Tryz.f181 = some (c181.erase,[.mov (.t 2)],23):=by kernel_rfl
def impl_isPlain_L1 :List UInt8 → Option (Fl Bool Unit)
  | [] =>
    some (.go ())
  | x_54 :: xs =>
    ((if (decide ((x_54.toNat:Int) < 32)) then
    some true
    else
    some (decide ((x_54.toNat:Int) > 126)):Option Bool)).bind fun s18_56 =>
    if s18_56 then
    some (.ret false)
    else
    impl_isPlain_L1 xs 

def impl_isPlain (t_1:Str):Option Bool :=
    (impl_isPlain_L1 t_1 ).bind fun q => (match q with
    | .ret r => some r
    | .go _ =>
    some (decide ((t_1.length:Int) ≤ 200)))
theorem w_impl_isPlain (t_1:Str) (r:Bool) (hf:impl_isPlain t_1 = some r):CallOK Tryz.prog 181 .flat [(.str t_1)] (.bool r):=by
 refine CallOK.of_awp mixed Tryz.func181 fc181 nle ?_;rw [argT_eq];unfold impl_isPlain at hf;unfold c181;refine (show awp Tryz.prog false 0 _ (ofL [(0,(.str t_1))]) [] _ from ?_);refine sr<|s_mov (.bool false) rfl<|dk<|awp_seq<|sr<|s_mov (.str t_1) rfl<|s_dof (o_lenS rfl) fun hl2 => s_mov (.int .i64 0) rfl<|dk<|?_
 obtain ⟨p47,hb1,hf⟩:=ob hf
 refine awp_cutx (X:={q:Unit // p47 = .go q}) (fun q => ([(0,(.str t_1))],[])) ?_ ?_
 ·refine awp_loop (X:={q:Nat // impl_isPlain_L1 (t_1.drop q)  = some p47}) (fun q => ([(0,(.str t_1)),(5,(.int .i64 (t_1.length:Int))),(6,(.int .i64 (q.1:Int)))],[])) (fun q => t_1.length - q.1) ⟨0,hb1⟩ ⟨[],[],_,_,rfl,rfl,⟨.refl _,⟨.refl _,⟨.refl _,trivial⟩⟩⟩,(.refl _)⟩ ?_
  rintro ⟨s6_32,hc1⟩
  have hc1:impl_isPlain_L1 (t_1.drop s6_32)  = some p47:=hc1
  refine (show awp Tryz.prog false 0 _ (ofL [(0,(.str t_1)),(5,(.int .i64 (t_1.length:Int))),(6,(.int .i64 (s6_32:Int)))]) [] _ from ?_)
  rcases dropc t_1 s6_32 with ⟨hie50,hd53⟩ | ⟨hlt48,x_54,hx49,hd53⟩
  ·rw [hd53,impl_isPlain_L1.eq_1] at hc1
   have hq52:=dlf hie50
   refine sr<|s_q (.bool (decide ((s6_32:Int) < (t_1.length:Int)))) rfl rfl rfl<|dk<|awp_seq<|w_condf rfl hq52<|w_exit<|k_seqx<|k_loopx<|k_blkx<|?_;obtain rfl:=os hc1;exact k_cutn ⟨_,rfl⟩ ⟨[],[],_,_,rfl,rfl,⟨.refl _,trivial⟩,(.refl _)⟩
  ·rw [hd53,impl_isPlain_L1.eq_2] at hc1
   have hq52:=dlt hlt48
   refine sr<|s_q (.bool (decide ((s6_32:Int) < (t_1.length:Int)))) rfl rfl rfl<|dk<|awp_seq<|w_condt rfl hq52<|w_skip<|k_seq<|awp_seq<|w_blk<|sr<|s_mov (.int .i64 (s6_32:Int)) rfl<|s_mov (.int .i64 (s6_32:Int)) rfl<|dk<|awp_seq<|?_
   obtain ⟨s18_56,hb2,hc1⟩:=ob hc1
   refine awp_cut ([(0,(.str t_1)),(5,(.int .i64 (t_1.length:Int))),(6,(.int .i64 (s6_32:Int))),(18,(.bool s18_56))],[]) ?_ ?_
   ·refine w_reg ?_
    rcases oi hb2 with ⟨c58,hb2⟩ | ⟨c58,hb2⟩
    ·refine s_mov (.str t_1) rfl<|s_mov (.int .i64 (s6_32:Int)) rfl<|s_do (o_idxsn rfl rfl hx49)<|s_q (.bool (decide ((x_54.toNat:Int) < 32))) rfl rfl rfl<|s_mov (.bool (decide ((x_54.toNat:Int) < 32))) rfl<|s_lit (s:=13) (b:=true) rfl c58<|s_off rfl rfl<|s_off rfl rfl<|s_off rfl rfl<|s_off rfl rfl<|s_q (.bool true) rfl trivial rfl<|w_done<|?_;obtain rfl:=os hb2;exact ⟨[],[],_,_,rfl,rfl,⟨.refl _,⟨.refl _,⟨.refl _,⟨.refl _,trivial⟩⟩⟩⟩,(.refl _)⟩
    ·refine s_mov (.str t_1) rfl<|s_mov (.int .i64 (s6_32:Int)) rfl<|s_do (o_idxsn rfl rfl hx49)<|s_q (.bool (decide ((x_54.toNat:Int) < 32))) rfl rfl rfl<|s_mov (.bool (decide ((x_54.toNat:Int) < 32))) rfl<|s_lit (s:=13) (b:=false) rfl (bf c58)<|s_on rfl<|s_mov (.str t_1) rfl<|s_on rfl<|s_mov (.int .i64 (s6_32:Int)) rfl<|s_on rfl<|s_do (o_idxsn rfl rfl hx49)<|s_on rfl<|s_q (.bool (decide ((x_54.toNat:Int) > 126))) rfl rfl rfl<|s_q (.bool (decide ((x_54.toNat:Int) > 126))) rfl trivial rfl<|w_done<|?_;obtain rfl:=os hb2;exact ⟨[],[],_,_,rfl,rfl,⟨.refl _,⟨.refl _,⟨.refl _,⟨.refl _,trivial⟩⟩⟩⟩,(.refl _)⟩
   ·rcases oi hc1 with ⟨c59,hc1⟩ | ⟨c59,hc1⟩
    ·refine w_condt rfl c59<|sr<|s_mov (.bool false) rfl<|dk<|w_ret<|?_;obtain rfl:=os hc1;obtain rfl:=os hf;exact r_flat ⟨trivial,trivial⟩ rfl (.refl _)
    ·refine w_condf rfl (bf c59)<|w_skip<|k_blk<|k_seq<|w_reg<|s_q (.int .i64 (w64 ((s6_32:Int) + 1))) rfl rfl rfl<|s_mov (.int .i64 (w64 ((s6_32:Int) + 1))) rfl<|w_done<|?_;exact k_loopn ⟨(s6_32 + 1),hc1⟩ (mul hlt48) ⟨[],[],_,_,rfl,rfl,⟨.refl _,⟨.refl _,⟨.of_eq (congrArg (AV.int _) (w64_incr hlt48 hl2)),trivial⟩⟩⟩,(.refl _)⟩
 ·rintro ⟨_,rfl⟩
  refine sr<|s_mov (.str t_1) rfl<|s_dof (o_lenS rfl) fun hl60 => s_q (.bool (decide ((t_1.length:Int) ≤ 200))) rfl rfl rfl<|s_mov (.bool (decide ((t_1.length:Int) ≤ 200))) rfl<|dk<|w_ret<|?_;obtain rfl:=os hf;exact r_flat ⟨trivial,trivial⟩ rfl (.refl _)

/- impl.isId -/
def c56:ACode :=
 (.seq (.reg (tm 2 (.c (.bool false)) .done))
 (.seq (.reg (tm 3 (.t 0) (tq 4 (.call 58 [(.t 3),(.c (.int .i64 1)),(.c (.int .i64 1000000))]) (tm 2 (.t 4) .done))))
 .ret))
theorem fc56:fcomp Tryz.prog Tryz.f56 = some (c56.erase,[.mov (.t 2)],5):=by kernel_rfl
def impl_isId (n_1:Int):Option Bool :=
    (impl_within n_1 1 1000000).bind fun r_2 =>
    some r_2
theorem w_impl_isId (n_1:Int) (r:Bool) (hf:impl_isId n_1 = some r):CallOK Tryz.prog 56 .flat [(.int .i64 n_1)] (.bool r):=by
  refine CallOK.of_awp mixed Tryz.func56 fc56 nle ?_
  rw [argT_eq]
  unfold impl_isId at hf
  unfold c56
  refine (show awp Tryz.prog false 0 _ (ofL [(0,(.int .i64 n_1))]) [] _ from ?_)
  refine awp_seq ?_
  refine w_reg ?_
  refine s_do (o_mov (.bool false) rfl) ?_
  refine w_done ?_
  refine k_seq ?_
  refine awp_seq ?_
  refine w_reg ?_
  obtain ⟨r_2,er3,hf⟩:=ob hf
  refine s_do (o_mov (.int .i64 n_1) rfl) ?_
  refine s_do (o_call (w_impl_within _ _ _ _ er3) rfl (.refl _) rfl) ?_
  refine s_do (o_mov (.bool r_2) rfl) ?_
  refine w_done ?_
  refine k_seq ?_
  refine w_ret ?_
  obtain rfl:=os hf
  exact r_flat ⟨trivial,trivial⟩ rfl (.refl _)

/- impl.AtomOK -/
def c158:ACode :=
 (.seq (.reg (tq 1 (.box 3 (.t 0)) (tm 2 (.c (.bool false)) .done)))
 (.seq (.seq (.reg (tq 3 (.faddr 0 (.t 1)) (tq 4 (.load 1 false (.t 3)) .done)))
 (.block 0 (.seq (.reg (tq 6 (.bin .eql (.t 4) (.c (.int .i64 1))) (tm 5 (.t 6) .done)))
 (.cond (.t 5) (.seq (.reg (tq 7 (.faddr 1 (.t 1)) (tq 8 (.load 1 false (.t 7)) (tq 9 (.call 170 [(.t 8)]) (tm 10 (.t 9) (tg 11 10 true (.faddr 2 (.t 1)) (tg 12 10 true (.load 1 false (.t 11)) (tg 13 10 true (.bin .eql (.t 12) (.c (.str []))) (tq 14 (.pick (.t 10) (.t 13) (.c (.bool false))) (tm 2 (.t 14) .done))))))))))
 .ret)
 (.seq (.reg (tq 16 (.bin .eql (.t 4) (.c (.int .i64 2))) (tm 15 (.t 16) .done)))
 (.cond (.t 15) (.seq (.reg (tq 17 (.faddr 1 (.t 1)) (tq 18 (.load 1 false (.t 17)) (tq 19 (.bin .eql (.t 18) (.c (.int .i64 0))) (tm 20 (.t 19) (tg 21 20 true (.faddr 2 (.t 1)) (tg 22 20 true (.load 1 false (.t 21)) (tg 23 20 true (.call 181 [(.t 22)]) (tq 24 (.pick (.t 20) (.t 23) (.c (.bool false))) (tm 2 (.t 24) .done))))))))))
 .ret)
 (.seq (.reg (tq 26 (.bin .eql (.t 4) (.c (.int .i64 3))) (tm 25 (.t 26) .done)))
 (.cond (.t 25) (.seq (.reg (tq 27 (.faddr 1 (.t 1)) (tq 28 (.load 1 false (.t 27)) (tq 29 (.call 58 [(.t 28),(.c (.int .i64 0)),(.c (.int .i64 1))]) (tm 30 (.t 29) (tg 31 30 true (.faddr 2 (.t 1)) (tg 32 30 true (.load 1 false (.t 31)) (tg 33 30 true (.bin .eql (.t 32) (.c (.str []))) (tq 34 (.pick (.t 30) (.t 33) (.c (.bool false))) (tm 2 (.t 34) .done))))))))))
 .ret)
 (.seq (.reg (tq 36 (.bin .eql (.t 4) (.c (.int .i64 4))) (tm 35 (.t 36) .done)))
 (.cond (.t 35) (.seq (.reg (tq 37 (.faddr 1 (.t 1)) (tq 38 (.load 1 false (.t 37)) (tq 39 (.call 56 [(.t 38)]) (tm 40 (.t 39) (tg 41 40 true (.faddr 2 (.t 1)) (tg 42 40 true (.load 1 false (.t 41)) (tg 43 40 true (.bin .eql (.t 42) (.c (.str []))) (tq 44 (.pick (.t 40) (.t 43) (.c (.bool false))) (tm 2 (.t 44) .done))))))))))
 .ret)
 .skip))))))))))
 (.seq (.reg (tm 2 (.c (.bool false)) .done))
 .ret)))
theorem fc158:fcomp Tryz.prog Tryz.f158 = some (c158.erase,[.mov (.t 2)],45):=by kernel_rfl
def impl_AtomOK (a_1:GAtom):Option Bool :=
    if (a_1.Kind == 1) then
    (impl_isNumber a_1.N).bind fun r_3 =>
    if r_3 then
    some (a_1.T == [])
    else
    some false
    else
    if (a_1.Kind == 2) then
    if (a_1.N == 0) then
    (impl_isPlain a_1.T).bind fun r_8 =>
    some r_8
    else
    some false
    else
    if (a_1.Kind == 3) then
    (impl_within a_1.N 0 1).bind fun r_11 =>
    if r_11 then
    some (a_1.T == [])
    else
    some false
    else
    if (a_1.Kind == 4) then
    (impl_isId a_1.N).bind fun r_15 =>
    if r_15 then
    some (a_1.T == [])
    else
    some false
    else
    some false
theorem w_impl_AtomOK (a_1:GAtom) (r:Bool) (hf:impl_AtomOK a_1 = some r):CallOK Tryz.prog 158 .flat [(encGAtom a_1)] (.bool r):=by
 refine CallOK.of_awp mixed Tryz.func158 fc158 nle ?_;rw [argT_eq];unfold impl_AtomOK at hf;unfold c158;refine (show awp Tryz.prog false 0 _ (ofL [(0,(encGAtom a_1))]) [] _ from ?_);refine sr<|s_do (o_box (j:=0) (c:=(.agg [(.int .i64 a_1.Kind),(.int .i64 a_1.N),(.str a_1.T)])) rfl trivial rfl rfl)<|s_mov (.bool false) rfl<|dk<|awp_seq<|sr<|s_q (.ptr 0 0 0) rfl trivial rfl<|s_q (.int .i64 a_1.Kind) rfl nle rfl<|dk<|w_blk<|sr<|s_q (.bool (a_1.Kind == 1)) rfl rfl rfl<|s_mov (.bool (a_1.Kind == 1)) rfl<|dk<|?_
 rcases oi hf with ⟨c2,hf⟩ | ⟨c2,hf⟩
 ·refine w_condt rfl c2<|sr<|?_
  obtain ⟨r_3,er4,hf⟩:=ob hf
  rcases oi hf with ⟨c5,hf⟩ | ⟨c5,hf⟩
  ·refine s_q (.ptr 0 0 1) rfl trivial rfl<|s_q (.int .i64 a_1.N) rfl nle rfl<|s_do (o_call (w_impl_isNumber _ _ er4) rfl (.refl _) rfl)<|s_mov (.bool r_3) rfl<|s_lit (s:=10) (b:=true) rfl c5<|s_on rfl<|s_q (.ptr 0 0 2) rfl trivial rfl<|s_on rfl<|s_q (.str a_1.T) rfl nle rfl<|s_on rfl<|s_q (.bool (a_1.T == [])) rfl trivial rfl<|s_q (.bool (a_1.T == [])) rfl trivial rfl<|s_mov (.bool (a_1.T == [])) rfl<|dk<|w_ret<|?_;obtain rfl:=os hf;exact r_flat ⟨trivial,trivial⟩ rfl (.refl _)
  ·refine s_q (.ptr 0 0 1) rfl trivial rfl<|s_q (.int .i64 a_1.N) rfl nle rfl<|s_do (o_call (w_impl_isNumber _ _ er4) rfl (.refl _) rfl)<|s_mov (.bool r_3) rfl<|s_lit (s:=10) (b:=false) rfl (bf c5)<|s_off rfl rfl<|s_off rfl rfl<|s_off rfl rfl<|s_q (.bool false) rfl trivial rfl<|s_mov (.bool false) rfl<|dk<|w_ret<|?_;obtain rfl:=os hf;exact r_flat ⟨trivial,trivial⟩ rfl (.refl _)
 ·refine w_condf rfl (bf c2)<|sr<|s_q (.bool (a_1.Kind == 2)) rfl rfl rfl<|s_mov (.bool (a_1.Kind == 2)) rfl<|dk<|?_
  rcases oi hf with ⟨c6,hf⟩ | ⟨c6,hf⟩
  ·refine w_condt rfl c6<|sr<|?_
   rcases oi hf with ⟨c7,hf⟩ | ⟨c7,hf⟩
   ·obtain ⟨r_8,er9,hf⟩:=ob hf
    refine s_q (.ptr 0 0 1) rfl trivial rfl<|s_q (.int .i64 a_1.N) rfl nle rfl<|s_q (.bool (a_1.N == 0)) rfl rfl rfl<|s_mov (.bool (a_1.N == 0)) rfl<|s_lit (s:=20) (b:=true) rfl c7<|s_on rfl<|s_q (.ptr 0 0 2) rfl trivial rfl<|s_on rfl<|s_q (.str a_1.T) rfl nle rfl<|s_on rfl<|s_do (o_call (w_impl_isPlain _ _ er9) rfl (.refl _) rfl)<|s_q (.bool r_8) rfl trivial rfl<|s_mov (.bool r_8) rfl<|dk<|w_ret<|?_;obtain rfl:=os hf;exact r_flat ⟨trivial,trivial⟩ rfl (.refl _)
   ·refine s_q (.ptr 0 0 1) rfl trivial rfl<|s_q (.int .i64 a_1.N) rfl nle rfl<|s_q (.bool (a_1.N == 0)) rfl rfl rfl<|s_mov (.bool (a_1.N == 0)) rfl<|s_lit (s:=20) (b:=false) rfl (bf c7)<|s_off rfl rfl<|s_off rfl rfl<|s_off rfl rfl<|s_q (.bool false) rfl trivial rfl<|s_mov (.bool false) rfl<|dk<|w_ret<|?_;obtain rfl:=os hf;exact r_flat ⟨trivial,trivial⟩ rfl (.refl _)
  ·refine w_condf rfl (bf c6)<|sr<|s_q (.bool (a_1.Kind == 3)) rfl rfl rfl<|s_mov (.bool (a_1.Kind == 3)) rfl<|dk<|?_
   rcases oi hf with ⟨c10,hf⟩ | ⟨c10,hf⟩
   ·refine w_condt rfl c10<|sr<|?_
    obtain ⟨r_11,er12,hf⟩:=ob hf
    rcases oi hf with ⟨c13,hf⟩ | ⟨c13,hf⟩
    ·refine s_q (.ptr 0 0 1) rfl trivial rfl<|s_q (.int .i64 a_1.N) rfl nle rfl<|s_do (o_call (w_impl_within _ _ _ _ er12) rfl (.refl _) rfl)<|s_mov (.bool r_11) rfl<|s_lit (s:=30) (b:=true) rfl c13<|s_on rfl<|s_q (.ptr 0 0 2) rfl trivial rfl<|s_on rfl<|s_q (.str a_1.T) rfl nle rfl<|s_on rfl<|s_q (.bool (a_1.T == [])) rfl trivial rfl<|s_q (.bool (a_1.T == [])) rfl trivial rfl<|s_mov (.bool (a_1.T == [])) rfl<|dk<|w_ret<|?_;obtain rfl:=os hf;exact r_flat ⟨trivial,trivial⟩ rfl (.refl _)
    ·refine s_q (.ptr 0 0 1) rfl trivial rfl<|s_q (.int .i64 a_1.N) rfl nle rfl<|s_do (o_call (w_impl_within _ _ _ _ er12) rfl (.refl _) rfl)<|s_mov (.bool r_11) rfl<|s_lit (s:=30) (b:=false) rfl (bf c13)<|s_off rfl rfl<|s_off rfl rfl<|s_off rfl rfl<|s_q (.bool false) rfl trivial rfl<|s_mov (.bool false) rfl<|dk<|w_ret<|?_;obtain rfl:=os hf;exact r_flat ⟨trivial,trivial⟩ rfl (.refl _)
   ·refine w_condf rfl (bf c10)<|sr<|s_q (.bool (a_1.Kind == 4)) rfl rfl rfl<|s_mov (.bool (a_1.Kind == 4)) rfl<|dk<|?_
    rcases oi hf with ⟨c14,hf⟩ | ⟨c14,hf⟩
    ·refine w_condt rfl c14<|sr<|?_
     obtain ⟨r_15,er16,hf⟩:=ob hf
     rcases oi hf with ⟨c17,hf⟩ | ⟨c17,hf⟩
     ·refine s_q (.ptr 0 0 1) rfl trivial rfl<|s_q (.int .i64 a_1.N) rfl nle rfl<|s_do (o_call (w_impl_isId _ _ er16) rfl (.refl _) rfl)<|s_mov (.bool r_15) rfl<|s_lit (s:=40) (b:=true) rfl c17<|s_on rfl<|s_q (.ptr 0 0 2) rfl trivial rfl<|s_on rfl<|s_q (.str a_1.T) rfl nle rfl<|s_on rfl<|s_q (.bool (a_1.T == [])) rfl trivial rfl<|s_q (.bool (a_1.T == [])) rfl trivial rfl<|s_mov (.bool (a_1.T == [])) rfl<|dk<|w_ret<|?_;obtain rfl:=os hf;exact r_flat ⟨trivial,trivial⟩ rfl (.refl _)
     ·refine s_q (.ptr 0 0 1) rfl trivial rfl<|s_q (.int .i64 a_1.N) rfl nle rfl<|s_do (o_call (w_impl_isId _ _ er16) rfl (.refl _) rfl)<|s_mov (.bool r_15) rfl<|s_lit (s:=40) (b:=false) rfl (bf c17)<|s_off rfl rfl<|s_off rfl rfl<|s_off rfl rfl<|s_q (.bool false) rfl trivial rfl<|s_mov (.bool false) rfl<|dk<|w_ret<|?_;obtain rfl:=os hf;exact r_flat ⟨trivial,trivial⟩ rfl (.refl _)
    ·refine w_condf rfl (bf c14)<|w_skip<|k_blk<|k_seq<|sr<|s_mov (.bool false) rfl<|dk<|w_ret<|?_;obtain rfl:=os hf;exact r_flat ⟨trivial,trivial⟩ rfl (.refl _)

/- cmp.isNaN[int] -/
def c187:ACode :=
 (.seq (.reg (tm 2 (.c (.bool false)) .done))
 (.seq (.reg (tm 3 (.t 0) (tm 4 (.t 0) (tq 5 (.bin .neq (.t 3) (.t 4)) (tm 2 (.t 5) .done)))))
 .ret))
theorem fc187:fcomp Tryz.prog Tryz.f187 = some (c187.erase,[.mov (.t 2)],6):=by kernel_rfl
def cmp_isNaN_int (x_1:Int):Option Bool :=
    some (x_1 != x_1)
theorem w_cmp_isNaN_int (x_1:Int) (r:Bool) (hf:cmp_isNaN_int x_1 = some r):CallOK Tryz.prog 187 .flat [(.int .i64 x_1)] (.bool r):=by
  refine CallOK.of_awp mixed Tryz.func187 fc187 nle ?_
  rw [argT_eq]
  unfold cmp_isNaN_int at hf
  unfold c187
  refine (show awp Tryz.prog false 0 _ (ofL [(0,(.int .i64 x_1))]) [] _ from ?_)
  refine awp_seq ?_
  refine w_reg ?_
  refine s_do (o_mov (.bool false) rfl) ?_
  refine w_done ?_
  refine k_seq ?_
  refine awp_seq ?_
  refine w_reg ?_
  refine s_do (o_mov (.int .i64 x_1) rfl) ?_
  refine s_do (o_mov (.int .i64 x_1) rfl) ?_
  refine s_do (o_q (.bool (x_1 != x_1)) rfl rfl rfl) ?_
  refine s_do (o_mov (.bool (x_1 != x_1)) rfl) ?_
  refine w_done ?_
  refine k_seq ?_
  refine w_ret ?_
  obtain rfl:=os hf
  exact r_flat ⟨trivial,trivial⟩ rfl (.refl _)

/- cmp.Compare[int] -/
def c183:ACode :=
 (.seq (.reg (tm 4 (.c (.int .i64 0)) .done))
 (.seq (.reg (tm 7 (.t 0) (tq 8 (.call 187 [(.t 7)]) (tm 5 (.t 8) .done))))
 (.seq (.reg (tm 9 (.t 1) (tq 10 (.call 187 [(.t 9)]) (tm 6 (.t 10) .done))))
 (.seq (.seq (.reg (tm 11 (.t 5) .done))
 (.cond (.t 11) (.seq (.seq (.reg (tm 12 (.t 6) .done))
 (.cond (.t 12) (.seq (.reg (tm 4 (.c (.int .i64 0)) .done))
 .ret)
 .skip))
 (.seq (.reg (tq 4 (.mov (.c (.int .i64 (-1)))) .done))
 .ret))
 .skip))
 (.seq (.seq (.reg (tm 13 (.t 6) .done))
 (.cond (.t 13) (.seq (.reg (tm 4 (.c (.int .i64 1)) .done))
 .ret)
 .skip))
 (.seq (.seq (.reg (tm 14 (.t 0) (tm 15 (.t 1) (tq 16 (.bin .lss (.t 14) (.t 15)) .done))))
 (.cond (.t 16) (.seq (.reg (tq 4 (.mov (.c (.int .i64 (-1)))) .done))
 .ret)
 .skip))
 (.seq (.seq (.reg (tm 17 (.t 0) (tm 18 (.t 1) (tq 19 (.bin .gtr (.t 17) (.t 18)) .done))))
 (.cond (.t 19) (.seq (.reg (tm 4 (.c (.int .i64 1)) .done))
 .ret)
 .skip))
 (.seq (.reg (tm 4 (.c (.int .i64 0)) .done))
 .ret))))))))
theorem fc183:fcomp Tryz.prog Tryz.f183 = some (c183.erase,[.mov (.t 4)],20):=by kernel_rfl
def cmp_Compare_int (x_1:Int) (y_2:Int):Option Int :=
    (cmp_isNaN_int x_1).bind fun r_3 =>
    (cmp_isNaN_int y_2).bind fun r_5 =>
    if r_3 then
    if r_5 then
    some 0
    else
    some (-1)
    else
    if r_5 then
    some 1
    else
    if (decide (x_1 < y_2)) then
    some (-1)
    else
    if (decide (x_1 > y_2)) then
    some 1
    else
    some 0
theorem w_cmp_Compare_int (x_1:Int) (y_2:Int) (r:Int) (hf:cmp_Compare_int x_1 y_2 = some r):CallOK Tryz.prog 183 .flat [(.int .i64 x_1),(.int .i64 y_2)] (.int .i64 r):=by
 refine CallOK.of_awp mixed Tryz.func183 fc183 nle ?_;rw [argT_eq];unfold cmp_Compare_int at hf;unfold c183;refine (show awp Tryz.prog false 0 _ (ofL [(0,(.int .i64 x_1)),(1,(.int .i64 y_2))]) [] _ from ?_);refine sr<|s_mov (.int .i64 0) rfl<|dk<|sr<|?_
 obtain ⟨r_3,er4,hf⟩:=ob hf
 refine s_mov (.int .i64 x_1) rfl<|s_do (o_call (w_cmp_isNaN_int _ _ er4) rfl (.refl _) rfl)<|s_mov (.bool r_3) rfl<|dk<|sr<|?_
 obtain ⟨r_5,er6,hf⟩:=ob hf
 refine s_mov (.int .i64 y_2) rfl<|s_do (o_call (w_cmp_isNaN_int _ _ er6) rfl (.refl _) rfl)<|s_mov (.bool r_5) rfl<|dk<|awp_seq<|sr<|s_mov (.bool r_3) rfl<|dk<|?_
 rcases oi hf with ⟨c7,hf⟩ | ⟨c7,hf⟩
 ·refine w_condt rfl c7<|awp_seq<|sr<|s_mov (.bool r_5) rfl<|dk<|?_
  rcases oi hf with ⟨c8,hf⟩ | ⟨c8,hf⟩
  ·refine w_condt rfl c8<|sr<|s_mov (.int .i64 0) rfl<|dk<|w_ret<|?_;obtain rfl:=os hf;exact r_flat ⟨trivial,trivial⟩ rfl (.refl _)
  ·refine w_condf rfl (bf c8)<|w_skip<|k_seq<|sr<|s_mov (.int .i64 (-1)) rfl<|dk<|w_ret<|?_;obtain rfl:=os hf;exact r_flat ⟨trivial,trivial⟩ rfl (.refl _)
 ·refine w_condf rfl (bf c7)<|w_skip<|k_seq<|awp_seq<|sr<|s_mov (.bool r_5) rfl<|dk<|?_
  rcases oi hf with ⟨c9,hf⟩ | ⟨c9,hf⟩
  ·refine w_condt rfl c9<|sr<|s_mov (.int .i64 1) rfl<|dk<|w_ret<|?_;obtain rfl:=os hf;exact r_flat ⟨trivial,trivial⟩ rfl (.refl _)
  ·refine w_condf rfl (bf c9)<|w_skip<|k_seq<|awp_seq<|sr<|s_mov (.int .i64 x_1) rfl<|s_mov (.int .i64 y_2) rfl<|s_q (.bool (decide (x_1 < y_2))) rfl rfl rfl<|dk<|?_
   rcases oi hf with ⟨c10,hf⟩ | ⟨c10,hf⟩
   ·refine w_condt rfl c10<|sr<|s_mov (.int .i64 (-1)) rfl<|dk<|w_ret<|?_;obtain rfl:=os hf;exact r_flat ⟨trivial,trivial⟩ rfl (.refl _)
   ·refine w_condf rfl (bf c10)<|w_skip<|k_seq<|awp_seq<|sr<|s_mov (.int .i64 x_1) rfl<|s_mov (.int .i64 y_2) rfl<|s_q (.bool (decide (x_1 > y_2))) rfl rfl rfl<|dk<|?_
    rcases oi hf with ⟨c11,hf⟩ | ⟨c11,hf⟩
    ·refine w_condt rfl c11<|sr<|s_mov (.int .i64 1) rfl<|dk<|w_ret<|?_;obtain rfl:=os hf;exact r_flat ⟨trivial,trivial⟩ rfl (.refl _)
    ·refine w_condf rfl (bf c11)<|w_skip<|k_seq<|sr<|s_mov (.int .i64 0) rfl<|dk<|w_ret<|?_;obtain rfl:=os hf;exact r_flat ⟨trivial,trivial⟩ rfl (.refl _)

/- internal/bytealg.CompareString -/
def internal_bytealg_CompareString (a b:Str):Option Int:=some (Lib.compareBytes a b)
set_option maxRecDepth 100000 in
open Go.RowKit in
theorem cmps_run (a b:ByteArray) (w:World):Calls Tryz.prog 188 #[.string a,.string b] w fun e w' => e = .returned (.int .i64 (Lib.compareBytes a.data.toList b.data.toList)) ∧ w' = w:=by
  go_enter Tryz.func188,(show Tryz.f188.ntmps = _ from rfl)
  go_wp2
  rw [run_callFunc_extern Tryz.func189 (by kernel_rfl) (by kernel_rfl) (by kernel_rfl) (e:=Extern.BytealgCompare.compare) (by kernel_rfl),Lib.run_compareString]
  simp only [Result.andThen]
  rw [Oper.upon_value]
  go_wp2
  go_ret
  exact ⟨rfl,rfl⟩
open Go.RowKit in
theorem w_internal_bytealg_CompareString (a b:Str) (r:Int) (hf:internal_bytealg_CompareString a b = some r):CallOK Tryz.prog 188 .flat [(.str a),(.str b)] (.int .i64 r):=by
  intro w vals fps hr
  simp only [RepVs,Rep] at hr
  obtain ⟨v1,vs1,f1,f2,rfl,⟨rfl,h1,rfl⟩,⟨v2,vs2,f3,f4,rfl,⟨rfl,h2,rfl⟩,⟨rfl,rfl⟩,rfl⟩,rfl⟩:=hr
  unfold internal_bytealg_CompareString at hf
  obtain rfl:=os hf
  refine (cmps_run ⟨a.toArray⟩ ⟨b.toArray⟩ w).mono ?_
  rintro e w' ⟨rfl,rfl⟩
  refine ⟨Below.refl _ _,?_⟩
  exact ⟨[.int .i64 (Lib.compareBytes a b)],rfl,by simp [Rep]⟩

/- strings.Compare -/
def c184:ACode :=
 (.seq (.reg (tm 4 (.c (.int .i64 0)) .done))
 (.seq (.reg (tm 5 (.t 0) (tm 6 (.t 1) (tq 7 (.call 188 [(.t 5),(.t 6)]) (tm 4 (.t 7) .done)))))
 .ret))
theorem fc184:fcomp Tryz.prog Tryz.f184 = some (c184.erase,[.mov (.t 4)],8):=by kernel_rfl
def strings_Compare (a_1:Str) (b_2:Str):Option Int :=
    (internal_bytealg_CompareString a_1 b_2).bind fun r_3 =>
    some r_3
theorem w_strings_Compare (a_1:Str) (b_2:Str) (r:Int) (hf:strings_Compare a_1 b_2 = some r):CallOK Tryz.prog 184 .flat [(.str a_1),(.str b_2)] (.int .i64 r):=by
  refine CallOK.of_awp mixed Tryz.func184 fc184 nle ?_
  rw [argT_eq]
  unfold strings_Compare at hf
  unfold c184
  refine (show awp Tryz.prog false 0 _ (ofL [(0,(.str a_1)),(1,(.str b_2))]) [] _ from ?_)
  refine awp_seq ?_
  refine w_reg ?_
  refine s_do (o_mov (.int .i64 0) rfl) ?_
  refine w_done ?_
  refine k_seq ?_
  refine awp_seq ?_
  refine w_reg ?_
  obtain ⟨r_3,er4,hf⟩:=ob hf
  refine s_do (o_mov (.str a_1) rfl) ?_
  refine s_do (o_mov (.str b_2) rfl) ?_
  refine s_do (o_call (w_internal_bytealg_CompareString _ _ _ er4) rfl (.refl _) rfl) ?_
  refine s_do (o_mov (.int .i64 r_3) rfl) ?_
  refine w_done ?_
  refine k_seq ?_
  refine w_ret ?_
  obtain rfl:=os hf
  exact r_flat ⟨trivial,trivial⟩ rfl (.refl _)

/- cmp.Or[int] -/
def c182:ACode :=
 (.seq (.reg (tm 2 (.c (.int .i64 0)) .done))
 (.seq (.reg (tm 3 (.c (.int .i64 0)) .done))
 (.seq (.seq (.reg (tm 6 (.t 0) (tq 7 (.len (.t 6)) (tm 8 (.c (.int .i64 0)) .done))))
 (.block 0 (.loop (.seq (.reg (tq 9 (.bin .lss (.t 8) (.t 7)) .done))
 (.seq (.cond (.t 9) .skip
 (.exit 0))
 (.seq (.block 1 (.seq (.reg (tq 10 (.iaddr 1 (.t 6) (.t 8)) (tq 11 (.load 1 false (.t 10)) (tm 5 (.t 11) .done))))
 (.seq (.reg (tm 12 (.t 5) (tm 13 (.t 3) (tq 14 (.bin .neq (.t 12) (.t 13)) .done))))
 (.cond (.t 14) (.seq (.reg (tm 15 (.t 5) (tm 2 (.t 15) .done)))
 .ret)
 .skip))))
 (.reg (tq 16 (.bin .add (.t 8) (.c (.int .i64 1))) (tm 8 (.t 16) .done)))))))))
 (.cut (.seq (.reg (tm 17 (.t 3) (tm 2 (.t 17) .done)))
 .ret)))))
theorem fc182:fcomp Tryz.prog Tryz.f182 = some (c182.erase,[.mov (.t 2)],18):=by kernel_rfl
def cmp_Or_int_L1 :List Int → Option (Fl Int Unit)
  | [] =>
    some (.go ())
  | x_24 :: xs =>
    if (x_24 != 0) then
    some (.ret x_24)
    else
    cmp_Or_int_L1 xs 

def cmp_Or_int (vals_1:(List Int)):Option Int :=
    (cmp_Or_int_L1 vals_1 ).bind fun q => (match q with
    | .ret r => some r
    | .go _ =>
    some 0)
theorem w_cmp_Or_int (vals_1:(List Int)) (r:Int) (hf:cmp_Or_int vals_1 = some r):CallOK Tryz.prog 182 .flat [(.lst 1 (vals_1.map encI))] (.int .i64 r):=by
 refine CallOK.of_awp mixed Tryz.func182 fc182 nle ?_;rw [argT_eq];unfold cmp_Or_int at hf;unfold c182;refine (show awp Tryz.prog false 0 _ (ofL [(0,(.lst 1 (vals_1.map encI)))]) [] _ from ?_);refine sr<|s_mov (.int .i64 0) rfl<|dk<|sr<|s_mov (.int .i64 0) rfl<|dk<|awp_seq<|sr<|s_mov (.lst 1 (vals_1.map encI)) rfl<|s_dof (o_len (enc:=encI) rfl) fun hl2 => s_mov (.int .i64 0) rfl<|dk<|?_
 obtain ⟨p17,hb1,hf⟩:=ob hf
 refine awp_cutx (X:={q:Unit // p17 = .go q}) (fun q => ([(3,(.int .i64 0))],[])) ?_ ?_
 ·refine awp_loop (X:={q:Nat // cmp_Or_int_L1 (vals_1.drop q)  = some p17}) (fun q => ([(3,(.int .i64 0)),(6,(.lst 1 (vals_1.map encI))),(7,(.int .i64 (vals_1.length:Int))),(8,(.int .i64 (q.1:Int)))],[])) (fun q => vals_1.length - q.1) ⟨0,hb1⟩ ⟨[],[],_,_,rfl,rfl,⟨.refl _,⟨.refl _,⟨.refl _,⟨.refl _,trivial⟩⟩⟩⟩,(.refl _)⟩ ?_
  rintro ⟨s8_12,hc1⟩
  have hc1:cmp_Or_int_L1 (vals_1.drop s8_12)  = some p17:=hc1
  refine (show awp Tryz.prog false 0 _ (ofL [(3,(.int .i64 0)),(6,(.lst 1 (vals_1.map encI))),(7,(.int .i64 (vals_1.length:Int))),(8,(.int .i64 (s8_12:Int)))]) [] _ from ?_)
  rcases dropc vals_1 s8_12 with ⟨hie20,hd23⟩ | ⟨hlt18,x_24,hx19,hd23⟩
  ·rw [hd23,cmp_Or_int_L1.eq_1] at hc1
   have hq22:=dlf hie20
   refine sr<|s_q (.bool (decide ((s8_12:Int) < (vals_1.length:Int)))) rfl rfl rfl<|dk<|awp_seq<|w_condf rfl hq22<|w_exit<|k_seqx<|k_loopx<|k_blkx<|?_;obtain rfl:=os hc1;exact k_cutn ⟨_,rfl⟩ ⟨[],[],_,_,rfl,rfl,⟨.refl _,trivial⟩,(.refl _)⟩
  ·rw [hd23,cmp_Or_int_L1.eq_2] at hc1
   have hq22:=dlt hlt18
   refine sr<|s_q (.bool (decide ((s8_12:Int) < (vals_1.length:Int)))) rfl rfl rfl<|dk<|awp_seq<|w_condt rfl hq22<|w_skip<|k_seq<|awp_seq<|w_blk<|sr<|s_do (o_iaddrn (enc:=encI) rfl rfl hx19)<|s_q (.int .i64 x_24) rfl ⟨rfl,rfl⟩ rfl<|s_mov (.int .i64 x_24) rfl<|dk<|sr<|s_mov (.int .i64 x_24) rfl<|s_mov (.int .i64 0) rfl<|s_q (.bool (x_24 != 0)) rfl rfl rfl<|dk<|?_
   rcases oi hc1 with ⟨c25,hc1⟩ | ⟨c25,hc1⟩
   ·refine w_condt rfl c25<|sr<|s_mov (.int .i64 x_24) rfl<|s_mov (.int .i64 x_24) rfl<|dk<|w_ret<|?_;obtain rfl:=os hc1;obtain rfl:=os hf;exact r_flat ⟨trivial,trivial⟩ rfl (.refl _)
   ·refine w_condf rfl (bf c25)<|w_skip<|k_blk<|k_seq<|w_reg<|s_q (.int .i64 (w64 ((s8_12:Int) + 1))) rfl rfl rfl<|s_mov (.int .i64 (w64 ((s8_12:Int) + 1))) rfl<|w_done<|?_;exact k_loopn ⟨(s8_12 + 1),hc1⟩ (mul hlt18) ⟨[],[],_,_,rfl,rfl,⟨.refl _,⟨.refl _,⟨.refl _,⟨.of_eq (congrArg (AV.int _) (w64_incr hlt18 hl2)),trivial⟩⟩⟩⟩,(.refl _)⟩
 ·rintro ⟨_,rfl⟩
  refine sr<|s_mov (.int .i64 0) rfl<|s_mov (.int .i64 0) rfl<|dk<|w_ret<|?_;obtain rfl:=os hf;exact r_flat ⟨trivial,trivial⟩ rfl (.refl _)

/- impl.compareAtoms -/
def c159:ACode :=
 (.seq (.reg (tq 2 (.box 3 (.t 0)) (tq 3 (.box 3 (.t 1)) (tm 4 (.c (.int .i64 0)) .done))))
 (.seq (.reg (tq 5 (.faddr 0 (.t 2)) (tq 6 (.load 1 false (.t 5)) (tq 7 (.faddr 0 (.t 3)) (tq 8 (.load 1 false (.t 7)) (tq 10 (.faddr 1 (.t 2)) (tq 11 (.load 1 false (.t 10)) (tq 12 (.faddr 1 (.t 3)) (tq 13 (.load 1 false (.t 12)) (tq 15 (.faddr 2 (.t 2)) (tq 16 (.load 1 false (.t 15)) (tq 17 (.faddr 2 (.t 3)) (tq 18 (.load 1 false (.t 17)) (.l ⟨(some 9),none,.call 183 [(.t 6),(.t 8)]⟩ [⟨(some 18),none,.load 1 false (.t 17)⟩,⟨(some 17),none,.faddr 2 (.t 3)⟩,⟨(some 16),none,.load 1 false (.t 15)⟩,⟨(some 15),none,.faddr 2 (.t 2)⟩,⟨(some 13),none,.load 1 false (.t 12)⟩,⟨(some 12),none,.faddr 1 (.t 3)⟩,⟨(some 11),none,.load 1 false (.t 10)⟩,⟨(some 10),none,.faddr 1 (.t 2)⟩]
 (.l ⟨(some 14),none,.call 183 [(.t 11),(.t 13)]⟩ [⟨(some 18),none,.load 1 false (.t 17)⟩,⟨(some 17),none,.faddr 2 (.t 3)⟩,⟨(some 16),none,.load 1 false (.t 15)⟩,⟨(some 15),none,.faddr 2 (.t 2)⟩]
 (.l ⟨(some 19),none,.call 184 [(.t 16),(.t 18)]⟩ []
 (.l ⟨(some 20),none,.bslice 1 [(.t 9),(.t 14),(.t 19)]⟩ []
 (.l ⟨(some 21),none,.call 182 [(.t 20)]⟩ []
 (tm 4 (.t 21) .done) .non) .non) .non) .non) .non))))))))))))))
 .ret))
theorem fc159:fcomp Tryz.prog Tryz.f159 = some (c159.erase,[.mov (.t 4)],22):=by kernel_rfl
def impl_compareAtoms (a_1:GAtom) (b_2:GAtom):Option Int :=
    (cmp_Compare_int a_1.Kind b_2.Kind).bind fun r_3 =>
    (cmp_Compare_int a_1.N b_2.N).bind fun r_5 =>
    (strings_Compare a_1.T b_2.T).bind fun r_7 =>
    (cmp_Or_int [r_3,r_5,r_7]).bind fun r_9 =>
    some r_9
theorem w_impl_compareAtoms (a_1:GAtom) (b_2:GAtom) (r:Int) (hf:impl_compareAtoms a_1 b_2 = some r):CallOK Tryz.prog 159 .flat [(encGAtom a_1),(encGAtom b_2)] (.int .i64 r):=by
 refine CallOK.of_awp mixed Tryz.func159 fc159 nle ?_;rw [argT_eq];unfold impl_compareAtoms at hf;unfold c159;refine (show awp Tryz.prog false 0 _ (ofL [(0,(encGAtom a_1)),(1,(encGAtom b_2))]) [] _ from ?_);refine sr<|s_do (o_box (j:=0) (c:=(.agg [(.int .i64 a_1.Kind),(.int .i64 a_1.N),(.str a_1.T)])) rfl trivial rfl rfl)<|s_do (o_box (j:=1) (c:=(.agg [(.int .i64 b_2.Kind),(.int .i64 b_2.N),(.str b_2.T)])) rfl trivial rfl rfl)<|s_mov (.int .i64 0) rfl<|dk<|sr<|s_q (.ptr 0 0 0) rfl trivial rfl<|s_q (.int .i64 a_1.Kind) rfl nle rfl<|s_q (.ptr 1 0 0) rfl trivial rfl<|s_q (.int .i64 b_2.Kind) rfl nle rfl<|s_q (.ptr 0 0 1) rfl trivial rfl<|s_q (.int .i64 a_1.N) rfl nle rfl<|?_
 refine s_q (.ptr 1 0 1) rfl trivial rfl<|s_q (.int .i64 b_2.N) rfl nle rfl<|s_q (.ptr 0 0 2) rfl trivial rfl<|s_q (.str a_1.T) rfl nle rfl<|s_q (.ptr 1 0 2) rfl trivial rfl<|s_q (.str b_2.T) rfl nle rfl<|?_
 obtain ⟨r_3,er4,hf⟩:=ob hf
 refine s_dol (o_call (w_cmp_Compare_int _ _ _ er4) rfl (.refl _) rfl) a_same trivial ?_
 obtain ⟨r_5,er6,hf⟩:=ob hf
 refine s_dol (o_call (w_cmp_Compare_int _ _ _ er6) rfl (.refl _) rfl) a_same trivial ?_
 obtain ⟨r_7,er8,hf⟩:=ob hf
 refine s_dol (o_call (w_strings_Compare _ _ _ er8) rfl (.refl _) rfl) a_same trivial ?_;refine s_dol (o_bslice (j:=2) (as':=[(.int .i64 r_3),(.int .i64 r_5),(.int .i64 r_7)]) rfl (fun _ => by decide) ⟨rfl,⟨rfl,⟨rfl,trivial⟩⟩⟩ (.refl _) rfl rfl rfl) trivial trivial ?_
 obtain ⟨r_9,er10,hf⟩:=ob hf
 refine s_dol (o_call (w_cmp_Or_int _ _ er10) rfl (.cons (.of_eq (congrArg (AV.lst _) (tko [r_3,r_5,r_7]))) .nil) rfl) a_same trivial<|s_mov (.int .i64 r_9) rfl<|dk<|w_ret<|?_;obtain rfl:=os hf;exact r_flat ⟨trivial,trivial⟩ rfl (.refl _)

/- impl.DatumOK -/
def c111:ACode :=
 (.seq (.reg (tm 2 (.c (.bool false)) .done))
 (.seq (.seq (.reg (tm 5 (.t 0) (tq 6 (.len (.t 5)) (tm 7 (.c (.int .i64 0)) .done))))
 (.block 0 (.loop (.seq (.reg (tq 8 (.bin .lss (.t 7) (.t 6)) .done))
 (.seq (.cond (.t 8) .skip
 (.exit 0))
 (.seq (.block 1 (.seq (.reg (tm 9 (.t 7) (tq 10 (.iaddr 3 (.t 5) (.t 7)) (tq 11 (.load 3 true (.t 10)) (tq 4 (.box 3 (.c (.agg [(.int .i64 0),(.int .i64 0),(.str [])]))) (tm 3 (.t 9) (.q ⟨none,none,.store 3 (.t 4) (.t 11)⟩
 .done)))))))
 (.seq (.reg (tq 12 (.load 3 true (.t 4)) (.l ⟨(some 13),none,.call 158 [(.t 12)]⟩ []
 (tq 14 (.not (.t 13)) (tm 15 (.t 14) (tg 16 15 false (.faddr 0 (.t 4)) (tg 17 15 false (.load 1 false (.t 16)) (tg 18 15 false (.mov (.t 0)) (tg 19 15 false (.iaddr 3 (.t 18) (.c (.int .i64 0))) (tg 20 15 false (.faddr 0 (.t 19)) (tg 21 15 false (.load 1 false (.t 20)) (tg 22 15 false (.bin .neq (.t 17) (.t 21)) (tq 23 (.pick (.t 15) (.c (.bool true)) (.t 22)) (tm 24 (.t 23) (tg 25 24 false (.mov (.t 3)) (tg 26 24 false (.bin .gtr (.t 25) (.c (.int .i64 0))) (tg 27 24 false (.mov (.t 26)) (tg 28 27 true (.mov (.t 0)) (tg 29 27 true (.mov (.t 3)) (tg 30 27 true (.bin .sub (.t 29) (.c (.int .i64 1))) (tg 31 27 true (.iaddr 3 (.t 28) (.t 30)) (tg 32 27 true (.load 3 true (.t 31)) (tg 33 27 true (.load 3 true (.t 4)) (.l ⟨(some 34),(some (27,true)),.call 159 [(.t 32),(.t 33)]⟩ []
 (tg 35 27 true (.bin .geq (.t 34) (.c (.int .i64 0))) (tg 36 24 false (.pick (.t 27) (.t 35) (.c (.bool false))) (tq 37 (.pick (.t 24) (.c (.bool true)) (.t 36)) .done))) .non))))))))))))))))))))) .non)))
 (.cut (.cond (.t 37) (.seq (.reg (tm 2 (.c (.bool false)) .done))
 .ret)
 .skip)))))
 (.reg (tq 38 (.bin .add (.t 7) (.c (.int .i64 1))) (tm 7 (.t 38) .done)))))))))
 (.cut (.seq (.reg (tm 39 (.t 0) (tq 40 (.len (.t 39)) (tq 41 (.bin .leq (.t 40) (.c (.int .i64 8))) (tm 2 (.t 41) .done)))))
 .ret))))
theorem fc111:fcomp Tryz.prog Tryz.f111 = some (c111.erase,[.mov (.t 2)],42):=by kernel_rfl
def impl_DatumOK_L1 (d_1:(List GAtom)):List GAtom → Nat → Option (Fl Bool Unit)
  | [],s7_60 =>
    some (.go ())
  | x_96 :: xs,s7_60 =>
    (((impl_AtomOK x_96).bind fun r_110 =>
    if (!r_110) then
    some true
    else
    (idx d_1 0).bind fun x_113 =>
    if (x_96.Kind != x_113.Kind) then
    some true
    else
    if (decide ((s7_60:Int) > 0)) then
    (idx d_1 (w64 ((s7_60:Int) - 1))).bind fun x_117 =>
    (impl_compareAtoms x_117 x_96).bind fun r_119 =>
    some (decide (r_119 ≥ 0))
    else
    some false:Option Bool)).bind fun s37_108 =>
    if s37_108 then
    some (.ret false)
    else
    impl_DatumOK_L1 d_1 xs (s7_60 + 1)

def impl_DatumOK (d_1:(List GAtom)):Option Bool :=
    (impl_DatumOK_L1 d_1 d_1 0).bind fun q => (match q with
    | .ret r => some r
    | .go _ =>
    some (decide ((d_1.length:Int) ≤ 8)))
theorem w_impl_DatumOK (d_1:(List GAtom)) (r:Bool) (hf:impl_DatumOK d_1 = some r):CallOK Tryz.prog 111 .flat [(.lst 3 (d_1.map encGAtom))] (.bool r):=by
 refine CallOK.of_awp mixed Tryz.func111 fc111 nle ?_;rw [argT_eq];unfold impl_DatumOK at hf;unfold c111;refine (show awp Tryz.prog false 0 _ (ofL [(0,(.lst 3 (d_1.map encGAtom)))]) [] _ from ?_);refine sr<|s_mov (.bool false) rfl<|dk<|awp_seq<|sr<|s_mov (.lst 3 (d_1.map encGAtom)) rfl<|s_dof (o_len (enc:=encGAtom) rfl) fun hl2 => s_mov (.int .i64 0) rfl<|dk<|?_
 obtain ⟨p89,hb1,hf⟩:=ob hf
 refine awp_cutx (X:={q:Unit // p89 = .go q}) (fun q => ([(0,(.lst 3 (d_1.map encGAtom)))],[])) ?_ ?_
 ·refine awp_loop (X:={q:Nat // impl_DatumOK_L1 d_1 (d_1.drop q) q = some p89}) (fun q => ([(0,(.lst 3 (d_1.map encGAtom))),(5,(.lst 3 (d_1.map encGAtom))),(6,(.int .i64 (d_1.length:Int))),(7,(.int .i64 (q.1:Int)))],[])) (fun q => d_1.length - q.1) ⟨0,hb1⟩ ⟨[],[],_,_,rfl,rfl,⟨.refl _,⟨.refl _,⟨.refl _,⟨.refl _,trivial⟩⟩⟩⟩,(.refl _)⟩ ?_
  rintro ⟨s7_60,hc1⟩
  have hc1:impl_DatumOK_L1 d_1 (d_1.drop s7_60) s7_60 = some p89:=hc1
  refine (show awp Tryz.prog false 0 _ (ofL [(0,(.lst 3 (d_1.map encGAtom))),(5,(.lst 3 (d_1.map encGAtom))),(6,(.int .i64 (d_1.length:Int))),(7,(.int .i64 (s7_60:Int)))]) [] _ from ?_)
  rcases dropc d_1 s7_60 with ⟨hie92,hd95⟩ | ⟨hlt90,x_96,hx91,hd95⟩
  ·rw [hd95,impl_DatumOK_L1.eq_1] at hc1
   have hq94:=dlf hie92
   refine sr<|s_q (.bool (decide ((s7_60:Int) < (d_1.length:Int)))) rfl rfl rfl<|dk<|awp_seq<|w_condf rfl hq94<|w_exit<|k_seqx<|k_loopx<|k_blkx<|?_;obtain rfl:=os hc1;exact k_cutn ⟨_,rfl⟩ ⟨[],[],_,_,rfl,rfl,⟨.refl _,trivial⟩,(.refl _)⟩
  ·rw [hd95,impl_DatumOK_L1.eq_2] at hc1
   have hq94:=dlt hlt90
   refine sr<|s_q (.bool (decide ((s7_60:Int) < (d_1.length:Int)))) rfl rfl rfl<|dk<|awp_seq<|w_condt rfl hq94<|w_skip<|k_seq<|awp_seq<|w_blk<|sr<|s_mov (.int .i64 (s7_60:Int)) rfl<|s_do (o_iaddrn (enc:=encGAtom) rfl rfl hx91)<|s_q (encGAtom x_96) rfl nle rfl<|s_do (o_box (j:=0) (c:=(.agg [(.int .i64 0),(.int .i64 0),(.str [])])) rfl trivial rfl rfl)<|s_mov (.int .i64 (s7_60:Int)) rfl<|s_do0 (o_storebox (v:=(.agg [(.int .i64 x_96.Kind),(.int .i64 x_96.N),(.str x_96.T)])) (y':=(.agg [(.int .i64 x_96.Kind),(.int .i64 x_96.N),(.str x_96.T)])) rfl rfl rfl trivial ⟨rfl,nle⟩ ⟨⟨rfl,trivial⟩,⟨⟨rfl,trivial⟩,⟨⟨rfl,trivial⟩,trivial⟩⟩⟩ rfl)<|?_
   refine dk<|awp_seq<|?_
   obtain ⟨s37_108,hb2,hc1⟩:=ob hc1
   refine awp_cut ([(0,(.lst 3 (d_1.map encGAtom))),(5,(.lst 3 (d_1.map encGAtom))),(6,(.int .i64 (d_1.length:Int))),(7,(.int .i64 (s7_60:Int))),(37,(.bool s37_108))],[]) ?_ ?_
   ·refine w_reg<|s_q (.agg [(.int .i64 x_96.Kind),(.int .i64 x_96.N),(.str x_96.T)]) rfl nle rfl<|?_
    obtain ⟨r_110,er111,hb2⟩:=ob hb2
    refine s_dol (o_call (w_impl_AtomOK _ _ er111) rfl (.refl _) rfl) a_same trivial<|s_q (.bool (!r_110)) rfl trivial rfl<|s_mov (.bool (!r_110)) rfl<|?_
    rcases oi hb2 with ⟨c112,hb2⟩ | ⟨c112,hb2⟩
    ·refine s_lit (s:=15) (b:=true) rfl c112<|s_off rfl rfl<|s_off rfl rfl<|s_off rfl rfl<|s_off rfl rfl<|s_off rfl rfl<|s_off rfl rfl<|s_off rfl rfl<|s_q (.bool true) rfl trivial rfl<|s_mov (.bool true) rfl<|s_off rfl rfl<|s_off rfl rfl<|s_off rfl rfl<|s_offs rfl<|s_offs rfl<|s_offs rfl<|s_offs rfl<|s_offs rfl<|s_offs rfl<|s_offsl rfl trivial<|s_offs rfl<|s_off rfl rfl<|s_q (.bool true) rfl trivial rfl<|w_done<|?_;obtain rfl:=os hb2;exact ⟨[],[],_,_,rfl,rfl,⟨.refl _,⟨.refl _,⟨.refl _,⟨.refl _,⟨.refl _,trivial⟩⟩⟩⟩⟩,(.refl _)⟩
    ·refine s_lit (s:=15) (b:=false) rfl (bf c112)<|s_on rfl<|s_q (.ptr 0 0 0) rfl trivial rfl<|s_on rfl<|s_q (.int .i64 x_96.Kind) rfl nle rfl<|s_on rfl<|s_mov (.lst 3 (d_1.map encGAtom)) rfl<|s_on rfl<|?_
     obtain ⟨x_113,ex114,hb2⟩:=ob hb2
     refine s_do (o_iaddr (enc:=encGAtom) rfl rfl (idx0 ex114) (idx1 ex114))<|s_on rfl<|s_q (.iptr (encGAtom x_113) 0) rfl trivial rfl<|s_on rfl<|s_q (.int .i64 x_113.Kind) rfl nle rfl<|s_on rfl<|s_q (.bool (x_96.Kind != x_113.Kind)) rfl rfl rfl<|s_q (.bool (x_96.Kind != x_113.Kind)) rfl trivial rfl<|s_mov (.bool (x_96.Kind != x_113.Kind)) rfl<|?_
     rcases oi hb2 with ⟨c115,hb2⟩ | ⟨c115,hb2⟩
     ·refine s_lit (s:=24) (b:=true) rfl c115<|s_off rfl rfl<|s_off rfl rfl<|s_off rfl rfl<|s_offs rfl<|s_offs rfl<|s_offs rfl<|s_offs rfl<|s_offs rfl<|s_offs rfl<|s_offsl rfl trivial<|s_offs rfl<|s_off rfl rfl<|s_q (.bool true) rfl trivial rfl<|w_done<|?_;obtain rfl:=os hb2;exact ⟨[],[],_,_,rfl,rfl,⟨.refl _,⟨.refl _,⟨.refl _,⟨.refl _,⟨.refl _,trivial⟩⟩⟩⟩⟩,(.refl _)⟩
     ·refine s_lit (s:=24) (b:=false) rfl (bf c115)<|s_on rfl<|s_mov (.int .i64 (s7_60:Int)) rfl<|s_on rfl<|s_q (.bool (decide ((s7_60:Int) > 0))) rfl rfl rfl<|s_on rfl<|s_mov (.bool (decide ((s7_60:Int) > 0))) rfl<|?_
      rcases oi hb2 with ⟨c116,hb2⟩ | ⟨c116,hb2⟩
      ·refine s_lit (s:=27) (b:=true) rfl c116<|s_on rfl<|s_mov (.lst 3 (d_1.map encGAtom)) rfl<|s_on rfl<|s_mov (.int .i64 (s7_60:Int)) rfl<|s_on rfl<|s_q (.int .i64 (w64 ((s7_60:Int) - 1))) rfl rfl rfl<|s_on rfl<|?_
       obtain ⟨x_117,ex118,hb2⟩:=ob hb2
       refine s_do (o_iaddr (enc:=encGAtom) rfl rfl (idx0 ex118) (idx1 ex118))<|s_on rfl<|s_q (encGAtom x_117) rfl nle rfl<|s_on rfl<|s_q (.agg [(.int .i64 x_96.Kind),(.int .i64 x_96.N),(.str x_96.T)]) rfl nle rfl<|s_onl rfl<|?_
       obtain ⟨r_119,er120,hb2⟩:=ob hb2
       refine s_dol (o_call (w_impl_compareAtoms _ _ _ er120) rfl (.refl _) rfl) a_same trivial<|s_on rfl<|s_q (.bool (decide (r_119 ≥ 0))) rfl rfl rfl<|s_on rfl<|s_q (.bool (decide (r_119 ≥ 0))) rfl trivial rfl<|s_q (.bool (decide (r_119 ≥ 0))) rfl trivial rfl<|w_done<|?_;obtain rfl:=os hb2;exact ⟨[],[],_,_,rfl,rfl,⟨.refl _,⟨.refl _,⟨.refl _,⟨.refl _,⟨.refl _,trivial⟩⟩⟩⟩⟩,(.refl _)⟩
      ·refine s_lit (s:=27) (b:=false) rfl (bf c116)<|s_off rfl rfl<|s_off rfl rfl<|s_off rfl rfl<|s_off rfl rfl<|s_off rfl rfl<|s_off rfl rfl<|s_offl rfl rfl trivial<|s_off rfl rfl<|s_on rfl<|s_q (.bool false) rfl trivial rfl<|s_q (.bool false) rfl trivial rfl<|w_done<|?_;obtain rfl:=os hb2;exact ⟨[],[],_,_,rfl,rfl,⟨.refl _,⟨.refl _,⟨.refl _,⟨.refl _,⟨.refl _,trivial⟩⟩⟩⟩⟩,(.refl _)⟩
   ·rcases oi hc1 with ⟨c121,hc1⟩ | ⟨c121,hc1⟩
    ·refine w_condt rfl c121<|sr<|s_mov (.bool false) rfl<|dk<|w_ret<|?_;obtain rfl:=os hc1;obtain rfl:=os hf;exact r_flat ⟨trivial,trivial⟩ rfl (.refl _)
    ·refine w_condf rfl (bf c121)<|w_skip<|k_blk<|k_seq<|w_reg<|s_q (.int .i64 (w64 ((s7_60:Int) + 1))) rfl rfl rfl<|s_mov (.int .i64 (w64 ((s7_60:Int) + 1))) rfl<|w_done<|?_;exact k_loopn ⟨(s7_60 + 1),hc1⟩ (mul hlt90) ⟨[],[],_,_,rfl,rfl,⟨.refl _,⟨.refl _,⟨.refl _,⟨.of_eq (congrArg (AV.int _) (w64_incr hlt90 hl2)),trivial⟩⟩⟩⟩,(.refl _)⟩
 ·rintro ⟨_,rfl⟩
  refine sr<|s_mov (.lst 3 (d_1.map encGAtom)) rfl<|s_dof (o_len (enc:=encGAtom) rfl) fun hl122 => s_q (.bool (decide ((d_1.length:Int) ≤ 8))) rfl rfl rfl<|s_mov (.bool (decide ((d_1.length:Int) ≤ 8))) rfl<|dk<|w_ret<|?_;obtain rfl:=os hf;exact r_flat ⟨trivial,trivial⟩ rfl (.refl _)

/- impl.condOK -/
def c139:ACode :=
 (.seq (.reg (tq 1 (.box 3 (.t 0)) (tm 2 (.c (.bool false)) .done)))
 (.seq (.reg (tq 3 (.faddr 1 (.t 1)) (tq 4 (.load 1 false (.t 3)) (tq 5 (.call 58 [(.t 4),(.c (.int .i64 1)),(.c (.int .i64 8))]) (tm 6 (.t 5) (tg 7 6 true (.faddr 2 (.t 1)) (tg 8 6 true (.load 1 false (.t 7)) (tg 9 6 true (.call 111 [(.t 8)]) (tq 10 (.pick (.t 6) (.t 9) (.c (.bool false))) (tm 11 (.t 10) (tg 12 11 true (.faddr 0 (.t 1)) (tg 13 11 true (.load 1 false (.t 12)) (tg 14 11 true (.bslice 1 [(.t 13)]) (tg 15 11 true (.call 87 [(.t 14)]) (tq 16 (.pick (.t 11) (.t 15) (.c (.bool false))) (tm 2 (.t 16) .done))))))))))))))))
 .ret))
theorem fc139:fcomp Tryz.prog Tryz.f139 = some (c139.erase,[.mov (.t 2)],17):=by kernel_rfl
def impl_condOK (c_1:GCond):Option Bool :=
    (impl_within c_1.Func 1 8).bind fun r_2 =>
    if r_2 then
    (impl_DatumOK c_1.Value).bind fun r_5 =>
    if r_5 then
    (impl_areShort [c_1.Column]).bind fun r_8 =>
    some r_8
    else
    some false
    else
    some false
theorem w_impl_condOK (c_1:GCond) (r:Bool) (hf:impl_condOK c_1 = some r):CallOK Tryz.prog 139 .flat [(encGCond c_1)] (.bool r):=by
 refine CallOK.of_awp mixed Tryz.func139 fc139 nle ?_;rw [argT_eq];unfold impl_condOK at hf;unfold c139;refine (show awp Tryz.prog false 0 _ (ofL [(0,(encGCond c_1))]) [] _ from ?_);refine sr<|s_do (o_box (j:=0) (c:=(.agg [(.str c_1.Column),(.int .i64 c_1.Func),(.lst 3 (c_1.Value.map encGAtom))])) rfl trivial rfl rfl)<|s_mov (.bool false) rfl<|dk<|sr<|s_q (.ptr 0 0 1) rfl trivial rfl<|s_q (.int .i64 c_1.Func) rfl nle rfl<|?_
 obtain ⟨r_2,er3,hf⟩:=ob hf
 refine s_do (o_call (w_impl_within _ _ _ _ er3) rfl (.refl _) rfl)<|s_mov (.bool r_2) rfl<|?_
 rcases oi hf with ⟨c4,hf⟩ | ⟨c4,hf⟩
 ·refine s_lit (s:=6) (b:=true) rfl c4<|s_on rfl<|s_q (.ptr 0 0 2) rfl trivial rfl<|s_on rfl<|s_q (.lst 3 (c_1.Value.map encGAtom)) rfl nle rfl<|s_on rfl<|?_
  obtain ⟨r_5,er6,hf⟩:=ob hf
  refine s_do (o_call (w_impl_DatumOK _ _ er6) rfl (.refl _) rfl)<|s_q (.bool r_5) rfl trivial rfl<|s_mov (.bool r_5) rfl<|?_
  rcases oi hf with ⟨c7,hf⟩ | ⟨c7,hf⟩
  ·refine s_lit (s:=11) (b:=true) rfl c7<|s_on rfl<|s_q (.ptr 0 0 0) rfl trivial rfl<|s_on rfl<|s_q (.str c_1.Column) rfl nle rfl<|s_on rfl<|?_;refine s_do (o_bslice (j:=1) (as':=[(.str c_1.Column)]) rfl (fun _ => by decide) ⟨rfl,trivial⟩ (.refl _) rfl rfl rfl) ?_;refine s_on rfl ?_
   obtain ⟨r_8,er9,hf⟩:=ob hf
   refine s_do (o_call (w_impl_areShort _ _ er9) rfl (.cons (.of_eq (congrArg (AV.lst _) (tko [c_1.Column]))) .nil) rfl)<|s_q (.bool r_8) rfl trivial rfl<|s_mov (.bool r_8) rfl<|dk<|w_ret<|?_;obtain rfl:=os hf;exact r_flat ⟨trivial,trivial⟩ rfl (.refl _)
  ·refine s_lit (s:=11) (b:=false) rfl (bf c7)<|s_off rfl rfl<|s_off rfl rfl<|s_off rfl rfl<|s_off rfl rfl<|s_q (.bool false) rfl trivial rfl<|s_mov (.bool false) rfl<|dk<|w_ret<|?_;obtain rfl:=os hf;exact r_flat ⟨trivial,trivial⟩ rfl (.refl _)
 ·refine s_lit (s:=6) (b:=false) rfl (bf c4)<|s_off rfl rfl<|s_off rfl rfl<|s_off rfl rfl<|s_q (.bool false) rfl trivial rfl<|s_mov (.bool false) rfl<|s_off rfl rfl<|s_off rfl rfl<|s_off rfl rfl<|s_off rfl rfl<|s_q (.bool false) rfl trivial rfl<|s_mov (.bool false) rfl<|dk<|w_ret<|?_;obtain rfl:=os hf;exact r_flat ⟨trivial,trivial⟩ rfl (.refl _)

/- impl.condsOK$1 -/
def c138:ACode :=
 (.seq (.reg (tq 1 (.box 3 (.t 0)) (tm 2 (.c (.bool false)) .done)))
 (.seq (.reg (tq 3 (.load 3 true (.t 1)) (tq 4 (.call 139 [(.t 3)]) (tq 5 (.not (.t 4)) (tm 2 (.t 5) .done)))))
 .ret))
theorem fc138:fcomp Tryz.prog Tryz.f138 = some (c138.erase,[.mov (.t 2)],6):=by kernel_rfl
def impl_condsOK_1 (c_1:GCond):Option Bool :=
    (impl_condOK c_1).bind fun r_2 =>
    some (!r_2)
theorem w_impl_condsOK_1 (c_1:GCond) (r:Bool) (hf:impl_condsOK_1 c_1 = some r):CallOK Tryz.prog 138 .flat [(encGCond c_1)] (.bool r):=by
  refine CallOK.of_awp mixed Tryz.func138 fc138 nle ?_
  rw [argT_eq]
  unfold impl_condsOK_1 at hf
  unfold c138
  refine (show awp Tryz.prog false 0 _ (ofL [(0,(encGCond c_1))]) [] _ from ?_)
  refine awp_seq ?_
  refine w_reg ?_
  refine s_do (o_box (j:=0) (c:=(.agg [(.str c_1.Column),(.int .i64 c_1.Func),(.lst 3 (c_1.Value.map encGAtom))])) rfl trivial rfl rfl) ?_
  refine s_do (o_mov (.bool false) rfl) ?_
  refine w_done ?_
  refine k_seq ?_
  refine awp_seq ?_
  refine w_reg ?_
  obtain ⟨r_2,er3,hf⟩:=ob hf
  refine s_do (o_q (.agg [(.str c_1.Column),(.int .i64 c_1.Func),(.lst 3 (c_1.Value.map encGAtom))]) rfl nle rfl) ?_
  refine s_do (o_call (w_impl_condOK _ _ er3) rfl (.refl _) rfl) ?_
  refine s_do (o_q (.bool (!r_2)) rfl trivial rfl) ?_
  refine s_do (o_mov (.bool (!r_2)) rfl) ?_
  refine w_done ?_
  refine k_seq ?_
  refine w_ret ?_
  obtain rfl:=os hf
  exact r_flat ⟨trivial,trivial⟩ rfl (.refl _)

/- impl.condsOK -/
def c88:ACode :=
 (.seq (.reg (tm 2 (.c (.bool false)) .done))
 (.seq (.reg (tm 3 (.t 0) (tq 4 (.len (.t 3)) (tq 5 (.bin .leq (.t 4) (.c (.int .i64 8))) (tm 6 (.t 5) (tg 7 6 true (.mov (.t 0)) (tg 8 6 true (.call 137 [(.t 7),(.c (.fn 138 []))]) (tg 9 6 true (.not (.t 8)) (tq 10 (.pick (.t 6) (.t 9) (.c (.bool false))) (tm 2 (.t 10) .done))))))))))
 .ret))
theorem fc88:fcomp Tryz.prog Tryz.f88 = some (c88.erase,[.mov (.t 2)],11):=by kernel_rfl
def impl_condsOK (list_1:(List GCond)):Option Bool :=
    if (decide ((list_1.length:Int) ≤ 8)) then
    (slices_ContainsFunc_impl_Cond_impl_Cond list_1 impl_condsOK_1).bind fun r_4 =>
    some (!r_4)
    else
    some false
theorem w_impl_condsOK (list_1:(List GCond)) (r:Bool) (hf:impl_condsOK list_1 = some r):CallOK Tryz.prog 88 .flat [(.lst 3 (list_1.map encGCond))] (.bool r):=by
 refine CallOK.of_awp mixed Tryz.func88 fc88 nle ?_;rw [argT_eq];unfold impl_condsOK at hf;unfold c88;refine (show awp Tryz.prog false 0 _ (ofL [(0,(.lst 3 (list_1.map encGCond)))]) [] _ from ?_);refine sr<|s_mov (.bool false) rfl<|dk<|sr<|?_
 rcases oi hf with ⟨c3,hf⟩ | ⟨c3,hf⟩
 ·obtain ⟨r_4,er5,hf⟩:=ob hf
  refine s_mov (.lst 3 (list_1.map encGCond)) rfl<|s_dof (o_len (enc:=encGCond) rfl) fun hl2 => s_q (.bool (decide ((list_1.length:Int) ≤ 8))) rfl rfl rfl<|s_mov (.bool (decide ((list_1.length:Int) ≤ 8))) rfl<|s_lit (s:=6) (b:=true) rfl c3<|s_on rfl<|s_mov (.lst 3 (list_1.map encGCond)) rfl<|s_on rfl<|?_;refine s_do (o_call (w_slices_ContainsFunc_impl_Cond_impl_Cond _ _ _ er5 138 [] (by kernel_rfl) (fun _ _ => rfl) (fun _ => rfl) (fun a0 r h => w_impl_condsOK_1 a0 r h)) rfl (.refl _) rfl) ?_;refine s_on rfl<|s_q (.bool (!r_4)) rfl trivial rfl<|s_q (.bool (!r_4)) rfl trivial rfl<|s_mov (.bool (!r_4)) rfl<|dk<|w_ret<|?_;obtain rfl:=os hf;exact r_flat ⟨trivial,trivial⟩ rfl (.refl _)
 ·refine s_mov (.lst 3 (list_1.map encGCond)) rfl<|s_dof (o_len (enc:=encGCond) rfl) fun hl2 => s_q (.bool (decide ((list_1.length:Int) ≤ 8))) rfl rfl rfl<|s_mov (.bool (decide ((list_1.length:Int) ≤ 8))) rfl<|s_lit (s:=6) (b:=false) rfl (bf c3)<|s_off rfl rfl<|s_off rfl rfl<|s_off rfl rfl<|s_q (.bool false) rfl trivial rfl<|s_mov (.bool false) rfl<|dk<|w_ret<|?_;obtain rfl:=os hf;exact r_flat ⟨trivial,trivial⟩ rfl (.refl _)

/- slices.IndexFunc[[]impl.Mut,impl.Mut] -/
def c174:ACode :=
 (.seq (.reg (tm 4 (.c (.int .i64 0)) .done))
 (.seq (.seq (.reg (tm 6 (.t 0) (tq 7 (.len (.t 6)) (tm 8 (.c (.int .i64 0)) .done))))
 (.block 0 (.loop (.seq (.reg (tq 9 (.bin .lss (.t 8) (.t 7)) .done))
 (.seq (.cond (.t 9) .skip
 (.exit 0))
 (.seq (.block 1 (.seq (.reg (tm 10 (.t 8) (tm 5 (.t 10) .done)))
 (.seq (.reg (tm 11 (.t 1) (tm 12 (.t 0) (tm 13 (.t 5) (tq 14 (.iaddr 3 (.t 12) (.t 13)) (tq 15 (.load 3 true (.t 14)) (tq 16 (.calv (.t 11) [(.t 15)]) .done)))))))
 (.cond (.t 16) (.seq (.reg (tm 17 (.t 5) (tm 4 (.t 17) .done)))
 .ret)
 .skip))))
 (.reg (tq 18 (.bin .add (.t 8) (.c (.int .i64 1))) (tm 8 (.t 18) .done)))))))))
 (.cut (.seq (.reg (tq 4 (.mov (.c (.int .i64 (-1)))) .done))
 .ret))))
theorem fc174:fcomp Tryz.prog Tryz.f174 = some (c174.erase,[.mov (.t 4)],19):=by kernel_rfl
def slices_IndexFunc_impl_Mut_impl_Mut_L1 (f_2:(GMut → Option Bool)):List GMut → Nat → Option (Fl Int Unit)
  | [],s8_17 =>
    some (.go ())
  | x_31 :: xs,s8_17 =>
    (f_2 x_31).bind fun r_32 =>
    if r_32 then
    some (.ret (s8_17:Int))
    else
    slices_IndexFunc_impl_Mut_impl_Mut_L1 f_2 xs (s8_17 + 1)

def slices_IndexFunc_impl_Mut_impl_Mut (s_1:(List GMut)) (f_2:(GMut → Option Bool)):Option Int :=
    (slices_IndexFunc_impl_Mut_impl_Mut_L1 f_2 s_1 0).bind fun q => (match q with
    | .ret r => some r
    | .go _ =>
    some (-1))
theorem w_slices_IndexFunc_impl_Mut_impl_Mut (s_1:(List GMut)) (f_2:(GMut → Option Bool)) (r:Int) (hf:slices_IndexFunc_impl_Mut_impl_Mut s_1 f_2 = some r) (kf_f_2:Nat) (cf_f_2:List AV) (okf_f_2:okFn Tryz.prog kf_f_2 = true) (hcf_f_2:∀ h p,closeWs h p cf_f_2 = some cf_f_2) (hrf_f_2:∀ f,rens f cf_f_2 = cf_f_2) (hpf_f_2:∀ a0 r,f_2 a0 = some r → CallOK Tryz.prog kf_f_2 .flat ([(encGMut a0)] ++ cf_f_2) (.bool r)):CallOK Tryz.prog 174 .flat [(.lst 3 (s_1.map encGMut)),(.fn kf_f_2 cf_f_2)] (.int .i64 r):=by
 refine CallOK.of_awp mixed Tryz.func174 fc174 nle ?_;rw [argT_eq];unfold slices_IndexFunc_impl_Mut_impl_Mut at hf;unfold c174;refine (show awp Tryz.prog false 0 _ (ofL [(0,(.lst 3 (s_1.map encGMut))),(1,(.fn kf_f_2 cf_f_2))]) [] _ from ?_);refine sr<|s_mov (.int .i64 0) rfl<|dk<|awp_seq<|sr<|s_mov (.lst 3 (s_1.map encGMut)) rfl<|s_dof (o_len (enc:=encGMut) rfl) fun hl3 => s_mov (.int .i64 0) rfl<|dk<|?_
 obtain ⟨p24,hb1,hf⟩:=ob hf
 refine awp_cutx (X:={q:Unit // p24 = .go q}) (fun q => ([],[])) ?_ ?_
 ·refine awp_loop (X:={q:Nat // slices_IndexFunc_impl_Mut_impl_Mut_L1 f_2 (s_1.drop q) q = some p24}) (fun q => ([(0,(.lst 3 (s_1.map encGMut))),(1,(.fn kf_f_2 cf_f_2)),(7,(.int .i64 (s_1.length:Int))),(8,(.int .i64 (q.1:Int)))],[])) (fun q => s_1.length - q.1) ⟨0,hb1⟩ ⟨[],[],_,_,rfl,rfl,⟨.refl _,⟨.of_eq (congrArg (AV.fn _) (hrf_f_2 _)),⟨.refl _,⟨.refl _,trivial⟩⟩⟩⟩,(.refl _)⟩ ?_
  rintro ⟨s8_17,hc1⟩
  have hc1:slices_IndexFunc_impl_Mut_impl_Mut_L1 f_2 (s_1.drop s8_17) s8_17 = some p24:=hc1
  refine (show awp Tryz.prog false 0 _ (ofL [(0,(.lst 3 (s_1.map encGMut))),(1,(.fn kf_f_2 cf_f_2)),(7,(.int .i64 (s_1.length:Int))),(8,(.int .i64 (s8_17:Int)))]) [] _ from ?_)
  rcases dropc s_1 s8_17 with ⟨hie27,hd30⟩ | ⟨hlt25,x_31,hx26,hd30⟩
  ·rw [hd30,slices_IndexFunc_impl_Mut_impl_Mut_L1.eq_1] at hc1
   have hq29:=dlf hie27
   refine sr<|s_q (.bool (decide ((s8_17:Int) < (s_1.length:Int)))) rfl rfl rfl<|dk<|awp_seq<|w_condf rfl hq29<|w_exit<|k_seqx<|k_loopx<|k_blkx<|?_;obtain rfl:=os hc1;exact k_cutn ⟨_,rfl⟩ ⟨[],[],_,_,rfl,rfl,trivial,(.refl _)⟩
  ·rw [hd30,slices_IndexFunc_impl_Mut_impl_Mut_L1.eq_2] at hc1
   have hq29:=dlt hlt25
   refine sr<|s_q (.bool (decide ((s8_17:Int) < (s_1.length:Int)))) rfl rfl rfl<|dk<|awp_seq<|w_condt rfl hq29<|w_skip<|k_seq<|awp_seq<|w_blk<|sr<|s_mov (.int .i64 (s8_17:Int)) rfl<|s_mov (.int .i64 (s8_17:Int)) rfl<|dk<|sr<|?_
   obtain ⟨r_32,er33,hc1⟩:=ob hc1
   refine s_mov (.fn kf_f_2 cf_f_2) rfl<|s_mov (.lst 3 (s_1.map encGMut)) rfl<|s_mov (.int .i64 (s8_17:Int)) rfl<|s_do (o_iaddrn (enc:=encGMut) rfl rfl hx26)<|s_q (encGMut x_31) rfl nle rfl<|s_do (o_calvp (v:=(.bool r_32)) rfl okf_f_2 hcf_f_2 (hpf_f_2 _ _ er33) rfl (.refl _) rfl)<|dk<|?_
   rcases oi hc1 with ⟨c34,hc1⟩ | ⟨c34,hc1⟩
   ·refine w_condt rfl c34<|sr<|s_mov (.int .i64 (s8_17:Int)) rfl<|s_mov (.int .i64 (s8_17:Int)) rfl<|dk<|w_ret<|?_;obtain rfl:=os hc1;obtain rfl:=os hf;exact r_flat ⟨trivial,trivial⟩ rfl (.refl _)
   ·refine w_condf rfl (bf c34)<|w_skip<|k_blk<|k_seq<|w_reg<|s_q (.int .i64 (w64 ((s8_17:Int) + 1))) rfl rfl rfl<|s_mov (.int .i64 (w64 ((s8_17:Int) + 1))) rfl<|w_done<|?_;exact k_loopn ⟨(s8_17 + 1),hc1⟩ (mul hlt25) ⟨[],[],_,_,rfl,rfl,⟨.refl _,⟨.of_eq (congrArg (AV.fn _) (hrf_f_2 _)),⟨.refl _,⟨.of_eq (congrArg (AV.int _) (w64_incr hlt25 hl3)),trivial⟩⟩⟩⟩,(.refl _)⟩
 ·rintro ⟨_,rfl⟩
  refine sr<|s_mov (.int .i64 (-1)) rfl<|dk<|w_ret<|?_;obtain rfl:=os hf;exact r_flat ⟨trivial,trivial⟩ rfl (.refl _)

/- slices.ContainsFunc[[]impl.Mut,impl.Mut] -/
def c140:ACode :=
 (.seq (.reg (tm 4 (.c (.bool false)) .done))
 (.seq (.reg (tm 5 (.t 0) (tm 6 (.t 1) (tq 7 (.call 174 [(.t 5),(.t 6)]) (tq 8 (.bin .geq (.t 7) (.c (.int .i64 0))) (tm 4 (.t 8) .done))))))
 .ret))
theorem fc140:fcomp Tryz.prog Tryz.f140 = some (c140.erase,[.mov (.t 4)],9):=by kernel_rfl
def slices_ContainsFunc_impl_Mut_impl_Mut (s_1:(List GMut)) (f_2:(GMut → Option Bool)):Option Bool :=
    (slices_IndexFunc_impl_Mut_impl_Mut s_1 f_2).bind fun r_3 =>
    some (decide (r_3 ≥ 0))
theorem w_slices_ContainsFunc_impl_Mut_impl_Mut (s_1:(List GMut)) (f_2:(GMut → Option Bool)) (r:Bool) (hf:slices_ContainsFunc_impl_Mut_impl_Mut s_1 f_2 = some r) (kf_f_2:Nat) (cf_f_2:List AV) (okf_f_2:okFn Tryz.prog kf_f_2 = true) (hcf_f_2:∀ h p,closeWs h p cf_f_2 = some cf_f_2) (hrf_f_2:∀ f,rens f cf_f_2 = cf_f_2) (hpf_f_2:∀ a0 r,f_2 a0 = some r → CallOK Tryz.prog kf_f_2 .flat ([(encGMut a0)] ++ cf_f_2) (.bool r)):CallOK Tryz.prog 140 .flat [(.lst 3 (s_1.map encGMut)),(.fn kf_f_2 cf_f_2)] (.bool r):=by
 refine CallOK.of_awp mixed Tryz.func140 fc140 nle ?_;rw [argT_eq];unfold slices_ContainsFunc_impl_Mut_impl_Mut at hf;unfold c140;refine (show awp Tryz.prog false 0 _ (ofL [(0,(.lst 3 (s_1.map encGMut))),(1,(.fn kf_f_2 cf_f_2))]) [] _ from ?_);refine sr<|s_mov (.bool false) rfl<|dk<|sr<|?_
 obtain ⟨r_3,er4,hf⟩:=ob hf
 refine s_mov (.lst 3 (s_1.map encGMut)) rfl<|s_mov (.fn kf_f_2 cf_f_2) rfl<|s_do (o_call (w_slices_IndexFunc_impl_Mut_impl_Mut _ _ _ er4 kf_f_2 cf_f_2 okf_f_2 hcf_f_2 hrf_f_2 hpf_f_2) (cls_cons rfl (cls_cons (cls_fn hcf_f_2) rfl)) (.refl _) rfl)<|s_q (.bool (decide (r_3 ≥ 0))) rfl rfl rfl<|s_mov (.bool (decide (r_3 ≥ 0))) rfl<|dk<|w_ret<|?_;obtain rfl:=os hf;exact r_flat ⟨trivial,trivial⟩ rfl (.refl _)

/- impl.mutOK -/
def c142:ACode :=
 (.seq (.reg (tq 1 (.box 3 (.t 0)) (tm 2 (.c (.bool false)) .done)))
 (.seq (.reg (tq 3 (.faddr 1 (.t 1)) (tq 4 (.load 1 false (.t 3)) (tq 5 (.call 58 [(.t 4),(.c (.int .i64 1)),(.c (.int .i64 7))]) (tm 6 (.t 5) (tg 7 6 true (.faddr 2 (.t 1)) (tg 8 6 true (.load 1 false (.t 7)) (tg 9 6 true (.call 111 [(.t 8)]) (tq 10 (.pick (.t 6) (.t 9) (.c (.bool false))) (tm 11 (.t 10) (tg 12 11 true (.faddr 0 (.t 1)) (tg 13 11 true (.load 1 false (.t 12)) (tg 14 11 true (.bslice 1 [(.t 13)]) (tg 15 11 true (.call 87 [(.t 14)]) (tq 16 (.pick (.t 11) (.t 15) (.c (.bool false))) (tm 2 (.t 16) .done))))))))))))))))
 .ret))
theorem fc142:fcomp Tryz.prog Tryz.f142 = some (c142.erase,[.mov (.t 2)],17):=by kernel_rfl
def impl_mutOK (m_1:GMut):Option Bool :=
    (impl_within m_1.Func 1 7).bind fun r_2 =>
    if r_2 then
    (impl_DatumOK m_1.Value).bind fun r_5 =>
    if r_5 then
    (impl_areShort [m_1.Column]).bind fun r_8 =>
    some r_8
    else
    some false
    else
    some false
theorem w_impl_mutOK (m_1:GMut) (r:Bool) (hf:impl_mutOK m_1 = some r):CallOK Tryz.prog 142 .flat [(encGMut m_1)] (.bool r):=by
 refine CallOK.of_awp mixed Tryz.func142 fc142 nle ?_;rw [argT_eq];unfold impl_mutOK at hf;unfold c142;refine (show awp Tryz.prog false 0 _ (ofL [(0,(encGMut m_1))]) [] _ from ?_);refine sr<|s_do (o_box (j:=0) (c:=(.agg [(.str m_1.Column),(.int .i64 m_1.Func),(.lst 3 (m_1.Value.map encGAtom))])) rfl trivial rfl rfl)<|s_mov (.bool false) rfl<|dk<|sr<|s_q (.ptr 0 0 1) rfl trivial rfl<|s_q (.int .i64 m_1.Func) rfl nle rfl<|?_
 obtain ⟨r_2,er3,hf⟩:=ob hf
 refine s_do (o_call (w_impl_within _ _ _ _ er3) rfl (.refl _) rfl)<|s_mov (.bool r_2) rfl<|?_
 rcases oi hf with ⟨c4,hf⟩ | ⟨c4,hf⟩
 ·refine s_lit (s:=6) (b:=true) rfl c4<|s_on rfl<|s_q (.ptr 0 0 2) rfl trivial rfl<|s_on rfl<|s_q (.lst 3 (m_1.Value.map encGAtom)) rfl nle rfl<|s_on rfl<|?_
  obtain ⟨r_5,er6,hf⟩:=ob hf
  refine s_do (o_call (w_impl_DatumOK _ _ er6) rfl (.refl _) rfl)<|s_q (.bool r_5) rfl trivial rfl<|s_mov (.bool r_5) rfl<|?_
  rcases oi hf with ⟨c7,hf⟩ | ⟨c7,hf⟩
  ·refine s_lit (s:=11) (b:=true) rfl c7<|s_on rfl<|s_q (.ptr 0 0 0) rfl trivial rfl<|s_on rfl<|s_q (.str m_1.Column) rfl nle rfl<|s_on rfl<|?_;refine s_do (o_bslice (j:=1) (as':=[(.str m_1.Column)]) rfl (fun _ => by decide) ⟨rfl,trivial⟩ (.refl _) rfl rfl rfl) ?_;refine s_on rfl ?_
   obtain ⟨r_8,er9,hf⟩:=ob hf
   refine s_do (o_call (w_impl_areShort _ _ er9) rfl (.cons (.of_eq (congrArg (AV.lst _) (tko [m_1.Column]))) .nil) rfl)<|s_q (.bool r_8) rfl trivial rfl<|s_mov (.bool r_8) rfl<|dk<|w_ret<|?_;obtain rfl:=os hf;exact r_flat ⟨trivial,trivial⟩ rfl (.refl _)
  ·refine s_lit (s:=11) (b:=false) rfl (bf c7)<|s_off rfl rfl<|s_off rfl rfl<|s_off rfl rfl<|s_off rfl rfl<|s_q (.bool false) rfl trivial rfl<|s_mov (.bool false) rfl<|dk<|w_ret<|?_;obtain rfl:=os hf;exact r_flat ⟨trivial,trivial⟩ rfl (.refl _)
 ·refine s_lit (s:=6) (b:=false) rfl (bf c4)<|s_off rfl rfl<|s_off rfl rfl<|s_off rfl rfl<|s_q (.bool false) rfl trivial rfl<|s_mov (.bool false) rfl<|s_off rfl rfl<|s_off rfl rfl<|s_off rfl rfl<|s_off rfl rfl<|s_q (.bool false) rfl trivial rfl<|s_mov (.bool false) rfl<|dk<|w_ret<|?_;obtain rfl:=os hf;exact r_flat ⟨trivial,trivial⟩ rfl (.refl _)

/- impl.mutsOK$1 -/
def c141:ACode :=
 (.seq (.reg (tq 1 (.box 3 (.t 0)) (tm 2 (.c (.bool false)) .done)))
 (.seq (.reg (tq 3 (.load 3 true (.t 1)) (tq 4 (.call 142 [(.t 3)]) (tq 5 (.not (.t 4)) (tm 2 (.t 5) .done)))))
 .ret))
theorem fc141:fcomp Tryz.prog Tryz.f141 = some (c141.erase,[.mov (.t 2)],6):=by kernel_rfl
def impl_mutsOK_1 (m_1:GMut):Option Bool :=
    (impl_mutOK m_1).bind fun r_2 =>
    some (!r_2)
theorem w_impl_mutsOK_1 (m_1:GMut) (r:Bool) (hf:impl_mutsOK_1 m_1 = some r):CallOK Tryz.prog 141 .flat [(encGMut m_1)] (.bool r):=by
  refine CallOK.of_awp mixed Tryz.func141 fc141 nle ?_
  rw [argT_eq]
  unfold impl_mutsOK_1 at hf
  unfold c141
  refine (show awp Tryz.prog false 0 _ (ofL [(0,(encGMut m_1))]) [] _ from ?_)
  refine awp_seq ?_
  refine w_reg ?_
  refine s_do (o_box (j:=0) (c:=(.agg [(.str m_1.Column),(.int .i64 m_1.Func),(.lst 3 (m_1.Value.map encGAtom))])) rfl trivial rfl rfl) ?_
  refine s_do (o_mov (.bool false) rfl) ?_
  refine w_done ?_
  refine k_seq ?_
  refine awp_seq ?_
  refine w_reg ?_
  obtain ⟨r_2,er3,hf⟩:=ob hf
  refine s_do (o_q (.agg [(.str m_1.Column),(.int .i64 m_1.Func),(.lst 3 (m_1.Value.map encGAtom))]) rfl nle rfl) ?_
  refine s_do (o_call (w_impl_mutOK _ _ er3) rfl (.refl _) rfl) ?_
  refine s_do (o_q (.bool (!r_2)) rfl trivial rfl) ?_
  refine s_do (o_mov (.bool (!r_2)) rfl) ?_
  refine w_done ?_
  refine k_seq ?_
  refine w_ret ?_
  obtain rfl:=os hf
  exact r_flat ⟨trivial,trivial⟩ rfl (.refl _)

/- impl.mutsOK -/
def c89:ACode :=
 (.seq (.reg (tm 2 (.c (.bool false)) .done))
 (.seq (.reg (tm 3 (.t 0) (tq 4 (.len (.t 3)) (tq 5 (.bin .leq (.t 4) (.c (.int .i64 8))) (tm 6 (.t 5) (tg 7 6 true (.mov (.t 0)) (tg 8 6 true (.call 140 [(.t 7),(.c (.fn 141 []))]) (tg 9 6 true (.not (.t 8)) (tq 10 (.pick (.t 6) (.t 9) (.c (.bool false))) (tm 2 (.t 10) .done))))))))))
 .ret))
theorem fc89:fcomp Tryz.prog Tryz.f89 = some (c89.erase,[.mov (.t 2)],11):=by kernel_rfl
def impl_mutsOK (list_1:(List GMut)):Option Bool :=
    if (decide ((list_1.length:Int) ≤ 8)) then
    (slices_ContainsFunc_impl_Mut_impl_Mut list_1 impl_mutsOK_1).bind fun r_4 =>
    some (!r_4)
    else
    some false
theorem w_impl_mutsOK (list_1:(List GMut)) (r:Bool) (hf:impl_mutsOK list_1 = some r):CallOK Tryz.prog 89 .flat [(.lst 3 (list_1.map encGMut))] (.bool r):=by
 refine CallOK.of_awp mixed Tryz.func89 fc89 nle ?_;rw [argT_eq];unfold impl_mutsOK at hf;unfold c89;refine (show awp Tryz.prog false 0 _ (ofL [(0,(.lst 3 (list_1.map encGMut)))]) [] _ from ?_);refine sr<|s_mov (.bool false) rfl<|dk<|sr<|?_
 rcases oi hf with ⟨c3,hf⟩ | ⟨c3,hf⟩
 ·obtain ⟨r_4,er5,hf⟩:=ob hf
  refine s_mov (.lst 3 (list_1.map encGMut)) rfl<|s_dof (o_len (enc:=encGMut) rfl) fun hl2 => s_q (.bool (decide ((list_1.length:Int) ≤ 8))) rfl rfl rfl<|s_mov (.bool (decide ((list_1.length:Int) ≤ 8))) rfl<|s_lit (s:=6) (b:=true) rfl c3<|s_on rfl<|s_mov (.lst 3 (list_1.map encGMut)) rfl<|s_on rfl<|?_;refine s_do (o_call (w_slices_ContainsFunc_impl_Mut_impl_Mut _ _ _ er5 141 [] (by kernel_rfl) (fun _ _ => rfl) (fun _ => rfl) (fun a0 r h => w_impl_mutsOK_1 a0 r h)) rfl (.refl _) rfl) ?_;refine s_on rfl<|s_q (.bool (!r_4)) rfl trivial rfl<|s_q (.bool (!r_4)) rfl trivial rfl<|s_mov (.bool (!r_4)) rfl<|dk<|w_ret<|?_;obtain rfl:=os hf;exact r_flat ⟨trivial,trivial⟩ rfl (.refl _)
 ·refine s_mov (.lst 3 (list_1.map encGMut)) rfl<|s_dof (o_len (enc:=encGMut) rfl) fun hl2 => s_q (.bool (decide ((list_1.length:Int) ≤ 8))) rfl rfl rfl<|s_mov (.bool (decide ((list_1.length:Int) ≤ 8))) rfl<|s_lit (s:=6) (b:=false) rfl (bf c3)<|s_off rfl rfl<|s_off rfl rfl<|s_off rfl rfl<|s_q (.bool false) rfl trivial rfl<|s_mov (.bool false) rfl<|dk<|w_ret<|?_;obtain rfl:=os hf;exact r_flat ⟨trivial,trivial⟩ rfl (.refl _)

/- slices.IndexFunc[[]impl.Set,impl.Set] -/
def c175:ACode :=
 (.seq (.reg (tm 4 (.c (.int .i64 0)) .done))
 (.seq (.seq (.reg (tm 6 (.t 0) (tq 7 (.len (.t 6)) (tm 8 (.c (.int .i64 0)) .done))))
 (.block 0 (.loop (.seq (.reg (tq 9 (.bin .lss (.t 8) (.t 7)) .done))
 (.seq (.cond (.t 9) .skip
 (.exit 0))
 (.seq (.block 1 (.seq (.reg (tm 10 (.t 8) (tm 5 (.t 10) .done)))
 (.seq (.reg (tm 11 (.t 1) (tm 12 (.t 0) (tm 13 (.t 5) (tq 14 (.iaddr 3 (.t 12) (.t 13)) (tq 15 (.load 3 true (.t 14)) (tq 16 (.calv (.t 11) [(.t 15)]) .done)))))))
 (.cond (.t 16) (.seq (.reg (tm 17 (.t 5) (tm 4 (.t 17) .done)))
 .ret)
 .skip))))
 (.reg (tq 18 (.bin .add (.t 8) (.c (.int .i64 1))) (tm 8 (.t 18) .done)))))))))
 (.cut (.seq (.reg (tq 4 (.mov (.c (.int .i64 (-1)))) .done))
 .ret))))
theorem fc175:fcomp Tryz.prog Tryz.f175 = some (c175.erase,[.mov (.t 4)],19):=by kernel_rfl
def slices_IndexFunc_impl_Set_impl_Set_L1 (f_2:(GSet → Option Bool)):List GSet → Nat → Option (Fl Int Unit)
  | [],s8_17 =>
    some (.go ())
  | x_31 :: xs,s8_17 =>
    (f_2 x_31).bind fun r_32 =>
    if r_32 then
    some (.ret (s8_17:Int))
    else
    slices_IndexFunc_impl_Set_impl_Set_L1 f_2 xs (s8_17 + 1)

def slices_IndexFunc_impl_Set_impl_Set (s_1:(List GSet)) (f_2:(GSet → Option Bool)):Option Int :=
    (slices_IndexFunc_impl_Set_impl_Set_L1 f_2 s_1 0).bind fun q => (match q with
    | .ret r => some r
    | .go _ =>
    some (-1))
theorem w_slices_IndexFunc_impl_Set_impl_Set (s_1:(List GSet)) (f_2:(GSet → Option Bool)) (r:Int) (hf:slices_IndexFunc_impl_Set_impl_Set s_1 f_2 = some r) (kf_f_2:Nat) (cf_f_2:List AV) (okf_f_2:okFn Tryz.prog kf_f_2 = true) (hcf_f_2:∀ h p,closeWs h p cf_f_2 = some cf_f_2) (hrf_f_2:∀ f,rens f cf_f_2 = cf_f_2) (hpf_f_2:∀ a0 r,f_2 a0 = some r → CallOK Tryz.prog kf_f_2 .flat ([(encGSet a0)] ++ cf_f_2) (.bool r)):CallOK Tryz.prog 175 .flat [(.lst 3 (s_1.map encGSet)),(.fn kf_f_2 cf_f_2)] (.int .i64 r):=by
 refine CallOK.of_awp mixed Tryz.func175 fc175 nle ?_;rw [argT_eq];unfold slices_IndexFunc_impl_Set_impl_Set at hf;unfold c175;refine (show awp Tryz.prog false 0 _ (ofL [(0,(.lst 3 (s_1.map encGSet))),(1,(.fn kf_f_2 cf_f_2))]) [] _ from ?_);refine sr<|s_mov (.int .i64 0) rfl<|dk<|awp_seq<|sr<|s_mov (.lst 3 (s_1.map encGSet)) rfl<|s_dof (o_len (enc:=encGSet) rfl) fun hl3 => s_mov (.int .i64 0) rfl<|dk<|?_
 obtain ⟨p24,hb1,hf⟩:=ob hf
 refine awp_cutx (X:={q:Unit // p24 = .go q}) (fun q => ([],[])) ?_ ?_
 ·refine awp_loop (X:={q:Nat // slices_IndexFunc_impl_Set_impl_Set_L1 f_2 (s_1.drop q) q = some p24}) (fun q => ([(0,(.lst 3 (s_1.map encGSet))),(1,(.fn kf_f_2 cf_f_2)),(7,(.int .i64 (s_1.length:Int))),(8,(.int .i64 (q.1:Int)))],[])) (fun q => s_1.length - q.1) ⟨0,hb1⟩ ⟨[],[],_,_,rfl,rfl,⟨.refl _,⟨.of_eq (congrArg (AV.fn _) (hrf_f_2 _)),⟨.refl _,⟨.refl _,trivial⟩⟩⟩⟩,(.refl _)⟩ ?_
  rintro ⟨s8_17,hc1⟩
  have hc1:slices_IndexFunc_impl_Set_impl_Set_L1 f_2 (s_1.drop s8_17) s8_17 = some p24:=hc1
  refine (show awp Tryz.prog false 0 _ (ofL [(0,(.lst 3 (s_1.map encGSet))),(1,(.fn kf_f_2 cf_f_2)),(7,(.int .i64 (s_1.length:Int))),(8,(.int .i64 (s8_17:Int)))]) [] _ from ?_)
  rcases dropc s_1 s8_17 with ⟨hie27,hd30⟩ | ⟨hlt25,x_31,hx26,hd30⟩
  ·rw [hd30,slices_IndexFunc_impl_Set_impl_Set_L1.eq_1] at hc1
   have hq29:=dlf hie27
   refine sr<|s_q (.bool (decide ((s8_17:Int) < (s_1.length:Int)))) rfl rfl rfl<|dk<|awp_seq<|w_condf rfl hq29<|w_exit<|k_seqx<|k_loopx<|k_blkx<|?_;obtain rfl:=os hc1;exact k_cutn ⟨_,rfl⟩ ⟨[],[],_,_,rfl,rfl,trivial,(.refl _)⟩
  ·rw [hd30,slices_IndexFunc_impl_Set_impl_Set_L1.eq_2] at hc1
   have hq29:=dlt hlt25
   refine sr<|s_q (.bool (decide ((s8_17:Int) < (s_1.length:Int)))) rfl rfl rfl<|dk<|awp_seq<|w_condt rfl hq29<|w_skip<|k_seq<|awp_seq<|w_blk<|sr<|s_mov (.int .i64 (s8_17:Int)) rfl<|s_mov (.int .i64 (s8_17:Int)) rfl<|dk<|sr<|?_
   obtain ⟨r_32,er33,hc1⟩:=ob hc1
   refine s_mov (.fn kf_f_2 cf_f_2) rfl<|s_mov (.lst 3 (s_1.map encGSet)) rfl<|s_mov (.int .i64 (s8_17:Int)) rfl<|s_do (o_iaddrn (enc:=encGSet) rfl rfl hx26)<|s_q (encGSet x_31) rfl nle rfl<|s_do (o_calvp (v:=(.bool r_32)) rfl okf_f_2 hcf_f_2 (hpf_f_2 _ _ er33) rfl (.refl _) rfl)<|dk<|?_
   rcases oi hc1 with ⟨c34,hc1⟩ | ⟨c34,hc1⟩
   ·refine w_condt rfl c34<|sr<|s_mov (.int .i64 (s8_17:Int)) rfl<|s_mov (.int .i64 (s8_17:Int)) rfl<|dk<|w_ret<|?_;obtain rfl:=os hc1;obtain rfl:=os hf;exact r_flat ⟨trivial,trivial⟩ rfl (.refl _)
   ·refine w_condf rfl (bf c34)<|w_skip<|k_blk<|k_seq<|w_reg<|s_q (.int .i64 (w64 ((s8_17:Int) + 1))) rfl rfl rfl<|s_mov (.int .i64 (w64 ((s8_17:Int) + 1))) rfl<|w_done<|?_;exact k_loopn ⟨(s8_17 + 1),hc1⟩ (mul hlt25) ⟨[],[],_,_,rfl,rfl,⟨.refl _,⟨.of_eq (congrArg (AV.fn _) (hrf_f_2 _)),⟨.refl _,⟨.of_eq (congrArg (AV.int _) (w64_incr hlt25 hl3)),trivial⟩⟩⟩⟩,(.refl _)⟩
 ·rintro ⟨_,rfl⟩
  refine sr<|s_mov (.int .i64 (-1)) rfl<|dk<|w_ret<|?_;obtain rfl:=os hf;exact r_flat ⟨trivial,trivial⟩ rfl (.refl _)

/- slices.ContainsFunc[[]impl.Set,impl.Set] -/
def c143:ACode :=
 (.seq (.reg (tm 4 (.c (.bool false)) .done))
 (.seq (.reg (tm 5 (.t 0) (tm 6 (.t 1) (tq 7 (.call 175 [(.t 5),(.t 6)]) (tq 8 (.bin .geq (.t 7) (.c (.int .i64 0))) (tm 4 (.t 8) .done))))))
 .ret))
theorem fc143:fcomp Tryz.prog Tryz.f143 = some (c143.erase,[.mov (.t 4)],9):=by kernel_rfl
def slices_ContainsFunc_impl_Set_impl_Set (s_1:(List GSet)) (f_2:(GSet → Option Bool)):Option Bool :=
    (slices_IndexFunc_impl_Set_impl_Set s_1 f_2).bind fun r_3 =>
    some (decide (r_3 ≥ 0))
theorem w_slices_ContainsFunc_impl_Set_impl_Set (s_1:(List GSet)) (f_2:(GSet → Option Bool)) (r:Bool) (hf:slices_ContainsFunc_impl_Set_impl_Set s_1 f_2 = some r) (kf_f_2:Nat) (cf_f_2:List AV) (okf_f_2:okFn Tryz.prog kf_f_2 = true) (hcf_f_2:∀ h p,closeWs h p cf_f_2 = some cf_f_2) (hrf_f_2:∀ f,rens f cf_f_2 = cf_f_2) (hpf_f_2:∀ a0 r,f_2 a0 = some r → CallOK Tryz.prog kf_f_2 .flat ([(encGSet a0)] ++ cf_f_2) (.bool r)):CallOK Tryz.prog 143 .flat [(.lst 3 (s_1.map encGSet)),(.fn kf_f_2 cf_f_2)] (.bool r):=by
 refine CallOK.of_awp mixed Tryz.func143 fc143 nle ?_;rw [argT_eq];unfold slices_ContainsFunc_impl_Set_impl_Set at hf;unfold c143;refine (show awp Tryz.prog false 0 _ (ofL [(0,(.lst 3 (s_1.map encGSet))),(1,(.fn kf_f_2 cf_f_2))]) [] _ from ?_);refine sr<|s_mov (.bool false) rfl<|dk<|sr<|?_
 obtain ⟨r_3,er4,hf⟩:=ob hf
 refine s_mov (.lst 3 (s_1.map encGSet)) rfl<|s_mov (.fn kf_f_2 cf_f_2) rfl<|s_do (o_call (w_slices_IndexFunc_impl_Set_impl_Set _ _ _ er4 kf_f_2 cf_f_2 okf_f_2 hcf_f_2 hrf_f_2 hpf_f_2) (cls_cons rfl (cls_cons (cls_fn hcf_f_2) rfl)) (.refl _) rfl)<|s_q (.bool (decide (r_3 ≥ 0))) rfl rfl rfl<|s_mov (.bool (decide (r_3 ≥ 0))) rfl<|dk<|w_ret<|?_;obtain rfl:=os hf;exact r_flat ⟨trivial,trivial⟩ rfl (.refl _)

/- impl.setOK$1 -/
def c176:ACode :=
 (.seq (.reg (tm 2 (.c (.bool false)) .done))
 (.seq (.reg (tm 3 (.t 0) (tq 4 (.call 91 [(.t 3)]) (tq 5 (.not (.t 4)) (tm 2 (.t 5) .done)))))
 .ret))
theorem fc176:fcomp Tryz.prog Tryz.f176 = some (c176.erase,[.mov (.t 2)],6):=by kernel_rfl
def impl_setOK_1 (name_1:Str):Option Bool :=
    (impl_NameOK name_1).bind fun r_2 =>
    some (!r_2)
theorem w_impl_setOK_1 (name_1:Str) (r:Bool) (hf:impl_setOK_1 name_1 = some r):CallOK Tryz.prog 176 .flat [(.str name_1)] (.bool r):=by
  refine CallOK.of_awp mixed Tryz.func176 fc176 nle ?_
  rw [argT_eq]
  unfold impl_setOK_1 at hf
  unfold c176
  refine (show awp Tryz.prog false 0 _ (ofL [(0,(.str name_1))]) [] _ from ?_)
  refine awp_seq ?_
  refine w_reg ?_
  refine s_do (o_mov (.bool false) rfl) ?_
  refine w_done ?_
  refine k_seq ?_
  refine awp_seq ?_
  refine w_reg ?_
  obtain ⟨r_2,er3,hf⟩:=ob hf
  refine s_do (o_mov (.str name_1) rfl) ?_
  refine s_do (o_call (w_impl_NameOK _ _ er3) rfl (.refl _) rfl) ?_
  refine s_do (o_q (.bool (!r_2)) rfl trivial rfl) ?_
  refine s_do (o_mov (.bool (!r_2)) rfl) ?_
  refine w_done ?_
  refine k_seq ?_
  refine w_ret ?_
  obtain rfl:=os hf
  exact r_flat ⟨trivial,trivial⟩ rfl (.refl _)

/- impl.setOK -/
def c145:ACode :=
 (.seq (.reg (tq 1 (.box 3 (.t 0)) (tm 2 (.c (.bool false)) .done)))
 (.seq (.seq (.reg (tq 3 (.faddr 0 (.t 1)) (tq 4 (.load 1 false (.t 3)) (tq 5 (.bslice 1 [(.t 4)]) (tq 6 (.call 87 [(.t 5)]) (tq 7 (.not (.t 6)) (tm 8 (.t 7) (tg 9 8 false (.faddr 1 (.t 1)) (tg 10 8 false (.load 1 false (.t 9)) (tg 11 8 false (.call 111 [(.t 10)]) (tg 12 8 false (.not (.t 11)) (tq 13 (.pick (.t 8) (.c (.bool true)) (.t 12)) (tm 14 (.t 13) (tg 15 14 false (.faddr 1 (.t 1)) (tg 16 14 false (.load 1 false (.t 15)) (tg 17 14 false (.len (.t 16)) (tg 18 14 false (.bin .gtr (.t 17) (.c (.int .i64 0))) (tg 19 14 false (.mov (.t 18)) (tg 20 19 true (.faddr 2 (.t 1)) (tg 21 19 true (.load 1 false (.t 20)) (tg 22 19 true (.len (.t 21)) (tg 23 19 true (.bin .gtr (.t 22) (.c (.int .i64 0))) (tg 24 14 false (.pick (.t 19) (.t 23) (.c (.bool false))) (tq 25 (.pick (.t 14) (.c (.bool true)) (.t 24)) (tm 26 (.t 25) (tg 27 26 false (.faddr 2 (.t 1)) (tg 28 26 false (.load 1 false (.t 27)) (tg 29 26 false (.len (.t 28)) (tg 30 26 false (.bin .gtr (.t 29) (.c (.int .i64 8))) (tq 31 (.pick (.t 26) (.c (.bool true)) (.t 30)) .done))))))))))))))))))))))))))))))
 (.cut (.cond (.t 31) (.seq (.reg (tm 2 (.c (.bool false)) .done))
 .ret)
 .skip)))
 (.seq (.reg (tq 32 (.faddr 2 (.t 1)) (tq 33 (.load 1 false (.t 32)) (tq 34 (.call 135 [(.t 33),(.c (.fn 176 []))]) (tq 35 (.not (.t 34)) (tm 2 (.t 35) .done))))))
 .ret)))
theorem fc145:fcomp Tryz.prog Tryz.f145 = some (c145.erase,[.mov (.t 2)],36):=by kernel_rfl
def impl_setOK (x_1:GSet):Option Bool :=
    (((impl_areShort [x_1.Column]).bind fun r_12 =>
    if (!r_12) then
    some true
    else
    (impl_DatumOK x_1.Value).bind fun r_15 =>
    some (bif (bif (!r_15) then true else (bif (decide ((x_1.Value.length:Int) > 0)) then (decide ((x_1.Names.length:Int) > 0)) else false)) then true else (decide ((x_1.Names.length:Int) > 8))):Option Bool)).bind fun s31_10 =>
    if s31_10 then
    some false
    else
    (slices_ContainsFunc_string_string x_1.Names impl_setOK_1).bind fun r_21 =>
    some (!r_21)
theorem w_impl_setOK (x_1:GSet) (r:Bool) (hf:impl_setOK x_1 = some r):CallOK Tryz.prog 145 .flat [(encGSet x_1)] (.bool r):=by
 refine CallOK.of_awp mixed Tryz.func145 fc145 nle ?_;rw [argT_eq];unfold impl_setOK at hf;unfold c145;refine (show awp Tryz.prog false 0 _ (ofL [(0,(encGSet x_1))]) [] _ from ?_);refine sr<|s_do (o_box (j:=0) (c:=(.agg [(.str x_1.Column),(.lst 3 (x_1.Value.map encGAtom)),(.lst 1 (x_1.Names.map AV.str))])) rfl trivial rfl rfl)<|s_mov (.bool false) rfl<|dk<|awp_seq<|awp_seq<|?_
 obtain ⟨s31_10,hb1,hf⟩:=ob hf
 refine awp_cut ([(1,(.ptr 0 0 0)),(31,(.bool s31_10))],[.box 3 (.agg [(.str x_1.Column),(.lst 3 (x_1.Value.map encGAtom)),(.lst 1 (x_1.Names.map AV.str))])]) ?_ ?_
 ·refine w_reg<|s_q (.ptr 0 0 0) rfl trivial rfl<|s_q (.str x_1.Column) rfl nle rfl<|?_;refine s_do (o_bslice (j:=1) (as':=[(.str x_1.Column)]) rfl (fun _ => by decide) ⟨rfl,trivial⟩ (.refl _) rfl rfl rfl) ?_
  obtain ⟨r_12,er13,hb1⟩:=ob hb1
  refine s_do (o_call (w_impl_areShort _ _ er13) rfl (.cons (.of_eq (congrArg (AV.lst _) (tko [x_1.Column]))) .nil) rfl)<|s_q (.bool (!r_12)) rfl trivial rfl<|s_mov (.bool (!r_12)) rfl<|?_
  rcases oi hb1 with ⟨c14,hb1⟩ | ⟨c14,hb1⟩
  ·refine s_lit (s:=8) (b:=true) rfl c14<|s_off rfl rfl<|s_off rfl rfl<|s_off rfl rfl<|s_off rfl rfl<|s_q (.bool true) rfl trivial rfl<|s_mov (.bool true) rfl<|s_off rfl rfl<|s_off rfl rfl<|s_off rfl rfl<|s_off rfl rfl<|s_off rfl rfl<|s_offs rfl<|s_offs rfl<|s_offs rfl<|s_offs rfl<|s_off rfl rfl<|s_q (.bool true) rfl trivial rfl<|s_mov (.bool true) rfl<|s_off rfl rfl<|s_off rfl rfl<|s_off rfl rfl<|s_off rfl rfl<|s_q (.bool true) rfl trivial rfl<|w_done<|?_;obtain rfl:=os hb1;exact ⟨[],[0],_,_,rfl,rfl,⟨.refl _,⟨.refl _,trivial⟩⟩,(.refl _)⟩
  ·refine s_lit (s:=8) (b:=false) rfl (bf c14)<|s_on rfl<|s_q (.ptr 0 0 1) rfl trivial rfl<|s_on rfl<|s_q (.lst 3 (x_1.Value.map encGAtom)) rfl nle rfl<|s_on rfl<|?_
   obtain ⟨r_15,er16,hb1⟩:=ob hb1
   refine s_do (o_call (w_impl_DatumOK _ _ er16) rfl (.refl _) rfl)<|s_on rfl<|s_q (.bool (!r_15)) rfl trivial rfl<|s_q (.bool (!r_15)) rfl trivial rfl<|s_mov (.bool (!r_15)) rfl<|?_;refine s_g (v:=(!r_15)) (.ptr 0 0 1) rfl (fun hv => by (try simp only [gs_on hv]);exact ⟨rfl,trivial,rfl⟩) ?_;refine s_g (v:=(!r_15)) (.lst 3 (x_1.Value.map encGAtom)) rfl (fun hv => by (try simp only [gs_on hv]);exact ⟨rfl,nle,rfl⟩) ?_;refine s_g (v:=(!r_15)) (.int .i64 (x_1.Value.length:Int)) rfl (fun hv => by (try simp only [gs_on hv]);exact ⟨rfl,trivial,lenV _ _⟩) ?_;refine s_g (v:=(!r_15)) (.bool (decide ((x_1.Value.length:Int) > 0))) rfl (fun hv => by (try simp only [gs_on hv]);exact ⟨rfl,rfl,rfl⟩) ?_
   refine s_g (v:=(!r_15)) (.bool (decide ((x_1.Value.length:Int) > 0))) rfl (fun hv => by (try simp only [gs_on hv]);exact ⟨rfl,trivial,rfl⟩) ?_;refine s_gg (v1:=(!r_15)) (b1:=false) (v2:=(decide ((x_1.Value.length:Int) > 0))) (.ptr 0 0 2) rfl (fun hv hw => by (try simp only [gs_on hv,gs_on hw]);exact ⟨rfl,trivial,rfl⟩) ?_;refine s_gg (v1:=(!r_15)) (b1:=false) (v2:=(decide ((x_1.Value.length:Int) > 0))) (.lst 1 (x_1.Names.map AV.str)) rfl (fun hv hw => by (try simp only [gs_on hv,gs_on hw]);exact ⟨rfl,nle,rfl⟩) ?_;refine s_gg (v1:=(!r_15)) (b1:=false) (v2:=(decide ((x_1.Value.length:Int) > 0))) (.int .i64 (x_1.Names.length:Int)) rfl (fun hv hw => by (try simp only [gs_on hv,gs_on hw]);exact ⟨rfl,trivial,lenV _ _⟩) ?_
   refine s_gg (v1:=(!r_15)) (b1:=false) (v2:=(decide ((x_1.Value.length:Int) > 0))) (.bool (decide ((x_1.Names.length:Int) > 0))) rfl (fun hv hw => by (try simp only [gs_on hv,gs_on hw]);exact ⟨rfl,rfl,rfl⟩) ?_;refine s_gp (v1:=(!r_15)) (b1:=false) (v2:=(decide ((x_1.Value.length:Int) > 0))) (x:=(decide ((x_1.Names.length:Int) > 0))) (y:=false) rfl (fun hv => by (try simp only [gs_on hv]);rfl) (fun hv hw => by (try simp only [gs_on hv,gs_on hw]);rfl) (fun hv hw => by (try simp only [gs_on hv,gs_on hw]);rfl) ?_;refine s_pick (x:=true) (y:=(bif (decide ((x_1.Value.length:Int) > 0)) then (decide ((x_1.Names.length:Int) > 0)) else false)) rfl (fun hv => by (try simp only [gs_on hv]);rfl) (fun hv => by (try simp only [gs_on hv]);rfl) ?_
   refine s_mov (.bool (bif (!r_15) then true else (bif (decide ((x_1.Value.length:Int) > 0)) then (decide ((x_1.Names.length:Int) > 0)) else false))) rfl ?_;refine s_g (v:=(bif (!r_15) then true else (bif (decide ((x_1.Value.length:Int) > 0)) then (decide ((x_1.Names.length:Int) > 0)) else false))) (.ptr 0 0 2) rfl (fun hv => by (try simp only [gs_on hv]);exact ⟨rfl,trivial,rfl⟩) ?_;refine s_g (v:=(bif (!r_15) then true else (bif (decide ((x_1.Value.length:Int) > 0)) then (decide ((x_1.Names.length:Int) > 0)) else false))) (.lst 1 (x_1.Names.map AV.str)) rfl (fun hv => by (try simp only [gs_on hv]);exact ⟨rfl,nle,rfl⟩) ?_;refine s_g (v:=(bif (!r_15) then true else (bif (decide ((x_1.Value.length:Int) > 0)) then (decide ((x_1.Names.length:Int) > 0)) else false))) (.int .i64 (x_1.Names.length:Int)) rfl (fun hv => by (try simp only [gs_on hv]);exact ⟨rfl,trivial,lenV _ _⟩) ?_
   refine s_g (v:=(bif (!r_15) then true else (bif (decide ((x_1.Value.length:Int) > 0)) then (decide ((x_1.Names.length:Int) > 0)) else false))) (.bool (decide ((x_1.Names.length:Int) > 8))) rfl (fun hv => by (try simp only [gs_on hv]);exact ⟨rfl,rfl,rfl⟩) ?_;refine s_pick (x:=true) (y:=(decide ((x_1.Names.length:Int) > 8))) rfl (fun hv => by (try simp only [gs_on hv]);rfl) (fun hv => by (try simp only [gs_on hv]);rfl) ?_;refine w_done ?_;obtain rfl:=os hb1;exact ⟨[],[0],_,_,rfl,rfl,⟨.refl _,⟨.refl _,trivial⟩⟩,(.refl _)⟩
 ·rcases oi hf with ⟨c20,hf⟩ | ⟨c20,hf⟩
  ·refine w_condt rfl c20<|sr<|s_mov (.bool false) rfl<|dk<|w_ret<|?_;obtain rfl:=os hf;exact r_flat ⟨trivial,trivial⟩ rfl (.refl _)
  ·refine w_condf rfl (bf c20)<|w_skip<|k_seq<|sr<|?_
   obtain ⟨r_21,er22,hf⟩:=ob hf
   refine s_q (.ptr 0 0 2) rfl trivial rfl<|s_q (.lst 1 (x_1.Names.map AV.str)) rfl nle rfl<|?_;refine s_do (o_call (w_slices_ContainsFunc_string_string _ _ _ er22 176 [] (by kernel_rfl) (fun _ _ => rfl) (fun _ => rfl) (fun a0 r h => w_impl_setOK_1 a0 r h)) rfl (.refl _) rfl) ?_;refine s_q (.bool (!r_21)) rfl trivial rfl<|s_mov (.bool (!r_21)) rfl<|dk<|w_ret<|?_;obtain rfl:=os hf;exact r_flat ⟨trivial,trivial⟩ rfl (.refl _)

/- impl.setsOK$1 -/
def c144:ACode :=
 (.seq (.reg (tq 1 (.box 3 (.t 0)) (tm 2 (.c (.bool false)) .done)))
 (.seq (.reg (tq 3 (.load 3 true (.t 1)) (tq 4 (.call 145 [(.t 3)]) (tq 5 (.not (.t 4)) (tm 2 (.t 5) .done)))))
 .ret))
theorem fc144:fcomp Tryz.prog Tryz.f144 = some (c144.erase,[.mov (.t 2)],6):=by kernel_rfl
def impl_setsOK_1 (x_1:GSet):Option Bool :=
    (impl_setOK x_1).bind fun r_2 =>
    some (!r_2)
theorem w_impl_setsOK_1 (x_1:GSet) (r:Bool) (hf:impl_setsOK_1 x_1 = some r):CallOK Tryz.prog 144 .flat [(encGSet x_1)] (.bool r):=by
  refine CallOK.of_awp mixed Tryz.func144 fc144 nle ?_
  rw [argT_eq]
  unfold impl_setsOK_1 at hf
  unfold c144
  refine (show awp Tryz.prog false 0 _ (ofL [(0,(encGSet x_1))]) [] _ from ?_)
  refine awp_seq ?_
  refine w_reg ?_
  refine s_do (o_box (j:=0) (c:=(.agg [(.str x_1.Column),(.lst 3 (x_1.Value.map encGAtom)),(.lst 1 (x_1.Names.map AV.str))])) rfl trivial rfl rfl) ?_
  refine s_do (o_mov (.bool false) rfl) ?_
  refine w_done ?_
  refine k_seq ?_
  refine awp_seq ?_
  refine w_reg ?_
  obtain ⟨r_2,er3,hf⟩:=ob hf
  refine s_do (o_q (.agg [(.str x_1.Column),(.lst 3 (x_1.Value.map encGAtom)),(.lst 1 (x_1.Names.map AV.str))]) rfl nle rfl) ?_
  refine s_do (o_call (w_impl_setOK _ _ er3) rfl (.refl _) rfl) ?_
  refine s_do (o_q (.bool (!r_2)) rfl trivial rfl) ?_
  refine s_do (o_mov (.bool (!r_2)) rfl) ?_
  refine w_done ?_
  refine k_seq ?_
  refine w_ret ?_
  obtain rfl:=os hf
  exact r_flat ⟨trivial,trivial⟩ rfl (.refl _)

/- impl.setsOK -/
def c90:ACode :=
 (.seq (.reg (tm 2 (.c (.bool false)) .done))
 (.seq (.reg (tm 3 (.t 0) (tq 4 (.len (.t 3)) (tq 5 (.bin .leq (.t 4) (.c (.int .i64 6))) (tm 6 (.t 5) (tg 7 6 true (.mov (.t 0)) (tg 8 6 true (.call 143 [(.t 7),(.c (.fn 144 []))]) (tg 9 6 true (.not (.t 8)) (tq 10 (.pick (.t 6) (.t 9) (.c (.bool false))) (tm 2 (.t 10) .done))))))))))
 .ret))
theorem fc90:fcomp Tryz.prog Tryz.f90 = some (c90.erase,[.mov (.t 2)],11):=by kernel_rfl
def impl_setsOK (list_1:(List GSet)):Option Bool :=
    if (decide ((list_1.length:Int) ≤ 6)) then
    (slices_ContainsFunc_impl_Set_impl_Set list_1 impl_setsOK_1).bind fun r_4 =>
    some (!r_4)
    else
    some false
theorem w_impl_setsOK (list_1:(List GSet)) (r:Bool) (hf:impl_setsOK list_1 = some r):CallOK Tryz.prog 90 .flat [(.lst 3 (list_1.map encGSet))] (.bool r):=by
 refine CallOK.of_awp mixed Tryz.func90 fc90 nle ?_;rw [argT_eq];unfold impl_setsOK at hf;unfold c90;refine (show awp Tryz.prog false 0 _ (ofL [(0,(.lst 3 (list_1.map encGSet)))]) [] _ from ?_);refine sr<|s_mov (.bool false) rfl<|dk<|sr<|?_
 rcases oi hf with ⟨c3,hf⟩ | ⟨c3,hf⟩
 ·obtain ⟨r_4,er5,hf⟩:=ob hf
  refine s_mov (.lst 3 (list_1.map encGSet)) rfl<|s_dof (o_len (enc:=encGSet) rfl) fun hl2 => s_q (.bool (decide ((list_1.length:Int) ≤ 6))) rfl rfl rfl<|s_mov (.bool (decide ((list_1.length:Int) ≤ 6))) rfl<|s_lit (s:=6) (b:=true) rfl c3<|s_on rfl<|s_mov (.lst 3 (list_1.map encGSet)) rfl<|s_on rfl<|?_;refine s_do (o_call (w_slices_ContainsFunc_impl_Set_impl_Set _ _ _ er5 144 [] (by kernel_rfl) (fun _ _ => rfl) (fun _ => rfl) (fun a0 r h => w_impl_setsOK_1 a0 r h)) rfl (.refl _) rfl) ?_;refine s_on rfl<|s_q (.bool (!r_4)) rfl trivial rfl<|s_q (.bool (!r_4)) rfl trivial rfl<|s_mov (.bool (!r_4)) rfl<|dk<|w_ret<|?_;obtain rfl:=os hf;exact r_flat ⟨trivial,trivial⟩ rfl (.refl _)
 ·refine s_mov (.lst 3 (list_1.map encGSet)) rfl<|s_dof (o_len (enc:=encGSet) rfl) fun hl2 => s_q (.bool (decide ((list_1.length:Int) ≤ 6))) rfl rfl rfl<|s_mov (.bool (decide ((list_1.length:Int) ≤ 6))) rfl<|s_lit (s:=6) (b:=false) rfl (bf c3)<|s_off rfl rfl<|s_off rfl rfl<|s_off rfl rfl<|s_q (.bool false) rfl trivial rfl<|s_mov (.bool false) rfl<|dk<|w_ret<|?_;obtain rfl:=os hf;exact r_flat ⟨trivial,trivial⟩ rfl (.refl _)

/- impl.OpOK -/
def c40:ACode :=
 (.seq (.reg (tq 1 (.box 8 (.t 0)) (tm 2 (.c (.bool false)) .done)))
 (.seq (.reg (tq 3 (.load 8 true (.t 1)) (tq 4 (.call 86 [(.t 3)]) (tm 5 (.t 4) (tg 6 5 true (.faddr 1 (.t 1)) (tg 7 5 true (.load 1 false (.t 6)) (tg 8 5 true (.faddr 2 (.t 1)) (tg 9 5 true (.load 1 false (.t 8)) (tg 10 5 true (.bslice 1 [(.t 7),(.t 9)]) (tg 11 5 true (.call 87 [(.t 10)]) (tq 12 (.pick (.t 5) (.t 11) (.c (.bool false))) (tm 13 (.t 12) (tg 14 13 true (.faddr 6 (.t 1)) (tg 15 13 true (.load 1 false (.t 14)) (tg 16 13 true (.len (.t 15)) (tg 17 13 true (.bin .leq (.t 16) (.c (.int .i64 6))) (tq 18 (.pick (.t 13) (.t 17) (.c (.bool false))) (tm 19 (.t 18) (tg 20 19 true (.faddr 6 (.t 1)) (tg 21 19 true (.load 1 false (.t 20)) (tg 22 19 true (.call 87 [(.t 21)]) (tq 23 (.pick (.t 19) (.t 22) (.c (.bool false))) (tm 24 (.t 23) (tg 25 24 true (.faddr 3 (.t 1)) (tg 26 24 true (.load 1 false (.t 25)) (tg 27 24 true (.call 88 [(.t 26)]) (tq 28 (.pick (.t 24) (.t 27) (.c (.bool false))) (tm 29 (.t 28) (tg 30 29 true (.faddr 5 (.t 1)) (tg 31 29 true (.load 1 false (.t 30)) (tg 32 29 true (.call 89 [(.t 31)]) (tq 33 (.pick (.t 29) (.t 32) (.c (.bool false))) (tm 34 (.t 33) (tg 35 34 true (.faddr 4 (.t 1)) (tg 36 34 true (.load 1 false (.t 35)) (tg 37 34 true (.call 90 [(.t 36)]) (tq 38 (.pick (.t 34) (.t 37) (.c (.bool false))) (tm 2 (.t 38) .done))))))))))))))))))))))))))))))))))))))
 .ret))
theorem fc40:fcomp Tryz.prog Tryz.f40 = some (c40.erase,[.mov (.t 2)],39):=by kernel_rfl
def impl_OpOK (o_1:GOp):Option Bool :=
    (impl_Op_isUnused o_1).bind fun r_2 =>
    if r_2 then
    (impl_areShort [o_1.Table,o_1.Name]).bind fun r_5 =>
    if (bif r_5 then (decide ((o_1.Columns.length:Int) ≤ 6)) else false) then
    (impl_areShort o_1.Columns).bind fun r_9 =>
    if r_9 then
    (impl_condsOK o_1.Where).bind fun r_12 =>
    if r_12 then
    (impl_mutsOK o_1.Muts).bind fun r_15 =>
    if r_15 then
    (impl_setsOK o_1.Row).bind fun r_18 =>
    some r_18
    else
    some false
    else
    some false
    else
    some false
    else
    some false
    else
    some false
theorem w_impl_OpOK (o_1:GOp) (r:Bool) (hf:impl_OpOK o_1 = some r):CallOK Tryz.prog 40 .flat [(encGOp o_1)] (.bool r):=by
 refine CallOK.of_awp mixed Tryz.func40 fc40 nle ?_;rw [argT_eq];unfold impl_OpOK at hf;unfold c40;refine (show awp Tryz.prog false 0 _ (ofL [(0,(encGOp o_1))]) [] _ from ?_);refine sr<|s_do (o_box (j:=0) (c:=(.agg [(.int .i64 o_1.Kind),(.str o_1.Table),(.str o_1.Name),(.lst 3 (o_1.Where.map encGCond)),(.lst 3 (o_1.Row.map encGSet)),(.lst 3 (o_1.Muts.map encGMut)),(.lst 1 (o_1.Columns.map AV.str)),(.bool o_1.Until)])) rfl trivial rfl rfl)<|s_mov (.bool false) rfl<|dk<|sr<|s_q (.agg [(.int .i64 o_1.Kind),(.str o_1.Table),(.str o_1.Name),(.lst 3 (o_1.Where.map encGCond)),(.lst 3 (o_1.Row.map encGSet)),(.lst 3 (o_1.Muts.map encGMut)),(.lst 1 (o_1.Columns.map AV.str)),(.bool o_1.Until)]) rfl nle rfl<|?_
 obtain ⟨r_2,er3,hf⟩:=ob hf
 refine s_do (o_call (w_impl_Op_isUnused _ _ er3) rfl (.refl _) rfl)<|s_mov (.bool r_2) rfl<|?_
 rcases oi hf with ⟨c4,hf⟩ | ⟨c4,hf⟩
 ·refine s_lit (s:=5) (b:=true) rfl c4<|s_on rfl<|s_q (.ptr 0 0 1) rfl trivial rfl<|s_on rfl<|s_q (.str o_1.Table) rfl nle rfl<|s_on rfl<|s_q (.ptr 0 0 2) rfl trivial rfl<|s_on rfl<|s_q (.str o_1.Name) rfl nle rfl<|s_on rfl<|?_;refine s_do (o_bslice (j:=1) (as':=[(.str o_1.Table),(.str o_1.Name)]) rfl (fun _ => by decide) ⟨rfl,⟨rfl,trivial⟩⟩ (.refl _) rfl rfl rfl) ?_;refine s_on rfl ?_
  obtain ⟨r_5,er6,hf⟩:=ob hf
  refine s_do (o_call (w_impl_areShort _ _ er6) rfl (.cons (.of_eq (congrArg (AV.lst _) (tko [o_1.Table,o_1.Name]))) .nil) rfl)<|s_q (.bool r_5) rfl trivial rfl<|s_mov (.bool r_5) rfl<|?_;refine s_g (v:=r_5) (.ptr 0 0 6) rfl (fun hv => by (try simp only [gs_on hv]);exact ⟨rfl,trivial,rfl⟩) ?_;refine s_g (v:=r_5) (.lst 1 (o_1.Columns.map AV.str)) rfl (fun hv => by (try simp only [gs_on hv]);exact ⟨rfl,nle,rfl⟩) ?_;refine s_g (v:=r_5) (.int .i64 (o_1.Columns.length:Int)) rfl (fun hv => by (try simp only [gs_on hv]);exact ⟨rfl,trivial,lenV _ _⟩) ?_;refine s_g (v:=r_5) (.bool (decide ((o_1.Columns.length:Int) ≤ 6))) rfl (fun hv => by (try simp only [gs_on hv]);exact ⟨rfl,rfl,rfl⟩) ?_
  refine s_pick (x:=(decide ((o_1.Columns.length:Int) ≤ 6))) (y:=false) rfl (fun hv => by (try simp only [gs_on hv]);rfl) (fun hv => by (try simp only [gs_on hv]);rfl) ?_;refine s_mov (.bool (bif r_5 then (decide ((o_1.Columns.length:Int) ≤ 6)) else false)) rfl ?_
  rcases oi hf with ⟨c8,hf⟩ | ⟨c8,hf⟩
  ·refine s_lit (s:=19) (b:=true) rfl c8<|s_on rfl<|s_q (.ptr 0 0 6) rfl trivial rfl<|s_on rfl<|s_q (.lst 1 (o_1.Columns.map AV.str)) rfl nle rfl<|s_on rfl<|?_
   obtain ⟨r_9,er10,hf⟩:=ob hf
   refine s_do (o_call (w_impl_areShort _ _ er10) rfl (.refl _) rfl)<|s_q (.bool r_9) rfl trivial rfl<|s_mov (.bool r_9) rfl<|?_
   rcases oi hf with ⟨c11,hf⟩ | ⟨c11,hf⟩
   ·refine s_lit (s:=24) (b:=true) rfl c11<|s_on rfl<|s_q (.ptr 0 0 3) rfl trivial rfl<|s_on rfl<|s_q (.lst 3 (o_1.Where.map encGCond)) rfl nle rfl<|s_on rfl<|?_
    obtain ⟨r_12,er13,hf⟩:=ob hf
    refine s_do (o_call (w_impl_condsOK _ _ er13) rfl (.refl _) rfl)<|s_q (.bool r_12) rfl trivial rfl<|s_mov (.bool r_12) rfl<|?_
    rcases oi hf with ⟨c14,hf⟩ | ⟨c14,hf⟩
    ·refine s_lit (s:=29) (b:=true) rfl c14<|s_on rfl<|s_q (.ptr 0 0 5) rfl trivial rfl<|s_on rfl<|s_q (.lst 3 (o_1.Muts.map encGMut)) rfl nle rfl<|s_on rfl<|?_
     obtain ⟨r_15,er16,hf⟩:=ob hf
     refine s_do (o_call (w_impl_mutsOK _ _ er16) rfl (.refl _) rfl)<|s_q (.bool r_15) rfl trivial rfl<|s_mov (.bool r_15) rfl<|?_
     rcases oi hf with ⟨c17,hf⟩ | ⟨c17,hf⟩
     ·refine s_lit (s:=34) (b:=true) rfl c17<|s_on rfl<|s_q (.ptr 0 0 4) rfl trivial rfl<|s_on rfl<|s_q (.lst 3 (o_1.Row.map encGSet)) rfl nle rfl<|s_on rfl<|?_
      obtain ⟨r_18,er19,hf⟩:=ob hf
      refine s_do (o_call (w_impl_setsOK _ _ er19) rfl (.refl _) rfl)<|s_q (.bool r_18) rfl trivial rfl<|s_mov (.bool r_18) rfl<|dk<|w_ret<|?_;obtain rfl:=os hf;exact r_flat ⟨trivial,trivial⟩ rfl (.refl _)
     ·refine s_lit (s:=34) (b:=false) rfl (bf c17)<|s_off rfl rfl<|s_off rfl rfl<|s_off rfl rfl<|s_q (.bool false) rfl trivial rfl<|s_mov (.bool false) rfl<|dk<|w_ret<|?_;obtain rfl:=os hf;exact r_flat ⟨trivial,trivial⟩ rfl (.refl _)
    ·refine s_lit (s:=29) (b:=false) rfl (bf c14)<|s_off rfl rfl<|s_off rfl rfl<|s_off rfl rfl<|s_q (.bool false) rfl trivial rfl<|s_mov (.bool false) rfl<|s_off rfl rfl<|s_off rfl rfl<|s_off rfl rfl<|s_q (.bool false) rfl trivial rfl<|s_mov (.bool false) rfl<|dk<|w_ret<|?_;obtain rfl:=os hf;exact r_flat ⟨trivial,trivial⟩ rfl (.refl _)
   ·refine s_lit (s:=24) (b:=false) rfl (bf c11)<|s_off rfl rfl<|s_off rfl rfl<|s_off rfl rfl<|s_q (.bool false) rfl trivial rfl<|s_mov (.bool false) rfl<|s_off rfl rfl<|s_off rfl rfl<|s_off rfl rfl<|s_q (.bool false) rfl trivial rfl<|s_mov (.bool false) rfl<|s_off rfl rfl<|s_off rfl rfl<|s_off rfl rfl<|s_q (.bool false) rfl trivial rfl<|s_mov (.bool false) rfl<|dk<|w_ret<|?_;obtain rfl:=os hf;exact r_flat ⟨trivial,trivial⟩ rfl (.refl _)
  ·refine s_lit (s:=19) (b:=false) rfl (bf c8)<|s_off rfl rfl<|s_off rfl rfl<|s_off rfl rfl<|s_q (.bool false) rfl trivial rfl<|s_mov (.bool false) rfl<|s_off rfl rfl<|s_off rfl rfl<|s_off rfl rfl<|s_q (.bool false) rfl trivial rfl<|s_mov (.bool false) rfl<|s_off rfl rfl<|s_off rfl rfl<|s_off rfl rfl<|s_q (.bool false) rfl trivial rfl<|s_mov (.bool false) rfl<|s_off rfl rfl<|s_off rfl rfl<|s_off rfl rfl<|s_q (.bool false) rfl trivial rfl<|s_mov (.bool false) rfl<|dk<|w_ret<|?_;obtain rfl:=os hf;exact r_flat ⟨trivial,trivial⟩ rfl (.refl _)
 ·refine s_lit (s:=5) (b:=false) rfl (bf c4)<|s_off rfl rfl<|s_off rfl rfl<|s_off rfl rfl<|s_off rfl rfl<|s_off rfl rfl<|s_off rfl rfl<|s_q (.bool false) rfl trivial rfl<|s_mov (.bool false) rfl<|s_off rfl rfl<|s_off rfl rfl<|s_off rfl rfl<|s_off rfl rfl<|s_q (.bool false) rfl trivial rfl<|s_mov (.bool false) rfl<|s_off rfl rfl<|s_off rfl rfl<|s_off rfl rfl<|s_q (.bool false) rfl trivial rfl<|s_mov (.bool false) rfl<|s_off rfl rfl<|s_off rfl rfl<|s_off rfl rfl<|s_q (.bool false) rfl trivial rfl<|s_mov (.bool false) rfl<|s_off rfl rfl<|s_off rfl rfl<|s_off rfl rfl<|s_q (.bool false) rfl trivial rfl<|s_mov (.bool false) rfl<|s_off rfl rfl<|s_off rfl rfl<|?_
  refine s_off rfl rfl<|s_q (.bool false) rfl trivial rfl<|s_mov (.bool false) rfl<|dk<|w_ret<|?_;obtain rfl:=os hf;exact r_flat ⟨trivial,trivial⟩ rfl (.refl _)

/- (impl.Table).named -/
def c147:ACode :=
 (.seq (.reg (tq 2 (.box 4 (.t 0)) (tq 4 (.box 8 (.c (.agg [(.str []),(.int .i64 0),(.int .i64 0),(.int .i64 0),(.int .i64 0),(.int .i64 0),(.str []),(.bool false)]))) (tm 5 (.c (.bool false)) .done))))
 (.seq (.reg (tq 7 (.load 4 true (.t 2)) (tm 8 (.t 1) (tq 9 (.call 131 [(.t 7),(.t 8)]) (tm 6 (.t 9) .done)))))
 (.seq (.block 0 (.seq (.reg (tm 11 (.t 6) (tq 12 (.bin .geq (.t 11) (.c (.int .i64 0))) (tm 10 (.t 12) .done))))
 (.cond (.t 10) (.seq (.reg (tq 13 (.faddr 1 (.t 2)) (tq 14 (.load 1 false (.t 13)) (tm 15 (.t 6) (tq 16 (.iaddr 8 (.t 14) (.t 15)) (tq 17 (.load 8 true (.t 16)) (.q ⟨none,none,.store 8 (.t 4) (.t 17)⟩
 (tm 5 (.c (.bool true)) .done))))))))
 .ret)
 (.seq (.reg (tm 19 (.t 1) (tq 20 (.bin .eql (.t 19) (.c (.str [95,117,117,105,100]))) (tm 18 (.t 20) .done))))
 (.cond (.t 18) (.seq (.reg (tq 21 (.build [(.str []),(.int .i64 0),(.int .i64 0),(.int .i64 0),(.int .i64 0),(.int .i64 0),(.str []),(.bool false)] [(0,1,(.c (.str [95,117,117,105,100]))),(1,1,(.c (.int .i64 4))),(3,1,(.c (.int .i64 1)))]) (.q ⟨none,none,.store 8 (.t 4) (.t 21)⟩
 (tm 5 (.c (.bool true)) .done))))
 .ret)
 .skip)))))
 (.seq (.reg (tq 22 (.build [(.str []),(.int .i64 0),(.int .i64 0),(.int .i64 0),(.int .i64 0),(.int .i64 0),(.str []),(.bool false)] []) (.q ⟨none,none,.store 8 (.t 4) (.t 22)⟩
 (tm 5 (.c (.bool false)) .done))))
 .ret))))
theorem fc147:fcomp Tryz.prog Tryz.f147 = some (c147.erase,[.load 8 true (.t 4),.mov (.t 5)],23):=by kernel_rfl
def impl_Table_named (t_1:GTable) (name_2:Str):Option (GColumn × Bool) :=
    (impl_Table_columnAt t_1 name_2).bind fun r_3 =>
    if (decide (r_3 ≥ 0)) then
    (idx t_1.Columns r_3).bind fun x_6 =>
    some (x_6,true)
    else
    if (name_2 == [95,117,117,105,100]) then
    some ((⟨[95,117,117,105,100],4,0,1,0,0,[],false⟩:GColumn),true)
    else
    some ((⟨[],0,0,0,0,0,[],false⟩:GColumn),false)
theorem w_impl_Table_named (t_1:GTable) (name_2:Str) (r:(GColumn × Bool)) (hf:impl_Table_named t_1 name_2 = some r):CallOK Tryz.prog 147 .flat [(encGTable t_1),(.str name_2)] (.tup [(encGColumn r.1),(.bool r.2)]):=by
 refine CallOK.of_awp mixed Tryz.func147 fc147 nle ?_;rw [argT_eq];unfold impl_Table_named at hf;unfold c147;refine (show awp Tryz.prog false 0 _ (ofL [(0,(encGTable t_1)),(1,(.str name_2))]) [] _ from ?_);refine sr<|s_do (o_box (j:=0) (c:=(.agg [(.str t_1.Name),(.lst 8 (t_1.Columns.map encGColumn)),(.lst 1 (t_1.Unique.map encI)),(.bool t_1.Root)])) rfl trivial rfl rfl)<|s_do (o_box (j:=1) (c:=(.agg [(.str []),(.int .i64 0),(.int .i64 0),(.int .i64 0),(.int .i64 0),(.int .i64 0),(.str []),(.bool false)])) rfl trivial rfl rfl)<|s_mov (.bool false) rfl<|dk<|sr<|?_
 obtain ⟨r_3,er4,hf⟩:=ob hf
 refine s_q (.agg [(.str t_1.Name),(.lst 8 (t_1.Columns.map encGColumn)),(.lst 1 (t_1.Unique.map encI)),(.bool t_1.Root)]) rfl nle rfl<|s_mov (.str name_2) rfl<|s_do (o_call (w_impl_Table_columnAt _ _ _ er4) rfl (.refl _) rfl)<|s_mov (.int .i64 r_3) rfl<|dk<|awp_seq<|w_blk<|sr<|s_mov (.int .i64 r_3) rfl<|s_q (.bool (decide (r_3 ≥ 0))) rfl rfl rfl<|s_mov (.bool (decide (r_3 ≥ 0))) rfl<|dk<|?_
 rcases oi hf with ⟨c5,hf⟩ | ⟨c5,hf⟩
 ·refine w_condt rfl c5<|sr<|?_
  obtain ⟨x_6,ex7,hf⟩:=ob hf
  refine s_q (.ptr 0 0 1) rfl trivial rfl<|s_q (.lst 8 (t_1.Columns.map encGColumn)) rfl nle rfl<|s_mov (.int .i64 r_3) rfl<|s_do (o_iaddr (enc:=encGColumn) rfl rfl (idx0 ex7) (idx1 ex7))<|s_q (encGColumn x_6) rfl nle rfl<|s_do0 (o_storebox (v:=(.agg [(.str x_6.Name),(.int .i64 x_6.Kind),(.int .i64 x_6.Min),(.int .i64 x_6.Max),(.int .i64 x_6.Low),(.int .i64 x_6.High),(.str x_6.Ref),(.bool x_6.Strong)])) (y':=(.agg [(.str x_6.Name),(.int .i64 x_6.Kind),(.int .i64 x_6.Min),(.int .i64 x_6.Max),(.int .i64 x_6.Low),(.int .i64 x_6.High),(.str x_6.Ref),(.bool x_6.Strong)])) rfl rfl rfl trivial ⟨rfl,nle⟩ ⟨⟨rfl,trivial⟩,⟨⟨rfl,trivial⟩,⟨⟨rfl,trivial⟩,⟨⟨rfl,trivial⟩,⟨⟨rfl,trivial⟩,⟨⟨rfl,trivial⟩,⟨⟨rfl,trivial⟩,⟨⟨rfl,trivial⟩,trivial⟩⟩⟩⟩⟩⟩⟩⟩ rfl)<|?_
  refine s_mov (.bool true) rfl<|dk<|w_ret<|?_;obtain rfl:=os hf;exact r_flat ⟨nle,⟨trivial,trivial⟩⟩ rfl (.refl _)
 ·refine w_condf rfl (bf c5)<|sr<|s_mov (.str name_2) rfl<|s_q (.bool (name_2 == [95,117,117,105,100])) rfl trivial rfl<|s_mov (.bool (name_2 == [95,117,117,105,100])) rfl<|dk<|?_
  rcases oi hf with ⟨c8,hf⟩ | ⟨c8,hf⟩
  ·refine w_condt rfl c8<|sr<|s_q (.agg [(.str [95,117,117,105,100]),(.int .i64 4),(.int .i64 0),(.int .i64 1),(.int .i64 0),(.int .i64 0),(.str []),(.bool false)]) rfl ⟨⟨rfl,nle,trivial⟩,⟨⟨rfl,nle,trivial⟩,⟨⟨rfl,nle,trivial⟩,trivial⟩⟩⟩ rfl<|s_do0 (o_storebox (v:=(.agg [(.str [95,117,117,105,100]),(.int .i64 4),(.int .i64 0),(.int .i64 1),(.int .i64 0),(.int .i64 0),(.str []),(.bool false)])) (y':=(.agg [(.str [95,117,117,105,100]),(.int .i64 4),(.int .i64 0),(.int .i64 1),(.int .i64 0),(.int .i64 0),(.str []),(.bool false)])) rfl rfl rfl trivial ⟨rfl,nle⟩ ⟨⟨rfl,trivial⟩,⟨⟨rfl,trivial⟩,⟨⟨rfl,trivial⟩,⟨⟨rfl,trivial⟩,⟨⟨rfl,trivial⟩,⟨⟨rfl,trivial⟩,⟨⟨rfl,trivial⟩,⟨⟨rfl,trivial⟩,trivial⟩⟩⟩⟩⟩⟩⟩⟩ rfl)<|?_
   refine s_mov (.bool true) rfl<|dk<|w_ret<|?_;obtain rfl:=os hf;exact r_flat ⟨nle,⟨trivial,trivial⟩⟩ rfl (.refl _)
  ·refine w_condf rfl (bf c8)<|w_skip<|k_blk<|k_seq<|sr<|s_q (.agg [(.str []),(.int .i64 0),(.int .i64 0),(.int .i64 0),(.int .i64 0),(.int .i64 0),(.str []),(.bool false)]) rfl trivial rfl<|s_do0 (o_storebox (v:=(.agg [(.str []),(.int .i64 0),(.int .i64 0),(.int .i64 0),(.int .i64 0),(.int .i64 0),(.str []),(.bool false)])) (y':=(.agg [(.str []),(.int .i64 0),(.int .i64 0),(.int .i64 0),(.int .i64 0),(.int .i64 0),(.str []),(.bool false)])) rfl rfl rfl trivial ⟨rfl,nle⟩ ⟨⟨rfl,trivial⟩,⟨⟨rfl,trivial⟩,⟨⟨rfl,trivial⟩,⟨⟨rfl,trivial⟩,⟨⟨rfl,trivial⟩,⟨⟨rfl,trivial⟩,⟨⟨rfl,trivial⟩,⟨⟨rfl,trivial⟩,trivial⟩⟩⟩⟩⟩⟩⟩⟩ rfl)<|s_mov (.bool false) rfl<|?_
   refine dk<|w_ret<|?_;obtain rfl:=os hf;exact r_flat ⟨nle,⟨trivial,trivial⟩⟩ rfl (.refl _)

/- impl.columnsCode -/
def c93:ACode :=
 (.seq (.reg (tq 2 (.box 4 (.t 0)) (tm 4 (.c (.int .i64 0)) .done)))
 (.seq (.seq (.reg (tm 9 (.t 1) (tq 10 (.len (.t 9)) (tm 11 (.c (.int .i64 0)) .done))))
 (.block 0 (.loop (.seq (.reg (tq 12 (.bin .lss (.t 11) (.t 10)) .done))
 (.seq (.cond (.t 12) .skip
 (.exit 0))
 (.seq (.block 1 (.seq (.reg (tq 13 (.iaddr 1 (.t 9) (.t 11)) (tq 14 (.load 1 false (.t 13)) (tm 6 (.t 14) .done))))
 (.seq (.reg (tq 16 (.load 4 true (.t 2)) (tm 17 (.t 6) (tq 18 (.call 147 [(.t 16),(.t 17)]) (tm 15 (.t 18) (tq 19 (.extract 0 (.t 15)) (tq 20 (.extract 1 (.t 15)) (tq 7 (.box 8 (.c (.agg [(.str []),(.int .i64 0),(.int .i64 0),(.int .i64 0),(.int .i64 0),(.int .i64 0),(.str []),(.bool false)]))) (.q ⟨none,none,.store 8 (.t 7) (.t 19)⟩
 (tm 8 (.t 20) .done))))))))))
 (.seq (.reg (tm 21 (.t 8) (tq 22 (.not (.t 21)) .done)))
 (.cond (.t 22) (.seq (.reg (tm 4 (.c (.int .i64 11)) .done))
 .ret)
 .skip)))))
 (.reg (tq 23 (.bin .add (.t 11) (.c (.int .i64 1))) (tm 11 (.t 23) .done)))))))))
 (.cut (.seq (.reg (tm 4 (.c (.int .i64 0)) .done))
 .ret))))
theorem fc93:fcomp Tryz.prog Tryz.f93 = some (c93.erase,[.mov (.t 4)],24):=by kernel_rfl
def impl_columnsCode_L1 (t_1:GTable):List Str → Option (Fl Int Unit)
  | [] =>
    some (.go ())
  | x_31 :: xs =>
    (impl_Table_named t_1 x_31).bind fun r_32 =>
    if (!r_32.2) then
    some (.ret 11)
    else
    impl_columnsCode_L1 t_1 xs 

def impl_columnsCode (t_1:GTable) (names_2:(List Str)):Option Int :=
    (impl_columnsCode_L1 t_1 names_2 ).bind fun q => (match q with
    | .ret r => some r
    | .go _ =>
    some 0)
theorem w_impl_columnsCode (t_1:GTable) (names_2:(List Str)) (r:Int) (hf:impl_columnsCode t_1 names_2 = some r):CallOK Tryz.prog 93 .flat [(encGTable t_1),(.lst 1 (names_2.map AV.str))] (.int .i64 r):=by
 refine CallOK.of_awp mixed Tryz.func93 fc93 nle ?_;rw [argT_eq];unfold impl_columnsCode at hf;unfold c93;refine (show awp Tryz.prog false 0 _ (ofL [(0,(encGTable t_1)),(1,(.lst 1 (names_2.map AV.str)))]) [] _ from ?_);refine sr<|s_do (o_box (j:=0) (c:=(.agg [(.str t_1.Name),(.lst 8 (t_1.Columns.map encGColumn)),(.lst 1 (t_1.Unique.map encI)),(.bool t_1.Root)])) rfl trivial rfl rfl)<|s_mov (.int .i64 0) rfl<|dk<|awp_seq<|sr<|s_mov (.lst 1 (names_2.map AV.str)) rfl<|s_dof (o_len (enc:=AV.str) rfl) fun hl3 => s_mov (.int .i64 0) rfl<|dk<|?_
 obtain ⟨p24,hb1,hf⟩:=ob hf
 refine awp_cutx (X:={q:Unit // p24 = .go q}) (fun q => ([],[])) ?_ ?_
 ·refine awp_loop (X:={q:Nat // impl_columnsCode_L1 t_1 (names_2.drop q)  = some p24}) (fun q => ([(2,(.ptr 0 0 0)),(9,(.lst 1 (names_2.map AV.str))),(10,(.int .i64 (names_2.length:Int))),(11,(.int .i64 (q.1:Int)))],[.box 4 (.agg [(.str t_1.Name),(.lst 8 (t_1.Columns.map encGColumn)),(.lst 1 (t_1.Unique.map encI)),(.bool t_1.Root)])])) (fun q => names_2.length - q.1) ⟨0,hb1⟩ ⟨[],[0],_,_,rfl,rfl,⟨.refl _,⟨.refl _,⟨.refl _,⟨.refl _,trivial⟩⟩⟩⟩,(.refl _)⟩ ?_
  rintro ⟨s11_17,hc1⟩
  have hc1:impl_columnsCode_L1 t_1 (names_2.drop s11_17)  = some p24:=hc1
  refine (show awp Tryz.prog false 0 _ (ofL [(2,(.ptr 0 0 0)),(9,(.lst 1 (names_2.map AV.str))),(10,(.int .i64 (names_2.length:Int))),(11,(.int .i64 (s11_17:Int)))]) [.box 4 (.agg [(.str t_1.Name),(.lst 8 (t_1.Columns.map encGColumn)),(.lst 1 (t_1.Unique.map encI)),(.bool t_1.Root)])] _ from ?_)
  rcases dropc names_2 s11_17 with ⟨hie27,hd30⟩ | ⟨hlt25,x_31,hx26,hd30⟩
  ·rw [hd30,impl_columnsCode_L1.eq_1] at hc1
   have hq29:=dlf hie27
   refine sr<|s_q (.bool (decide ((s11_17:Int) < (names_2.length:Int)))) rfl rfl rfl<|dk<|awp_seq<|w_condf rfl hq29<|w_exit<|k_seqx<|k_loopx<|k_blkx<|?_;obtain rfl:=os hc1;exact k_cutn ⟨_,rfl⟩ ⟨[],[],_,_,rfl,rfl,trivial,(.refl _)⟩
  ·rw [hd30,impl_columnsCode_L1.eq_2] at hc1
   have hq29:=dlt hlt25
   refine sr<|s_q (.bool (decide ((s11_17:Int) < (names_2.length:Int)))) rfl rfl rfl<|dk<|awp_seq<|w_condt rfl hq29<|w_skip<|k_seq<|awp_seq<|w_blk<|sr<|s_do (o_iaddrn (enc:=AV.str) rfl rfl hx26)<|s_q (.str x_31) rfl ⟨rfl,rfl⟩ rfl<|s_mov (.str x_31) rfl<|dk<|sr<|?_
   obtain ⟨r_32,er33,hc1⟩:=ob hc1
   refine s_q (.agg [(.str t_1.Name),(.lst 8 (t_1.Columns.map encGColumn)),(.lst 1 (t_1.Unique.map encI)),(.bool t_1.Root)]) rfl nle rfl<|s_mov (.str x_31) rfl<|s_do (o_call (w_impl_Table_named _ _ _ er33) rfl (.refl _) rfl)<|s_mov (.tup [(encGColumn r_32.1),(.bool r_32.2)]) rfl<|s_q (encGColumn r_32.1) rfl nle rfl<|s_q (.bool r_32.2) rfl nle rfl<|s_do (o_box (j:=1) (c:=(.agg [(.str []),(.int .i64 0),(.int .i64 0),(.int .i64 0),(.int .i64 0),(.int .i64 0),(.str []),(.bool false)])) rfl trivial rfl rfl)<|s_do0 (o_storebox (v:=(.agg [(.str r_32.1.Name),(.int .i64 r_32.1.Kind),(.int .i64 r_32.1.Min),(.int .i64 r_32.1.Max),(.int .i64 r_32.1.Low),(.int .i64 r_32.1.High),(.str r_32.1.Ref),(.bool r_32.1.Strong)])) (y':=(.agg [(.str r_32.1.Name),(.int .i64 r_32.1.Kind),(.int .i64 r_32.1.Min),(.int .i64 r_32.1.Max),(.int .i64 r_32.1.Low),(.int .i64 r_32.1.High),(.str r_32.1.Ref),(.bool r_32.1.Strong)])) rfl rfl rfl trivial ⟨rfl,nle⟩ ⟨⟨rfl,trivial⟩,⟨⟨rfl,trivial⟩,⟨⟨rfl,trivial⟩,⟨⟨rfl,trivial⟩,⟨⟨rfl,trivial⟩,⟨⟨rfl,trivial⟩,⟨⟨rfl,trivial⟩,⟨⟨rfl,trivial⟩,trivial⟩⟩⟩⟩⟩⟩⟩⟩ rfl)<|?_
   refine s_mov (.bool r_32.2) rfl<|dk<|sr<|s_mov (.bool r_32.2) rfl<|s_q (.bool (!r_32.2)) rfl trivial rfl<|dk<|?_
   rcases oi hc1 with ⟨c34,hc1⟩ | ⟨c34,hc1⟩
   ·refine w_condt rfl c34<|sr<|s_mov (.int .i64 11) rfl<|dk<|w_ret<|?_;obtain rfl:=os hc1;obtain rfl:=os hf;exact r_flat ⟨trivial,trivial⟩ rfl (.refl _)
   ·refine w_condf rfl (bf c34)<|w_skip<|k_blk<|k_seq<|w_reg<|s_q (.int .i64 (w64 ((s11_17:Int) + 1))) rfl rfl rfl<|s_mov (.int .i64 (w64 ((s11_17:Int) + 1))) rfl<|w_done<|?_;exact k_loopn ⟨(s11_17 + 1),hc1⟩ (mul hlt25) ⟨[],[0],_,_,rfl,rfl,⟨.refl _,⟨.refl _,⟨.refl _,⟨.of_eq (congrArg (AV.int _) (w64_incr hlt25 hl3)),trivial⟩⟩⟩⟩,(.refl _)⟩
 ·rintro ⟨_,rfl⟩
  refine sr<|s_mov (.int .i64 0) rfl<|dk<|w_ret<|?_;obtain rfl:=os hf;exact r_flat ⟨trivial,trivial⟩ rfl (.refl _)

/- impl.condCode -/
def c148:ACode :=
 (.seq (.reg (tq 2 (.box 4 (.t 0)) (tq 3 (.box 3 (.t 1)) (tm 4 (.c (.int .i64 0)) .done))))
 (.seq (.reg (tq 8 (.load 4 true (.t 2)) (tq 9 (.faddr 0 (.t 3)) (tq 10 (.load 1 false (.t 9)) (tq 11 (.call 147 [(.t 8),(.t 10)]) (tm 7 (.t 11) (tq 12 (.extract 0 (.t 7)) (tq 13 (.extract 1 (.t 7)) (tq 5 (.box 8 (.c (.agg [(.str []),(.int .i64 0),(.int .i64 0),(.int .i64 0),(.int .i64 0),(.int .i64 0),(.str []),(.bool false)]))) (.q ⟨none,none,.store 8 (.t 5) (.t 12)⟩
 (tm 6 (.t 13) .done)))))))))))
 (.seq (.block 0 (.seq (.reg (tm 15 (.t 6) (tq 16 (.not (.t 15)) (tm 14 (.t 16) .done))))
 (.cond (.t 14) (.seq (.reg (tm 4 (.c (.int .i64 11)) .done))
 .ret)
 (.seq (.reg (tq 18 (.faddr 2 (.t 3)) (tq 19 (.load 1 false (.t 18)) (tq 20 (.len (.t 19)) (tq 21 (.bin .gtr (.t 20) (.c (.int .i64 0))) (tm 22 (.t 21) (tg 23 22 true (.faddr 2 (.t 3)) (tg 24 22 true (.load 1 false (.t 23)) (tg 25 22 true (.iaddr 3 (.t 24) (.c (.int .i64 0))) (tg 26 22 true (.faddr 0 (.t 25)) (tg 27 22 true (.load 1 false (.t 26)) (tg 28 22 true (.faddr 1 (.t 5)) (tg 29 22 true (.load 1 false (.t 28)) (tg 30 22 true (.bin .neq (.t 27) (.t 29)) (tq 31 (.pick (.t 22) (.t 30) (.c (.bool false))) (tm 17 (.t 31) .done))))))))))))))))
 (.cut (.cond (.t 17) (.seq (.reg (tm 4 (.c (.int .i64 9)) .done))
 .ret)
 (.seq (.reg (tq 33 (.faddr 1 (.t 3)) (tq 34 (.load 1 false (.t 33)) (tq 35 (.call 58 [(.t 34),(.c (.int .i64 3)),(.c (.int .i64 6))]) (tm 36 (.t 35) (tg 37 36 true (.faddr 1 (.t 5)) (tg 38 36 true (.load 1 false (.t 37)) (tg 39 36 true (.bin .neq (.t 38) (.c (.int .i64 1))) (tg 40 36 true (.mov (.t 39)) (tg 41 40 false (.faddr 3 (.t 5)) (tg 42 40 false (.load 1 false (.t 41)) (tg 43 40 false (.bin .neq (.t 42) (.c (.int .i64 1))) (tg 44 36 true (.pick (.t 40) (.c (.bool true)) (.t 43)) (tg 45 36 true (.mov (.t 44)) (tg 46 45 false (.faddr 2 (.t 3)) (tg 47 45 false (.load 1 false (.t 46)) (tg 48 45 false (.len (.t 47)) (tg 49 45 false (.bin .neq (.t 48) (.c (.int .i64 1))) (tg 50 36 true (.pick (.t 45) (.c (.bool true)) (.t 49)) (tq 51 (.pick (.t 36) (.t 50) (.c (.bool false))) (tm 32 (.t 51) .done)))))))))))))))))))))
 (.cut (.cond (.t 32) (.seq (.reg (tm 4 (.c (.int .i64 9)) .done))
 .ret)
 .skip)))))))))
 (.seq (.reg (tm 4 (.c (.int .i64 0)) .done))
 .ret))))
theorem fc148:fcomp Tryz.prog Tryz.f148 = some (c148.erase,[.mov (.t 4)],52):=by kernel_rfl
def impl_condCode (t_1:GTable) (c_2:GCond):Option Int :=
    (impl_Table_named t_1 c_2.Column).bind fun r_3 =>
    if (!r_3.2) then
    some 11
    else
    ((if (decide ((c_2.Value.length:Int) > 0)) then
    (idx c_2.Value 0).bind fun x_14 =>
    some (x_14.Kind != r_3.1.Kind)
    else
    some false:Option Bool)).bind fun s17_10 =>
    if s17_10 then
    some 9
    else
    (((impl_within c_2.Func 3 6).bind fun r_22 =>
    some (bif r_22 then (bif (bif (r_3.1.Kind != 1) then true else (r_3.1.Max != 1)) then true else ((c_2.Value.length:Int) != 1)) else false):Option Bool)).bind fun s32_20 =>
    if s32_20 then
    some 9
    else
    some 0
theorem w_impl_condCode (t_1:GTable) (c_2:GCond) (r:Int) (hf:impl_condCode t_1 c_2 = some r):CallOK Tryz.prog 148 .flat [(encGTable t_1),(encGCond c_2)] (.int .i64 r):=by
 refine CallOK.of_awp mixed Tryz.func148 fc148 nle ?_;rw [argT_eq];unfold impl_condCode at hf;unfold c148;refine (show awp Tryz.prog false 0 _ (ofL [(0,(encGTable t_1)),(1,(encGCond c_2))]) [] _ from ?_);refine sr<|s_do (o_box (j:=0) (c:=(.agg [(.str t_1.Name),(.lst 8 (t_1.Columns.map encGColumn)),(.lst 1 (t_1.Unique.map encI)),(.bool t_1.Root)])) rfl trivial rfl rfl)<|s_do (o_box (j:=1) (c:=(.agg [(.str c_2.Column),(.int .i64 c_2.Func),(.lst 3 (c_2.Value.map encGAtom))])) rfl trivial rfl rfl)<|s_mov (.int .i64 0) rfl<|dk<|sr<|?_
 obtain ⟨r_3,er4,hf⟩:=ob hf
 refine s_q (.agg [(.str t_1.Name),(.lst 8 (t_1.Columns.map encGColumn)),(.lst 1 (t_1.Unique.map encI)),(.bool t_1.Root)]) rfl nle rfl<|s_q (.ptr 1 0 0) rfl trivial rfl<|s_q (.str c_2.Column) rfl nle rfl<|s_do (o_call (w_impl_Table_named _ _ _ er4) rfl (.refl _) rfl)<|s_mov (.tup [(encGColumn r_3.1),(.bool r_3.2)]) rfl<|s_q (encGColumn r_3.1) rfl nle rfl<|s_q (.bool r_3.2) rfl nle rfl<|s_do (o_box (j:=2) (c:=(.agg [(.str []),(.int .i64 0),(.int .i64 0),(.int .i64 0),(.int .i64 0),(.int .i64 0),(.str []),(.bool false)])) rfl trivial rfl rfl)<|s_do0 (o_storebox (v:=(.agg [(.str r_3.1.Name),(.int .i64 r_3.1.Kind),(.int .i64 r_3.1.Min),(.int .i64 r_3.1.Max),(.int .i64 r_3.1.Low),(.int .i64 r_3.1.High),(.str r_3.1.Ref),(.bool r_3.1.Strong)])) (y':=(.agg [(.str r_3.1.Name),(.int .i64 r_3.1.Kind),(.int .i64 r_3.1.Min),(.int .i64 r_3.1.Max),(.int .i64 r_3.1.Low),(.int .i64 r_3.1.High),(.str r_3.1.Ref),(.bool r_3.1.Strong)])) rfl rfl rfl trivial ⟨rfl,nle⟩ ⟨⟨rfl,trivial⟩,⟨⟨rfl,trivial⟩,⟨⟨rfl,trivial⟩,⟨⟨rfl,trivial⟩,⟨⟨rfl,trivial⟩,⟨⟨rfl,trivial⟩,⟨⟨rfl,trivial⟩,⟨⟨rfl,trivial⟩,trivial⟩⟩⟩⟩⟩⟩⟩⟩ rfl)<|?_
 refine s_mov (.bool r_3.2) rfl<|dk<|awp_seq<|w_blk<|sr<|s_mov (.bool r_3.2) rfl<|s_q (.bool (!r_3.2)) rfl trivial rfl<|s_mov (.bool (!r_3.2)) rfl<|dk<|?_
 rcases oi hf with ⟨c5,hf⟩ | ⟨c5,hf⟩
 ·refine w_condt rfl c5<|sr<|s_mov (.int .i64 11) rfl<|dk<|w_ret<|?_;obtain rfl:=os hf;exact r_flat ⟨trivial,trivial⟩ rfl (.refl _)
 ·refine w_condf rfl (bf c5)<|awp_seq<|?_
  obtain ⟨s17_10,hb1,hf⟩:=ob hf
  refine awp_cut ([(3,(.ptr 0 0 0)),(5,(.ptr 1 0 0)),(17,(.bool s17_10))],[.box 3 (.agg [(.str c_2.Column),(.int .i64 c_2.Func),(.lst 3 (c_2.Value.map encGAtom))]),.box 8 (.agg [(.str r_3.1.Name),(.int .i64 r_3.1.Kind),(.int .i64 r_3.1.Min),(.int .i64 r_3.1.Max),(.int .i64 r_3.1.Low),(.int .i64 r_3.1.High),(.str r_3.1.Ref),(.bool r_3.1.Strong)])]) ?_ ?_
  ·refine w_reg<|s_q (.ptr 1 0 2) rfl trivial rfl<|s_q (.lst 3 (c_2.Value.map encGAtom)) rfl nle rfl<|s_dof (o_len (enc:=encGAtom) rfl) fun hl12 => s_q (.bool (decide ((c_2.Value.length:Int) > 0))) rfl rfl rfl<|s_mov (.bool (decide ((c_2.Value.length:Int) > 0))) rfl<|?_
   rcases oi hb1 with ⟨c13,hb1⟩ | ⟨c13,hb1⟩
   ·refine s_lit (s:=22) (b:=true) rfl c13<|s_on rfl<|s_q (.ptr 1 0 2) rfl trivial rfl<|s_on rfl<|s_q (.lst 3 (c_2.Value.map encGAtom)) rfl nle rfl<|s_on rfl<|?_
    obtain ⟨x_14,ex15,hb1⟩:=ob hb1
    refine s_do (o_iaddr (enc:=encGAtom) rfl rfl (idx0 ex15) (idx1 ex15))<|s_on rfl<|s_q (.iptr (encGAtom x_14) 0) rfl trivial rfl<|s_on rfl<|s_q (.int .i64 x_14.Kind) rfl nle rfl<|s_on rfl<|s_q (.ptr 2 0 1) rfl trivial rfl<|s_on rfl<|s_q (.int .i64 r_3.1.Kind) rfl nle rfl<|s_on rfl<|s_q (.bool (x_14.Kind != r_3.1.Kind)) rfl rfl rfl<|s_q (.bool (x_14.Kind != r_3.1.Kind)) rfl trivial rfl<|s_mov (.bool (x_14.Kind != r_3.1.Kind)) rfl<|w_done<|?_;obtain rfl:=os hb1;exact ⟨[],[1,2],_,_,rfl,rfl,⟨.refl _,⟨.refl _,⟨.refl _,trivial⟩⟩⟩,(.refl _)⟩
   ·refine s_lit (s:=22) (b:=false) rfl (bf c13)<|s_off rfl rfl<|s_off rfl rfl<|s_off rfl rfl<|s_off rfl rfl<|s_off rfl rfl<|s_off rfl rfl<|s_off rfl rfl<|s_off rfl rfl<|s_q (.bool false) rfl trivial rfl<|s_mov (.bool false) rfl<|w_done<|?_;obtain rfl:=os hb1;exact ⟨[],[1,2],_,_,rfl,rfl,⟨.refl _,⟨.refl _,⟨.refl _,trivial⟩⟩⟩,(.refl _)⟩
  ·rcases oi hf with ⟨c16,hf⟩ | ⟨c16,hf⟩
   ·refine w_condt rfl c16<|sr<|s_mov (.int .i64 9) rfl<|dk<|w_ret<|?_;obtain rfl:=os hf;exact r_flat ⟨trivial,trivial⟩ rfl (.refl _)
   ·refine w_condf rfl (bf c16)<|awp_seq<|?_
    obtain ⟨s32_20,hb1,hf⟩:=ob hf
    refine awp_cut ([(32,(.bool s32_20))],[]) ?_ ?_
    ·refine w_reg<|s_q (.ptr 0 0 1) rfl trivial rfl<|s_q (.int .i64 c_2.Func) rfl nle rfl<|?_
     obtain ⟨r_22,er23,hb1⟩:=ob hb1
     refine s_do (o_call (w_impl_within _ _ _ _ er23) rfl (.refl _) rfl)<|s_mov (.bool r_22) rfl<|?_;refine s_g (v:=r_22) (.ptr 1 0 1) rfl (fun hv => by (try simp only [gs_on hv]);exact ⟨rfl,trivial,rfl⟩) ?_;refine s_g (v:=r_22) (.int .i64 r_3.1.Kind) rfl (fun hv => by (try simp only [gs_on hv]);exact ⟨rfl,nle,rfl⟩) ?_;refine s_g (v:=r_22) (.bool (r_3.1.Kind != 1)) rfl (fun hv => by (try simp only [gs_on hv]);exact ⟨rfl,rfl,rfl⟩) ?_;refine s_g (v:=r_22) (.bool (r_3.1.Kind != 1)) rfl (fun hv => by (try simp only [gs_on hv]);exact ⟨rfl,trivial,rfl⟩) ?_;refine s_gg (v1:=r_22) (b1:=true) (v2:=(r_3.1.Kind != 1)) (.ptr 1 0 3) rfl (fun hv hw => by (try simp only [gs_on hv,gs_on hw]);exact ⟨rfl,trivial,rfl⟩) ?_
     refine s_gg (v1:=r_22) (b1:=true) (v2:=(r_3.1.Kind != 1)) (.int .i64 r_3.1.Max) rfl (fun hv hw => by (try simp only [gs_on hv,gs_on hw]);exact ⟨rfl,nle,rfl⟩) ?_;refine s_gg (v1:=r_22) (b1:=true) (v2:=(r_3.1.Kind != 1)) (.bool (r_3.1.Max != 1)) rfl (fun hv hw => by (try simp only [gs_on hv,gs_on hw]);exact ⟨rfl,rfl,rfl⟩) ?_;refine s_gp (v1:=r_22) (b1:=true) (v2:=(r_3.1.Kind != 1)) (x:=true) (y:=(r_3.1.Max != 1)) rfl (fun hv => by (try simp only [gs_on hv]);rfl) (fun hv hw => by (try simp only [gs_on hv,gs_on hw]);rfl) (fun hv hw => by (try simp only [gs_on hv,gs_on hw]);rfl) ?_;refine s_g (v:=r_22) (.bool (bif (r_3.1.Kind != 1) then true else (r_3.1.Max != 1))) rfl (fun hv => by (try simp only [gs_on hv]);exact ⟨rfl,trivial,rfl⟩) ?_
     refine s_gg (v1:=r_22) (b1:=true) (v2:=(bif (r_3.1.Kind != 1) then true else (r_3.1.Max != 1))) (.ptr 0 0 2) rfl (fun hv hw => by (try simp only [gs_on hv,gs_on hw]);exact ⟨rfl,trivial,rfl⟩) ?_;refine s_gg (v1:=r_22) (b1:=true) (v2:=(bif (r_3.1.Kind != 1) then true else (r_3.1.Max != 1))) (.lst 3 (c_2.Value.map encGAtom)) rfl (fun hv hw => by (try simp only [gs_on hv,gs_on hw]);exact ⟨rfl,nle,rfl⟩) ?_;refine s_gg (v1:=r_22) (b1:=true) (v2:=(bif (r_3.1.Kind != 1) then true else (r_3.1.Max != 1))) (.int .i64 (c_2.Value.length:Int)) rfl (fun hv hw => by (try simp only [gs_on hv,gs_on hw]);exact ⟨rfl,trivial,lenV _ _⟩) ?_;refine s_gg (v1:=r_22) (b1:=true) (v2:=(bif (r_3.1.Kind != 1) then true else (r_3.1.Max != 1))) (.bool ((c_2.Value.length:Int) != 1)) rfl (fun hv hw => by (try simp only [gs_on hv,gs_on hw]);exact ⟨rfl,rfl,rfl⟩) ?_
     refine s_gp (v1:=r_22) (b1:=true) (v2:=(bif (r_3.1.Kind != 1) then true else (r_3.1.Max != 1))) (x:=true) (y:=((c_2.Value.length:Int) != 1)) rfl (fun hv => by (try simp only [gs_on hv]);rfl) (fun hv hw => by (try simp only [gs_on hv,gs_on hw]);rfl) (fun hv hw => by (try simp only [gs_on hv,gs_on hw]);rfl) ?_;refine s_pick (x:=(bif (bif (r_3.1.Kind != 1) then true else (r_3.1.Max != 1)) then true else ((c_2.Value.length:Int) != 1))) (y:=false) rfl (fun hv => by (try simp only [gs_on hv]);rfl) (fun hv => by (try simp only [gs_on hv]);rfl) ?_;refine s_mov (.bool (bif r_22 then (bif (bif (r_3.1.Kind != 1) then true else (r_3.1.Max != 1)) then true else ((c_2.Value.length:Int) != 1)) else false)) rfl ?_
     refine w_done ?_;obtain rfl:=os hb1;exact ⟨[],[],_,_,rfl,rfl,⟨.refl _,trivial⟩,(.refl _)⟩
    ·rcases oi hf with ⟨c25,hf⟩ | ⟨c25,hf⟩
     ·refine w_condt rfl c25<|sr<|s_mov (.int .i64 9) rfl<|dk<|w_ret<|?_;obtain rfl:=os hf;exact r_flat ⟨trivial,trivial⟩ rfl (.refl _)
     ·refine w_condf rfl (bf c25)<|w_skip<|k_blk<|k_seq<|sr<|s_mov (.int .i64 0) rfl<|dk<|w_ret<|?_;obtain rfl:=os hf;exact r_flat ⟨trivial,trivial⟩ rfl (.refl _)

/- impl.condsCode -/
def c94:ACode :=
 (.seq (.reg (tq 2 (.box 4 (.t 0)) (tm 4 (.c (.int .i64 0)) .done)))
 (.seq (.seq (.reg (tm 8 (.t 1) (tq 9 (.len (.t 8)) (tm 10 (.c (.int .i64 0)) .done))))
 (.block 0 (.loop (.seq (.reg (tq 11 (.bin .lss (.t 10) (.t 9)) .done))
 (.seq (.cond (.t 11) .skip
 (.exit 0))
 (.seq (.block 1 (.seq (.reg (tq 12 (.iaddr 3 (.t 8) (.t 10)) (tq 13 (.load 3 true (.t 12)) (tq 6 (.box 3 (.c (.agg [(.str []),(.int .i64 0),.nil]))) (.q ⟨none,none,.store 3 (.t 6) (.t 13)⟩
 .done)))))
 (.seq (.reg (tq 14 (.load 4 true (.t 2)) (tq 15 (.load 3 true (.t 6)) (tq 16 (.call 148 [(.t 14),(.t 15)]) (tm 7 (.t 16) .done)))))
 (.seq (.reg (tm 17 (.t 7) (tq 18 (.bin .neq (.t 17) (.c (.int .i64 0))) .done)))
 (.cond (.t 18) (.seq (.reg (tm 19 (.t 7) (tm 4 (.t 19) .done)))
 .ret)
 .skip)))))
 (.reg (tq 20 (.bin .add (.t 10) (.c (.int .i64 1))) (tm 10 (.t 20) .done)))))))))
 (.cut (.seq (.reg (tm 4 (.c (.int .i64 0)) .done))
 .ret))))
theorem fc94:fcomp Tryz.prog Tryz.f94 = some (c94.erase,[.mov (.t 4)],21):=by kernel_rfl
def impl_condsCode_L1 (t_1:GTable):List GCond → Option (Fl Int Unit)
  | [] =>
    some (.go ())
  | x_31 :: xs =>
    (impl_condCode t_1 x_31).bind fun r_32 =>
    if (r_32 != 0) then
    some (.ret r_32)
    else
    impl_condsCode_L1 t_1 xs 

def impl_condsCode (t_1:GTable) (list_2:(List GCond)):Option Int :=
    (impl_condsCode_L1 t_1 list_2 ).bind fun q => (match q with
    | .ret r => some r
    | .go _ =>
    some 0)
theorem w_impl_condsCode (t_1:GTable) (list_2:(List GCond)) (r:Int) (hf:impl_condsCode t_1 list_2 = some r):CallOK Tryz.prog 94 .flat [(encGTable t_1),(.lst 3 (list_2.map encGCond))] (.int .i64 r):=by
 refine CallOK.of_awp mixed Tryz.func94 fc94 nle ?_;rw [argT_eq];unfold impl_condsCode at hf;unfold c94;refine (show awp Tryz.prog false 0 _ (ofL [(0,(encGTable t_1)),(1,(.lst 3 (list_2.map encGCond)))]) [] _ from ?_);refine sr<|s_do (o_box (j:=0) (c:=(.agg [(.str t_1.Name),(.lst 8 (t_1.Columns.map encGColumn)),(.lst 1 (t_1.Unique.map encI)),(.bool t_1.Root)])) rfl trivial rfl rfl)<|s_mov (.int .i64 0) rfl<|dk<|awp_seq<|sr<|s_mov (.lst 3 (list_2.map encGCond)) rfl<|s_dof (o_len (enc:=encGCond) rfl) fun hl3 => s_mov (.int .i64 0) rfl<|dk<|?_
 obtain ⟨p24,hb1,hf⟩:=ob hf
 refine awp_cutx (X:={q:Unit // p24 = .go q}) (fun q => ([],[])) ?_ ?_
 ·refine awp_loop (X:={q:Nat // impl_condsCode_L1 t_1 (list_2.drop q)  = some p24}) (fun q => ([(2,(.ptr 0 0 0)),(8,(.lst 3 (list_2.map encGCond))),(9,(.int .i64 (list_2.length:Int))),(10,(.int .i64 (q.1:Int)))],[.box 4 (.agg [(.str t_1.Name),(.lst 8 (t_1.Columns.map encGColumn)),(.lst 1 (t_1.Unique.map encI)),(.bool t_1.Root)])])) (fun q => list_2.length - q.1) ⟨0,hb1⟩ ⟨[],[0],_,_,rfl,rfl,⟨.refl _,⟨.refl _,⟨.refl _,⟨.refl _,trivial⟩⟩⟩⟩,(.refl _)⟩ ?_
  rintro ⟨s10_17,hc1⟩
  have hc1:impl_condsCode_L1 t_1 (list_2.drop s10_17)  = some p24:=hc1
  refine (show awp Tryz.prog false 0 _ (ofL [(2,(.ptr 0 0 0)),(8,(.lst 3 (list_2.map encGCond))),(9,(.int .i64 (list_2.length:Int))),(10,(.int .i64 (s10_17:Int)))]) [.box 4 (.agg [(.str t_1.Name),(.lst 8 (t_1.Columns.map encGColumn)),(.lst 1 (t_1.Unique.map encI)),(.bool t_1.Root)])] _ from ?_)
  rcases dropc list_2 s10_17 with ⟨hie27,hd30⟩ | ⟨hlt25,x_31,hx26,hd30⟩
  ·rw [hd30,impl_condsCode_L1.eq_1] at hc1
   have hq29:=dlf hie27
   refine sr<|s_q (.bool (decide ((s10_17:Int) < (list_2.length:Int)))) rfl rfl rfl<|dk<|awp_seq<|w_condf rfl hq29<|w_exit<|k_seqx<|k_loopx<|k_blkx<|?_;obtain rfl:=os hc1;exact k_cutn ⟨_,rfl⟩ ⟨[],[],_,_,rfl,rfl,trivial,(.refl _)⟩
  ·rw [hd30,impl_condsCode_L1.eq_2] at hc1
   have hq29:=dlt hlt25
   refine sr<|s_q (.bool (decide ((s10_17:Int) < (list_2.length:Int)))) rfl rfl rfl<|dk<|awp_seq<|w_condt rfl hq29<|w_skip<|k_seq<|awp_seq<|w_blk<|sr<|s_do (o_iaddrn (enc:=encGCond) rfl rfl hx26)<|s_q (encGCond x_31) rfl nle rfl<|s_do (o_box (j:=1) (c:=(.agg [(.str []),(.int .i64 0),.nil])) rfl trivial rfl rfl)<|s_do0 (o_storebox (v:=(.agg [(.str x_31.Column),(.int .i64 x_31.Func),(.lst 3 (x_31.Value.map encGAtom))])) (y':=(.agg [(.str x_31.Column),(.int .i64 x_31.Func),(.lst 3 (x_31.Value.map encGAtom))])) rfl rfl rfl trivial ⟨rfl,nle⟩ ⟨⟨rfl,trivial⟩,⟨⟨rfl,trivial⟩,⟨⟨rfl,trivial⟩,trivial⟩⟩⟩ rfl)<|dk<|?_
   refine sr<|?_
   obtain ⟨r_32,er33,hc1⟩:=ob hc1
   refine s_q (.agg [(.str t_1.Name),(.lst 8 (t_1.Columns.map encGColumn)),(.lst 1 (t_1.Unique.map encI)),(.bool t_1.Root)]) rfl nle rfl<|s_q (.agg [(.str x_31.Column),(.int .i64 x_31.Func),(.lst 3 (x_31.Value.map encGAtom))]) rfl nle rfl<|s_do (o_call (w_impl_condCode _ _ _ er33) rfl (.refl _) rfl)<|s_mov (.int .i64 r_32) rfl<|dk<|sr<|s_mov (.int .i64 r_32) rfl<|s_q (.bool (r_32 != 0)) rfl rfl rfl<|dk<|?_
   rcases oi hc1 with ⟨c34,hc1⟩ | ⟨c34,hc1⟩
   ·refine w_condt rfl c34<|sr<|s_mov (.int .i64 r_32) rfl<|s_mov (.int .i64 r_32) rfl<|dk<|w_ret<|?_;obtain rfl:=os hc1;obtain rfl:=os hf;exact r_flat ⟨trivial,trivial⟩ rfl (.refl _)
   ·refine w_condf rfl (bf c34)<|w_skip<|k_blk<|k_seq<|w_reg<|s_q (.int .i64 (w64 ((s10_17:Int) + 1))) rfl rfl rfl<|s_mov (.int .i64 (w64 ((s10_17:Int) + 1))) rfl<|w_done<|?_;exact k_loopn ⟨(s10_17 + 1),hc1⟩ (mul hlt25) ⟨[],[0],_,_,rfl,rfl,⟨.refl _,⟨.refl _,⟨.refl _,⟨.of_eq (congrArg (AV.int _) (w64_incr hlt25 hl3)),trivial⟩⟩⟩⟩,(.refl _)⟩
 ·rintro ⟨_,rfl⟩
  refine sr<|s_mov (.int .i64 0) rfl<|dk<|w_ret<|?_;obtain rfl:=os hf;exact r_flat ⟨trivial,trivial⟩ rfl (.refl _)

/- impl.setsCode$1 -/
def c149:ACode :=
 (.seq (.reg (tq 2 (.box 3 (.t 0)) (tm 3 (.c (.bool false)) .done)))
 (.seq (.reg (tq 4 (.faddr 0 (.t 2)) (tq 5 (.load 1 false (.t 4)) (tq 6 (.faddr 0 (.t 1)) (tq 7 (.load 1 false (.t 6)) (tq 8 (.bin .eql (.t 5) (.t 7)) (tm 3 (.t 8) .done)))))))
 .ret))
theorem fc149:fcomp Tryz.prog Tryz.f149 = some (c149.erase,[.mov (.t 3)],9):=by kernel_rfl
def impl_setsCode_1 (own_1:GSet) (cap_2:GSet):Option Bool :=
    some (own_1.Column == cap_2.Column)
theorem w_impl_setsCode_1 (own_1:GSet) (cap_2:GSet) (r:Bool) (hf:impl_setsCode_1 own_1 cap_2 = some r):CallOK Tryz.prog 149 .flat [(encGSet own_1),(.iptr (encGSet cap_2) 0)] (.bool r):=by
  refine CallOK.of_awp mixed Tryz.func149 fc149 nle ?_
  rw [argT_eq]
  unfold impl_setsCode_1 at hf
  unfold c149
  refine (show awp Tryz.prog false 0 _ (ofL [(0,(encGSet own_1)),(1,(.iptr (encGSet cap_2) 0))]) [] _ from ?_)
  refine awp_seq ?_
  refine w_reg ?_
  refine s_do (o_box (j:=0) (c:=(.agg [(.str own_1.Column),(.lst 3 (own_1.Value.map encGAtom)),(.lst 1 (own_1.Names.map AV.str))])) rfl trivial rfl rfl) ?_
  refine s_do (o_mov (.bool false) rfl) ?_
  refine w_done ?_
  refine k_seq ?_
  refine awp_seq ?_
  refine w_reg ?_
  refine s_do (o_q (.ptr 0 0 0) rfl trivial rfl) ?_
  refine s_do (o_q (.str own_1.Column) rfl nle rfl) ?_
  refine s_do (o_q (.iptr (encGSet cap_2) 0) rfl trivial rfl) ?_
  refine s_do (o_q (.str cap_2.Column) rfl nle rfl) ?_
  refine s_do (o_q (.bool (own_1.Column == cap_2.Column)) rfl trivial rfl) ?_
  refine s_do (o_mov (.bool (own_1.Column == cap_2.Column)) rfl) ?_
  refine w_done ?_
  refine k_seq ?_
  refine w_ret ?_
  obtain rfl:=os hf
  exact r_flat ⟨trivial,trivial⟩ rfl (.refl _)

end Go.R
