/- Walks. -/
import Derived.Test.YtmeckljlaaflkaaGreatII1
set_option linter.all false
namespace Go.R
open Go Go.Proofs
set_option linter.unusedVariables false
set_option linter.unusedSimpArgs false
set_option maxHeartbeats 8000000
/- spec.l08Set -/
def c83:ACode :=
 (.seq (.reg (tq 1 (.box 3 (.t 0)) (tm 2 (.c (.bool false)) .done)))
 (.seq (.reg (tq 3 (.faddr 0 (.t 1)) (tq 4 (.load 1 false (.t 3)) (tq 5 (.lenS (.t 4)) (tq 6 (.bin .leq (.t 5) (.c (.int .i64 40))) (tm 7 (.t 6) (tg 8 7 true (.faddr 1 (.t 1)) (tg 9 7 true (.load 1 false (.t 8)) (tg 10 7 true (.call 164 [(.t 9)]) (tq 11 (.pick (.t 7) (.t 10) (.c (.bool false))) (tm 12 (.t 11) (tg 13 12 true (.faddr 2 (.t 1)) (tg 14 12 true (.load 1 false (.t 13)) (tg 15 12 true (.call 165 [(.t 14)]) (tq 16 (.pick (.t 12) (.t 15) (.c (.bool false))) (tm 17 (.t 16) (tg 18 17 true (.faddr 2 (.t 1)) (tg 19 17 true (.load 1 false (.t 18)) (tg 20 17 true (.len (.t 19)) (tg 21 17 true (.bin .eql (.t 20) (.c (.int .i64 0))) (tg 22 17 true (.mov (.t 21)) (tg 23 22 false (.faddr 1 (.t 1)) (tg 24 22 false (.load 1 false (.t 23)) (tg 25 22 false (.len (.t 24)) (tg 26 22 false (.bin .eql (.t 25) (.c (.int .i64 0))) (tg 27 17 true (.pick (.t 22) (.c (.bool true)) (.t 26)) (tq 28 (.pick (.t 17) (.t 27) (.c (.bool false))) (tm 2 (.t 28) .done))))))))))))))))))))))))))))
 .ret))
theorem fc83:fcomp Tryz.prog Tryz.f83 = some (c83.erase,[.mov (.t 2)],29):=by kernel_rfl
def spec_l08Set (x_1:GSet):Option Bool :=
    if (decide ((x_1.Column.length:Int) ≤ 40)) then
    (spec_DatumOK x_1.Value).bind fun r_4 =>
    if r_4 then
    (spec_l08Names x_1.Names).bind fun r_7 =>
    some (bif r_7 then (bif ((x_1.Names.length:Int) == 0) then true else ((x_1.Value.length:Int) == 0)) else false)
    else
    some false
    else
    some false
theorem w_spec_l08Set (x_1:GSet) (r:Bool) (hf:spec_l08Set x_1 = some r):CallOK Tryz.prog 83 .flat [(encGSet x_1)] (.bool r):=by
 refine CallOK.of_awp mixed Tryz.func83 fc83 nle ?_;rw [argT_eq];unfold spec_l08Set at hf;unfold c83;refine (show awp Tryz.prog false 0 _ (ofL [(0,(encGSet x_1))]) [] _ from ?_);refine sr<|s_do (o_box (j:=0) (c:=(.agg [(.str x_1.Column),(.lst 3 (x_1.Value.map encGAtom)),(.lst 1 (x_1.Names.map AV.str))])) rfl trivial rfl rfl)<|s_mov (.bool false) rfl<|dk<|sr<|s_q (.ptr 0 0 0) rfl trivial rfl<|s_q (.str x_1.Column) rfl nle rfl<|s_dof (o_lenS rfl) fun hl2 => s_q (.bool (decide ((x_1.Column.length:Int) ≤ 40))) rfl rfl rfl<|s_mov (.bool (decide ((x_1.Column.length:Int) ≤ 40))) rfl<|?_
 rcases oi hf with ⟨c3,hf⟩ | ⟨c3,hf⟩
 ·refine s_lit (s:=7) (b:=true) rfl c3<|s_on rfl<|s_q (.ptr 0 0 1) rfl trivial rfl<|s_on rfl<|s_q (.lst 3 (x_1.Value.map encGAtom)) rfl nle rfl<|s_on rfl<|?_
  obtain ⟨r_4,er5,hf⟩:=ob hf
  refine s_do (o_call (w_spec_DatumOK _ _ er5) rfl (.refl _) rfl)<|s_q (.bool r_4) rfl trivial rfl<|s_mov (.bool r_4) rfl<|?_
  rcases oi hf with ⟨c6,hf⟩ | ⟨c6,hf⟩
  ·refine s_lit (s:=12) (b:=true) rfl c6<|s_on rfl<|s_q (.ptr 0 0 2) rfl trivial rfl<|s_on rfl<|s_q (.lst 1 (x_1.Names.map AV.str)) rfl nle rfl<|s_on rfl<|?_
   obtain ⟨r_7,er8,hf⟩:=ob hf
   refine s_do (o_call (w_spec_l08Names _ _ er8) rfl (.refl _) rfl)<|s_q (.bool r_7) rfl trivial rfl<|s_mov (.bool r_7) rfl<|?_;refine s_g (v:=r_7) (.ptr 0 0 2) rfl (fun hv => by (try simp only [gs_on hv]);exact ⟨rfl,trivial,rfl⟩) ?_;refine s_g (v:=r_7) (.lst 1 (x_1.Names.map AV.str)) rfl (fun hv => by (try simp only [gs_on hv]);exact ⟨rfl,nle,rfl⟩) ?_;refine s_g (v:=r_7) (.int .i64 (x_1.Names.length:Int)) rfl (fun hv => by (try simp only [gs_on hv]);exact ⟨rfl,trivial,lenV _ _⟩) ?_;refine s_g (v:=r_7) (.bool ((x_1.Names.length:Int) == 0)) rfl (fun hv => by (try simp only [gs_on hv]);exact ⟨rfl,rfl,rfl⟩) ?_;refine s_g (v:=r_7) (.bool ((x_1.Names.length:Int) == 0)) rfl (fun hv => by (try simp only [gs_on hv]);exact ⟨rfl,trivial,rfl⟩) ?_
   refine s_gg (v1:=r_7) (b1:=true) (v2:=((x_1.Names.length:Int) == 0)) (.ptr 0 0 1) rfl (fun hv hw => by (try simp only [gs_on hv,gs_on hw]);exact ⟨rfl,trivial,rfl⟩) ?_;refine s_gg (v1:=r_7) (b1:=true) (v2:=((x_1.Names.length:Int) == 0)) (.lst 3 (x_1.Value.map encGAtom)) rfl (fun hv hw => by (try simp only [gs_on hv,gs_on hw]);exact ⟨rfl,nle,rfl⟩) ?_;refine s_gg (v1:=r_7) (b1:=true) (v2:=((x_1.Names.length:Int) == 0)) (.int .i64 (x_1.Value.length:Int)) rfl (fun hv hw => by (try simp only [gs_on hv,gs_on hw]);exact ⟨rfl,trivial,lenV _ _⟩) ?_;refine s_gg (v1:=r_7) (b1:=true) (v2:=((x_1.Names.length:Int) == 0)) (.bool ((x_1.Value.length:Int) == 0)) rfl (fun hv hw => by (try simp only [gs_on hv,gs_on hw]);exact ⟨rfl,rfl,rfl⟩) ?_
   refine s_gp (v1:=r_7) (b1:=true) (v2:=((x_1.Names.length:Int) == 0)) (x:=true) (y:=((x_1.Value.length:Int) == 0)) rfl (fun hv => by (try simp only [gs_on hv]);rfl) (fun hv hw => by (try simp only [gs_on hv,gs_on hw]);rfl) (fun hv hw => by (try simp only [gs_on hv,gs_on hw]);rfl) ?_;refine s_pick (x:=(bif ((x_1.Names.length:Int) == 0) then true else ((x_1.Value.length:Int) == 0))) (y:=false) rfl (fun hv => by (try simp only [gs_on hv]);rfl) (fun hv => by (try simp only [gs_on hv]);rfl) ?_;refine s_mov (.bool (bif r_7 then (bif ((x_1.Names.length:Int) == 0) then true else ((x_1.Value.length:Int) == 0)) else false)) rfl<|dk<|w_ret<|?_;obtain rfl:=os hf;exact r_flat ⟨trivial,trivial⟩ rfl (.refl _)
  ·refine s_lit (s:=12) (b:=false) rfl (bf c6)<|s_off rfl rfl<|s_off rfl rfl<|s_off rfl rfl<|s_q (.bool false) rfl trivial rfl<|s_mov (.bool false) rfl<|s_off rfl rfl<|s_off rfl rfl<|s_off rfl rfl<|s_off rfl rfl<|s_off rfl rfl<|s_offs rfl<|s_offs rfl<|s_offs rfl<|s_offs rfl<|s_off rfl rfl<|s_q (.bool false) rfl trivial rfl<|s_mov (.bool false) rfl<|dk<|w_ret<|?_;obtain rfl:=os hf;exact r_flat ⟨trivial,trivial⟩ rfl (.refl _)
 ·refine s_lit (s:=7) (b:=false) rfl (bf c3)<|s_off rfl rfl<|s_off rfl rfl<|s_off rfl rfl<|s_q (.bool false) rfl trivial rfl<|s_mov (.bool false) rfl<|s_off rfl rfl<|s_off rfl rfl<|s_off rfl rfl<|s_q (.bool false) rfl trivial rfl<|s_mov (.bool false) rfl<|s_off rfl rfl<|s_off rfl rfl<|s_off rfl rfl<|s_off rfl rfl<|s_off rfl rfl<|s_offs rfl<|s_offs rfl<|s_offs rfl<|s_offs rfl<|s_off rfl rfl<|s_q (.bool false) rfl trivial rfl<|s_mov (.bool false) rfl<|dk<|w_ret<|?_;obtain rfl:=os hf;exact r_flat ⟨trivial,trivial⟩ rfl (.refl _)

/- spec.OpOK -/
def c50:ACode :=
 (.seq (.reg (tq 1 (.box 8 (.t 0)) (tm 2 (.c (.bool false)) .done)))
 (.seq (.seq (.reg (tq 9 (.faddr 0 (.t 1)) (tq 10 (.load 1 false (.t 9)) (tq 11 (.call 66 [(.t 10),(.c (.int .i64 1)),(.c (.int .i64 10))]) (tq 12 (.not (.t 11)) (tm 13 (.t 12) (tg 14 13 false (.faddr 1 (.t 1)) (tg 15 13 false (.load 1 false (.t 14)) (tg 16 13 false (.lenS (.t 15)) (tg 17 13 false (.bin .gtr (.t 16) (.c (.int .i64 40))) (tq 18 (.pick (.t 13) (.c (.bool true)) (.t 17)) (tm 19 (.t 18) (tg 20 19 false (.faddr 2 (.t 1)) (tg 21 19 false (.load 1 false (.t 20)) (tg 22 19 false (.lenS (.t 21)) (tg 23 19 false (.bin .gtr (.t 22) (.c (.int .i64 40))) (tq 24 (.pick (.t 19) (.c (.bool true)) (.t 23)) (tm 25 (.t 24) (tg 26 25 false (.faddr 3 (.t 1)) (tg 27 25 false (.load 1 false (.t 26)) (tg 28 25 false (.call 129 [(.t 27)]) (tg 29 25 false (.not (.t 28)) (tq 30 (.pick (.t 25) (.c (.bool true)) (.t 29)) (tm 31 (.t 30) (tg 32 31 false (.faddr 5 (.t 1)) (tg 33 31 false (.load 1 false (.t 32)) (tg 34 31 false (.call 130 [(.t 33)]) (tg 35 31 false (.not (.t 34)) (tq 36 (.pick (.t 31) (.c (.bool true)) (.t 35)) (tm 37 (.t 36) (tg 38 37 false (.faddr 4 (.t 1)) (tg 39 37 false (.load 1 false (.t 38)) (tg 40 37 false (.len (.t 39)) (tg 41 37 false (.bin .gtr (.t 40) (.c (.int .i64 6))) (tq 42 (.pick (.t 37) (.c (.bool true)) (.t 41)) (tm 43 (.t 42) (tg 44 43 false (.faddr 6 (.t 1)) (tg 45 43 false (.load 1 false (.t 44)) (tg 46 43 false (.len (.t 45)) (tg 47 43 false (.bin .gtr (.t 46) (.c (.int .i64 6))) (tq 48 (.pick (.t 43) (.c (.bool true)) (.t 47)) .done)))))))))))))))))))))))))))))))))))))))))
 (.cut (.cond (.t 48) (.seq (.reg (tm 2 (.c (.bool false)) .done))
 .ret)
 .skip)))
 (.seq (.seq (.reg (tm 3 (.c (.int .i64 0)) .done))
 (.block 0 (.loop (.seq (.seq (.reg (tm 49 (.t 3) (tq 50 (.faddr 4 (.t 1)) (tq 51 (.load 1 false (.t 50)) (tq 52 (.len (.t 51)) (tq 53 (.bin .lss (.t 49) (.t 52)) .done))))))
 (.cond (.t 53) .skip
 (.exit 0)))
 (.seq (.block 1 (.seq (.reg (tq 56 (.faddr 4 (.t 1)) (tq 57 (.load 1 false (.t 56)) (tm 58 (.t 3) (tq 59 (.iaddr 3 (.t 57) (.t 58)) (tq 60 (.load 3 true (.t 59)) (tq 61 (.call 83 [(.t 60)]) (tq 62 (.not (.t 61)) .done))))))))
 (.cond (.t 62) (.seq (.reg (tm 2 (.c (.bool false)) .done))
 .ret)
 .skip)))
 (.reg (tm 54 (.t 3) (tq 55 (.bin .add (.t 54) (.c (.int .i64 1))) (tm 3 (.t 55) .done)))))))))
 (.cut (.seq (.seq (.reg (tm 4 (.c (.int .i64 0)) .done))
 (.block 2 (.loop (.seq (.seq (.reg (tm 63 (.t 4) (tq 64 (.faddr 6 (.t 1)) (tq 65 (.load 1 false (.t 64)) (tq 66 (.len (.t 65)) (tq 67 (.bin .lss (.t 63) (.t 66)) .done))))))
 (.cond (.t 67) .skip
 (.exit 2)))
 (.seq (.block 3 (.seq (.reg (tq 70 (.faddr 6 (.t 1)) (tq 71 (.load 1 false (.t 70)) (tm 72 (.t 4) (tq 73 (.iaddr 1 (.t 71) (.t 72)) (tq 74 (.load 1 false (.t 73)) (tq 75 (.lenS (.t 74)) (tq 76 (.bin .gtr (.t 75) (.c (.int .i64 40))) .done))))))))
 (.cond (.t 76) (.seq (.reg (tm 2 (.c (.bool false)) .done))
 .ret)
 .skip)))
 (.reg (tm 68 (.t 4) (tq 69 (.bin .add (.t 68) (.c (.int .i64 1))) (tm 4 (.t 69) .done)))))))))
 (.cut (.seq (.reg (tq 77 (.faddr 0 (.t 1)) (tq 78 (.load 1 false (.t 77)) (tq 79 (.call 66 [(.t 78),(.c (.int .i64 1)),(.c (.int .i64 6))]) (tm 5 (.t 79) .done)))))
 (.seq (.reg (tq 80 (.faddr 0 (.t 1)) (tq 81 (.load 1 false (.t 80)) (tq 82 (.call 66 [(.t 81),(.c (.int .i64 2)),(.c (.int .i64 6))]) (tm 6 (.t 82) .done)))))
 (.seq (.reg (tq 83 (.faddr 0 (.t 1)) (tq 84 (.load 1 false (.t 83)) (tq 85 (.bin .eql (.t 84) (.c (.int .i64 1))) (tm 86 (.t 85) (tg 87 86 false (.faddr 0 (.t 1)) (tg 88 86 false (.load 1 false (.t 87)) (tg 89 86 false (.bin .geq (.t 88) (.c (.int .i64 9))) (tq 90 (.pick (.t 86) (.c (.bool true)) (.t 89)) (tm 7 (.t 90) .done))))))))))
 (.cut (.seq (.reg (tq 91 (.faddr 0 (.t 1)) (tq 92 (.load 1 false (.t 91)) (tq 93 (.bin .eql (.t 92) (.c (.int .i64 1))) (tm 94 (.t 93) (tg 95 94 false (.faddr 0 (.t 1)) (tg 96 94 false (.load 1 false (.t 95)) (tg 97 94 false (.bin .eql (.t 96) (.c (.int .i64 3))) (tq 98 (.pick (.t 94) (.c (.bool true)) (.t 97)) (tm 99 (.t 98) (tg 100 99 false (.faddr 0 (.t 1)) (tg 101 99 false (.load 1 false (.t 100)) (tg 102 99 false (.bin .eql (.t 101) (.c (.int .i64 6))) (tq 103 (.pick (.t 99) (.c (.bool true)) (.t 102)) (tm 8 (.t 103) .done)))))))))))))))
 (.cut (.seq (.reg (tm 104 (.t 5) (tm 105 (.t 104) (tg 106 105 false (.faddr 1 (.t 1)) (tg 107 105 false (.load 1 false (.t 106)) (tg 108 105 false (.bin .eql (.t 107) (.c (.str []))) (tq 109 (.pick (.t 105) (.c (.bool true)) (.t 108)) (tm 110 (.t 109) (tg 111 110 true (.mov (.t 6)) (tg 112 110 true (.mov (.t 111)) (tg 113 112 false (.faddr 3 (.t 1)) (tg 114 112 false (.load 1 false (.t 113)) (tg 115 112 false (.len (.t 114)) (tg 116 112 false (.bin .eql (.t 115) (.c (.int .i64 0))) (tg 117 110 true (.pick (.t 112) (.c (.bool true)) (.t 116)) (tq 118 (.pick (.t 110) (.t 117) (.c (.bool false))) (tm 119 (.t 118) (tg 120 119 true (.mov (.t 7)) (tg 121 119 true (.mov (.t 120)) (tg 122 121 false (.faddr 2 (.t 1)) (tg 123 121 false (.load 1 false (.t 122)) (tg 124 121 false (.bin .eql (.t 123) (.c (.str []))) (tg 125 119 true (.pick (.t 121) (.c (.bool true)) (.t 124)) (tq 126 (.pick (.t 119) (.t 125) (.c (.bool false))) (tm 127 (.t 126) (tg 128 127 true (.mov (.t 8)) (tg 129 127 true (.mov (.t 128)) (tg 130 129 false (.faddr 4 (.t 1)) (tg 131 129 false (.load 1 false (.t 130)) (tg 132 129 false (.len (.t 131)) (tg 133 129 false (.bin .eql (.t 132) (.c (.int .i64 0))) (tg 134 127 true (.pick (.t 129) (.c (.bool true)) (.t 133)) (tq 135 (.pick (.t 127) (.t 134) (.c (.bool false))) (tm 136 (.t 135) (tg 137 136 true (.faddr 0 (.t 1)) (tg 138 136 true (.load 1 false (.t 137)) (tg 139 136 true (.bin .eql (.t 138) (.c (.int .i64 4))) (tg 140 136 true (.mov (.t 139)) (tg 141 140 false (.faddr 5 (.t 1)) (tg 142 140 false (.load 1 false (.t 141)) (tg 143 140 false (.len (.t 142)) (tg 144 140 false (.bin .eql (.t 143) (.c (.int .i64 0))) (tg 145 136 true (.pick (.t 140) (.c (.bool true)) (.t 144)) (tq 146 (.pick (.t 136) (.t 145) (.c (.bool false))) (tm 147 (.t 146) (tg 148 147 true (.faddr 0 (.t 1)) (tg 149 147 true (.load 1 false (.t 148)) (tg 150 147 true (.bin .eql (.t 149) (.c (.int .i64 2))) (tg 151 147 true (.mov (.t 150)) (tg 152 151 false (.faddr 6 (.t 1)) (tg 153 151 false (.load 1 false (.t 152)) (tg 154 151 false (.len (.t 153)) (tg 155 151 false (.bin .eql (.t 154) (.c (.int .i64 0))) (tg 156 147 true (.pick (.t 151) (.c (.bool true)) (.t 155)) (tq 157 (.pick (.t 147) (.t 156) (.c (.bool false))) (tm 158 (.t 157) (tg 159 158 true (.faddr 0 (.t 1)) (tg 160 158 true (.load 1 false (.t 159)) (tg 161 158 true (.bin .eql (.t 160) (.c (.int .i64 6))) (tg 162 158 true (.mov (.t 161)) (tg 163 162 false (.faddr 7 (.t 1)) (tg 164 162 false (.load 1 false (.t 163)) (tg 165 162 false (.not (.t 164)) (tg 166 158 true (.pick (.t 162) (.c (.bool true)) (.t 165)) (tq 167 (.pick (.t 158) (.t 166) (.c (.bool false))) (tm 2 (.t 167) .done))))))))))))))))))))))))))))))))))))))))))))))))))))))))))))))))))
 .ret)))))))))))))
theorem fc50:fcomp Tryz.prog Tryz.f50 = some (c50.erase,[.mov (.t 2)],168):=by kernel_rfl
def spec_OpOK_L1 :List GSet → Option (Fl Bool Unit)
  | [] =>
    some (.go ())
  | x_60 :: xs =>
    (spec_l08Set x_60).bind fun r_63 =>
    if (!r_63) then
    some (.ret false)
    else
    spec_OpOK_L1 xs 

def spec_OpOK_L2 :List Str → Option (Fl Bool Unit)
  | [] =>
    some (.go ())
  | x_94 :: xs =>
    if (decide ((x_94.length:Int) > 40)) then
    some (.ret false)
    else
    spec_OpOK_L2 xs 

def spec_OpOK (o_1:GOp):Option Bool :=
    (((spec_l01In o_1.Kind 1 10).bind fun r_16 =>
    if (bif (bif (!r_16) then true else (decide ((o_1.Table.length:Int) > 40))) then true else (decide ((o_1.Name.length:Int) > 40))) then
    some true
    else
    (spec_l06List o_1.Where).bind fun r_21 =>
    if (!r_21) then
    some true
    else
    (spec_l07List o_1.Muts).bind fun r_24 =>
    some (bif (bif (!r_24) then true else (decide ((o_1.Row.length:Int) > 6))) then true else (decide ((o_1.Columns.length:Int) > 6))):Option Bool)).bind fun s48_14 =>
    if s48_14 then
    some false
    else
    (spec_OpOK_L1 o_1.Row ).bind fun q => (match q with
    | .ret r => some r
    | .go _ =>
    (spec_OpOK_L2 o_1.Columns ).bind fun q => (match q with
    | .ret r => some r
    | .go _ =>
    (spec_l01In o_1.Kind 1 6).bind fun r_99 =>
    (spec_l01In o_1.Kind 2 6).bind fun r_101 =>
    ((if (o_1.Kind == 1) then
    some true
    else
    some (decide (o_1.Kind ≥ 9)):Option Bool)).bind fun name_104 =>
    ((some ():Option Unit)).bind fun _ =>
    some (bif (bif (bif (bif (bif (bif (bif r_99 then true else (o_1.Table == [])) then (bif r_101 then true else ((o_1.Where.length:Int) == 0)) else false) then (bif name_104 then true else (o_1.Name == [])) else false) then (bif (bif (bif (o_1.Kind == 1) then true else (o_1.Kind == 3)) then true else (o_1.Kind == 6)) then true else ((o_1.Row.length:Int) == 0)) else false) then (bif (o_1.Kind == 4) then true else ((o_1.Muts.length:Int) == 0)) else false) then (bif (o_1.Kind == 2) then true else ((o_1.Columns.length:Int) == 0)) else false) then (bif (o_1.Kind == 6) then true else (!o_1.Until)) else false)))
theorem w_spec_OpOK (o_1:GOp) (r:Bool) (hf:spec_OpOK o_1 = some r):CallOK Tryz.prog 50 .flat [(encGOp o_1)] (.bool r):=by
 refine CallOK.of_awp mixed Tryz.func50 fc50 nle ?_;rw [argT_eq];unfold spec_OpOK at hf;unfold c50;refine (show awp Tryz.prog false 0 _ (ofL [(0,(encGOp o_1))]) [] _ from ?_);refine sr<|s_do (o_box (j:=0) (c:=(.agg [(.int .i64 o_1.Kind),(.str o_1.Table),(.str o_1.Name),(.lst 3 (o_1.Where.map encGCond)),(.lst 3 (o_1.Row.map encGSet)),(.lst 3 (o_1.Muts.map encGMut)),(.lst 1 (o_1.Columns.map AV.str)),(.bool o_1.Until)])) rfl trivial rfl rfl)<|s_mov (.bool false) rfl<|dk<|awp_seq<|awp_seq<|?_
 obtain ⟨s48_14,hb1,hf⟩:=ob hf
 refine awp_cut ([(1,(.ptr 0 0 0)),(48,(.bool s48_14))],[.box 8 (.agg [(.int .i64 o_1.Kind),(.str o_1.Table),(.str o_1.Name),(.lst 3 (o_1.Where.map encGCond)),(.lst 3 (o_1.Row.map encGSet)),(.lst 3 (o_1.Muts.map encGMut)),(.lst 1 (o_1.Columns.map AV.str)),(.bool o_1.Until)])]) ?_ ?_
 ·refine w_reg<|s_q (.ptr 0 0 0) rfl trivial rfl<|s_q (.int .i64 o_1.Kind) rfl nle rfl<|?_
  obtain ⟨r_16,er17,hb1⟩:=ob hb1
  refine s_do (o_call (w_spec_l01In _ _ _ _ er17) rfl (.refl _) rfl)<|s_q (.bool (!r_16)) rfl trivial rfl<|s_mov (.bool (!r_16)) rfl<|?_;refine s_g (v:=(!r_16)) (.ptr 0 0 1) rfl (fun hv => by (try simp only [gs_on hv]);exact ⟨rfl,trivial,rfl⟩) ?_;refine s_g (v:=(!r_16)) (.str o_1.Table) rfl (fun hv => by (try simp only [gs_on hv]);exact ⟨rfl,nle,rfl⟩) ?_;refine s_g (v:=(!r_16)) (.int .i64 (o_1.Table.length:Int)) rfl (fun hv => by (try simp only [gs_on hv]);exact ⟨rfl,trivial,rfl⟩) ?_;refine s_g (v:=(!r_16)) (.bool (decide ((o_1.Table.length:Int) > 40))) rfl (fun hv => by (try simp only [gs_on hv]);exact ⟨rfl,rfl,rfl⟩) ?_;refine s_pick (x:=true) (y:=(decide ((o_1.Table.length:Int) > 40))) rfl (fun hv => by (try simp only [gs_on hv]);rfl) (fun hv => by (try simp only [gs_on hv]);rfl) ?_
  refine s_mov (.bool (bif (!r_16) then true else (decide ((o_1.Table.length:Int) > 40)))) rfl ?_;refine s_g (v:=(bif (!r_16) then true else (decide ((o_1.Table.length:Int) > 40)))) (.ptr 0 0 2) rfl (fun hv => by (try simp only [gs_on hv]);exact ⟨rfl,trivial,rfl⟩) ?_;refine s_g (v:=(bif (!r_16) then true else (decide ((o_1.Table.length:Int) > 40)))) (.str o_1.Name) rfl (fun hv => by (try simp only [gs_on hv]);exact ⟨rfl,nle,rfl⟩) ?_;refine s_g (v:=(bif (!r_16) then true else (decide ((o_1.Table.length:Int) > 40)))) (.int .i64 (o_1.Name.length:Int)) rfl (fun hv => by (try simp only [gs_on hv]);exact ⟨rfl,trivial,rfl⟩) ?_;refine s_g (v:=(bif (!r_16) then true else (decide ((o_1.Table.length:Int) > 40)))) (.bool (decide ((o_1.Name.length:Int) > 40))) rfl (fun hv => by (try simp only [gs_on hv]);exact ⟨rfl,rfl,rfl⟩) ?_
  refine s_pick (x:=true) (y:=(decide ((o_1.Name.length:Int) > 40))) rfl (fun hv => by (try simp only [gs_on hv]);rfl) (fun hv => by (try simp only [gs_on hv]);rfl) ?_;refine s_mov (.bool (bif (bif (!r_16) then true else (decide ((o_1.Table.length:Int) > 40))) then true else (decide ((o_1.Name.length:Int) > 40)))) rfl ?_
  rcases oi hb1 with ⟨c20,hb1⟩ | ⟨c20,hb1⟩
  ·refine s_lit (s:=25) (b:=true) rfl c20<|s_off rfl rfl<|s_off rfl rfl<|s_off rfl rfl<|s_off rfl rfl<|s_q (.bool true) rfl trivial rfl<|s_mov (.bool true) rfl<|s_off rfl rfl<|s_off rfl rfl<|s_off rfl rfl<|s_off rfl rfl<|s_q (.bool true) rfl trivial rfl<|s_mov (.bool true) rfl<|s_off rfl rfl<|s_off rfl rfl<|s_off rfl rfl<|s_off rfl rfl<|s_q (.bool true) rfl trivial rfl<|s_mov (.bool true) rfl<|s_off rfl rfl<|s_off rfl rfl<|s_off rfl rfl<|s_off rfl rfl<|s_q (.bool true) rfl trivial rfl<|w_done<|?_;obtain rfl:=os hb1;exact ⟨[],[0],_,_,rfl,rfl,⟨.refl _,⟨.refl _,trivial⟩⟩,(.refl _)⟩
  ·refine s_lit (s:=25) (b:=false) rfl (bf c20)<|s_on rfl<|s_q (.ptr 0 0 3) rfl trivial rfl<|s_on rfl<|s_q (.lst 3 (o_1.Where.map encGCond)) rfl nle rfl<|s_on rfl<|?_
   obtain ⟨r_21,er22,hb1⟩:=ob hb1
   refine s_do (o_call (w_spec_l06List _ _ er22) rfl (.refl _) rfl)<|s_on rfl<|s_q (.bool (!r_21)) rfl trivial rfl<|s_q (.bool (!r_21)) rfl trivial rfl<|s_mov (.bool (!r_21)) rfl<|?_
   rcases oi hb1 with ⟨c23,hb1⟩ | ⟨c23,hb1⟩
   ·refine s_lit (s:=31) (b:=true) rfl c23<|s_off rfl rfl<|s_off rfl rfl<|s_off rfl rfl<|s_off rfl rfl<|s_q (.bool true) rfl trivial rfl<|s_mov (.bool true) rfl<|s_off rfl rfl<|s_off rfl rfl<|s_off rfl rfl<|s_off rfl rfl<|s_q (.bool true) rfl trivial rfl<|s_mov (.bool true) rfl<|s_off rfl rfl<|s_off rfl rfl<|s_off rfl rfl<|s_off rfl rfl<|s_q (.bool true) rfl trivial rfl<|w_done<|?_;obtain rfl:=os hb1;exact ⟨[],[0],_,_,rfl,rfl,⟨.refl _,⟨.refl _,trivial⟩⟩,(.refl _)⟩
   ·refine s_lit (s:=31) (b:=false) rfl (bf c23)<|s_on rfl<|s_q (.ptr 0 0 5) rfl trivial rfl<|s_on rfl<|s_q (.lst 3 (o_1.Muts.map encGMut)) rfl nle rfl<|s_on rfl<|?_
    obtain ⟨r_24,er25,hb1⟩:=ob hb1
    refine s_do (o_call (w_spec_l07List _ _ er25) rfl (.refl _) rfl)<|s_on rfl<|s_q (.bool (!r_24)) rfl trivial rfl<|s_q (.bool (!r_24)) rfl trivial rfl<|s_mov (.bool (!r_24)) rfl<|?_;refine s_g (v:=(!r_24)) (.ptr 0 0 4) rfl (fun hv => by (try simp only [gs_on hv]);exact ⟨rfl,trivial,rfl⟩) ?_;refine s_g (v:=(!r_24)) (.lst 3 (o_1.Row.map encGSet)) rfl (fun hv => by (try simp only [gs_on hv]);exact ⟨rfl,nle,rfl⟩) ?_;refine s_g (v:=(!r_24)) (.int .i64 (o_1.Row.length:Int)) rfl (fun hv => by (try simp only [gs_on hv]);exact ⟨rfl,trivial,lenV _ _⟩) ?_;refine s_g (v:=(!r_24)) (.bool (decide ((o_1.Row.length:Int) > 6))) rfl (fun hv => by (try simp only [gs_on hv]);exact ⟨rfl,rfl,rfl⟩) ?_
    refine s_pick (x:=true) (y:=(decide ((o_1.Row.length:Int) > 6))) rfl (fun hv => by (try simp only [gs_on hv]);rfl) (fun hv => by (try simp only [gs_on hv]);rfl) ?_;refine s_mov (.bool (bif (!r_24) then true else (decide ((o_1.Row.length:Int) > 6)))) rfl ?_;refine s_g (v:=(bif (!r_24) then true else (decide ((o_1.Row.length:Int) > 6)))) (.ptr 0 0 6) rfl (fun hv => by (try simp only [gs_on hv]);exact ⟨rfl,trivial,rfl⟩) ?_;refine s_g (v:=(bif (!r_24) then true else (decide ((o_1.Row.length:Int) > 6)))) (.lst 1 (o_1.Columns.map AV.str)) rfl (fun hv => by (try simp only [gs_on hv]);exact ⟨rfl,nle,rfl⟩) ?_;refine s_g (v:=(bif (!r_24) then true else (decide ((o_1.Row.length:Int) > 6)))) (.int .i64 (o_1.Columns.length:Int)) rfl (fun hv => by (try simp only [gs_on hv]);exact ⟨rfl,trivial,lenV _ _⟩) ?_
    refine s_g (v:=(bif (!r_24) then true else (decide ((o_1.Row.length:Int) > 6)))) (.bool (decide ((o_1.Columns.length:Int) > 6))) rfl (fun hv => by (try simp only [gs_on hv]);exact ⟨rfl,rfl,rfl⟩) ?_;refine s_pick (x:=true) (y:=(decide ((o_1.Columns.length:Int) > 6))) rfl (fun hv => by (try simp only [gs_on hv]);rfl) (fun hv => by (try simp only [gs_on hv]);rfl) ?_;refine w_done ?_;obtain rfl:=os hb1;exact ⟨[],[0],_,_,rfl,rfl,⟨.refl _,⟨.refl _,trivial⟩⟩,(.refl _)⟩
 ·rcases oi hf with ⟨c28,hf⟩ | ⟨c28,hf⟩
  ·refine w_condt rfl c28<|sr<|s_mov (.bool false) rfl<|dk<|w_ret<|?_;obtain rfl:=os hf;exact r_flat ⟨trivial,trivial⟩ rfl (.refl _)
  ·refine w_condf rfl (bf c28)<|w_skip<|k_seq<|awp_seq<|sr<|s_mov (.int .i64 0) rfl<|dk<|?_
   obtain ⟨p53,hb1,hf⟩:=ob hf
   refine awp_cutx (X:={q:Unit // p53 = .go q}) (fun q => ([(1,(.ptr 0 0 0))],[.box 8 (.agg [(.int .i64 o_1.Kind),(.str o_1.Table),(.str o_1.Name),(.lst 3 (o_1.Where.map encGCond)),(.lst 3 (o_1.Row.map encGSet)),(.lst 3 (o_1.Muts.map encGMut)),(.lst 1 (o_1.Columns.map AV.str)),(.bool o_1.Until)])])) ?_ ?_
   ·refine awp_loop (X:={q:Nat // spec_OpOK_L1 (o_1.Row.drop q)  = some p53}) (fun q => ([(1,(.ptr 0 0 0)),(3,(.int .i64 (q.1:Int)))],[.box 8 (.agg [(.int .i64 o_1.Kind),(.str o_1.Table),(.str o_1.Name),(.lst 3 (o_1.Where.map encGCond)),(.lst 3 (o_1.Row.map encGSet)),(.lst 3 (o_1.Muts.map encGMut)),(.lst 1 (o_1.Columns.map AV.str)),(.bool o_1.Until)])])) (fun q => o_1.Row.length - q.1) ⟨0,hb1⟩ ⟨[],[0],_,_,rfl,rfl,⟨.refl _,⟨.refl _,trivial⟩⟩,(.refl _)⟩ ?_
    rintro ⟨i_44,hc1⟩
    have hc1:spec_OpOK_L1 (o_1.Row.drop i_44)  = some p53:=hc1
    refine (show awp Tryz.prog false 0 _ (ofL [(1,(.ptr 0 0 0)),(3,(.int .i64 (i_44:Int)))]) [.box 8 (.agg [(.int .i64 o_1.Kind),(.str o_1.Table),(.str o_1.Name),(.lst 3 (o_1.Where.map encGCond)),(.lst 3 (o_1.Row.map encGSet)),(.lst 3 (o_1.Muts.map encGMut)),(.lst 1 (o_1.Columns.map AV.str)),(.bool o_1.Until)])] _ from ?_)
    rcases dropc o_1.Row i_44 with ⟨hie56,hd59⟩ | ⟨hlt54,x_60,hx55,hd59⟩
    ·rw [hd59,spec_OpOK_L1.eq_1] at hc1
     have hq58:=dlf hie56
     refine awp_seq<|sr<|s_mov (.int .i64 (i_44:Int)) rfl<|s_q (.ptr 0 0 4) rfl trivial rfl<|s_q (.lst 3 (o_1.Row.map encGSet)) rfl nle rfl<|s_dof (o_len (enc:=encGSet) rfl) fun hl61 => s_q (.bool (decide ((i_44:Int) < (o_1.Row.length:Int)))) rfl rfl rfl<|dk<|w_condf rfl hq58<|w_exit<|k_seqx<|k_loopx<|k_blkx<|?_;obtain rfl:=os hc1;exact k_cutn ⟨_,rfl⟩ ⟨[],[0],_,_,rfl,rfl,⟨.refl _,trivial⟩,(.refl _)⟩
    ·rw [hd59,spec_OpOK_L1.eq_2] at hc1
     have hq58:=dlt hlt54
     refine awp_seq<|sr<|s_mov (.int .i64 (i_44:Int)) rfl<|s_q (.ptr 0 0 4) rfl trivial rfl<|s_q (.lst 3 (o_1.Row.map encGSet)) rfl nle rfl<|s_dof (o_len (enc:=encGSet) rfl) fun hl62 => s_q (.bool (decide ((i_44:Int) < (o_1.Row.length:Int)))) rfl rfl rfl<|dk<|w_condt rfl hq58<|w_skip<|k_seq<|awp_seq<|w_blk<|sr<|?_
     obtain ⟨r_63,er64,hc1⟩:=ob hc1
     refine s_q (.ptr 0 0 4) rfl trivial rfl<|s_q (.lst 3 (o_1.Row.map encGSet)) rfl nle rfl<|s_mov (.int .i64 (i_44:Int)) rfl<|s_do (o_iaddrn (enc:=encGSet) rfl rfl hx55)<|s_q (encGSet x_60) rfl nle rfl<|s_do (o_call (w_spec_l08Set _ _ er64) rfl (.refl _) rfl)<|s_q (.bool (!r_63)) rfl trivial rfl<|dk<|?_
     rcases oi hc1 with ⟨c65,hc1⟩ | ⟨c65,hc1⟩
     ·refine w_condt rfl c65<|sr<|s_mov (.bool false) rfl<|dk<|w_ret<|?_;obtain rfl:=os hc1;obtain rfl:=os hf;exact r_flat ⟨trivial,trivial⟩ rfl (.refl _)
     ·refine w_condf rfl (bf c65)<|w_skip<|k_blk<|k_seq<|w_reg<|s_mov (.int .i64 (i_44:Int)) rfl<|s_q (.int .i64 (w64 ((i_44:Int) + 1))) rfl rfl rfl<|s_mov (.int .i64 (w64 ((i_44:Int) + 1))) rfl<|w_done<|?_;exact k_loopn ⟨(i_44 + 1),hc1⟩ (mul hlt54) ⟨[],[0],_,_,rfl,rfl,⟨.refl _,⟨.of_eq (congrArg (AV.int _) (w64_incr hlt54 hl62)),trivial⟩⟩,(.refl _)⟩
   ·rintro ⟨_,rfl⟩
    refine awp_seq<|sr<|s_mov (.int .i64 0) rfl<|dk<|?_
    obtain ⟨p87,hb1,hf⟩:=ob hf
    refine awp_cutx (X:={q:Unit // p87 = .go q}) (fun q => ([(1,(.ptr 0 0 0))],[.box 8 (.agg [(.int .i64 o_1.Kind),(.str o_1.Table),(.str o_1.Name),(.lst 3 (o_1.Where.map encGCond)),(.lst 3 (o_1.Row.map encGSet)),(.lst 3 (o_1.Muts.map encGMut)),(.lst 1 (o_1.Columns.map AV.str)),(.bool o_1.Until)])])) ?_ ?_
    ·refine awp_loop (X:={q:Nat // spec_OpOK_L2 (o_1.Columns.drop q)  = some p87}) (fun q => ([(1,(.ptr 0 0 0)),(4,(.int .i64 (q.1:Int)))],[.box 8 (.agg [(.int .i64 o_1.Kind),(.str o_1.Table),(.str o_1.Name),(.lst 3 (o_1.Where.map encGCond)),(.lst 3 (o_1.Row.map encGSet)),(.lst 3 (o_1.Muts.map encGMut)),(.lst 1 (o_1.Columns.map AV.str)),(.bool o_1.Until)])])) (fun q => o_1.Columns.length - q.1) ⟨0,hb1⟩ ⟨[],[0],_,_,rfl,rfl,⟨.refl _,⟨.refl _,trivial⟩⟩,(.refl _)⟩ ?_
     rintro ⟨i_79,hc1⟩
     have hc1:spec_OpOK_L2 (o_1.Columns.drop i_79)  = some p87:=hc1
     refine (show awp Tryz.prog false 0 _ (ofL [(1,(.ptr 0 0 0)),(4,(.int .i64 (i_79:Int)))]) [.box 8 (.agg [(.int .i64 o_1.Kind),(.str o_1.Table),(.str o_1.Name),(.lst 3 (o_1.Where.map encGCond)),(.lst 3 (o_1.Row.map encGSet)),(.lst 3 (o_1.Muts.map encGMut)),(.lst 1 (o_1.Columns.map AV.str)),(.bool o_1.Until)])] _ from ?_)
     rcases dropc o_1.Columns i_79 with ⟨hie90,hd93⟩ | ⟨hlt88,x_94,hx89,hd93⟩
     ·rw [hd93,spec_OpOK_L2.eq_1] at hc1
      have hq92:=dlf hie90
      refine awp_seq<|sr<|s_mov (.int .i64 (i_79:Int)) rfl<|s_q (.ptr 0 0 6) rfl trivial rfl<|s_q (.lst 1 (o_1.Columns.map AV.str)) rfl nle rfl<|s_dof (o_len (enc:=AV.str) rfl) fun hl95 => s_q (.bool (decide ((i_79:Int) < (o_1.Columns.length:Int)))) rfl rfl rfl<|dk<|w_condf rfl hq92<|w_exit<|k_seqx<|k_loopx<|k_blkx<|?_;obtain rfl:=os hc1;exact k_cutn ⟨_,rfl⟩ ⟨[],[0],_,_,rfl,rfl,⟨.refl _,trivial⟩,(.refl _)⟩
     ·rw [hd93,spec_OpOK_L2.eq_2] at hc1
      have hq92:=dlt hlt88
      refine awp_seq<|sr<|s_mov (.int .i64 (i_79:Int)) rfl<|s_q (.ptr 0 0 6) rfl trivial rfl<|s_q (.lst 1 (o_1.Columns.map AV.str)) rfl nle rfl<|s_dof (o_len (enc:=AV.str) rfl) fun hl96 => s_q (.bool (decide ((i_79:Int) < (o_1.Columns.length:Int)))) rfl rfl rfl<|dk<|w_condt rfl hq92<|w_skip<|k_seq<|awp_seq<|w_blk<|sr<|s_q (.ptr 0 0 6) rfl trivial rfl<|s_q (.lst 1 (o_1.Columns.map AV.str)) rfl nle rfl<|s_mov (.int .i64 (i_79:Int)) rfl<|s_do (o_iaddrn (enc:=AV.str) rfl rfl hx89)<|s_q (.str x_94) rfl ⟨rfl,rfl⟩ rfl<|s_dof (o_lenS rfl) fun hl97 => s_q (.bool (decide ((x_94.length:Int) > 40))) rfl rfl rfl<|w_done<|?_
      refine k_seq ?_
      rcases oi hc1 with ⟨c98,hc1⟩ | ⟨c98,hc1⟩
      ·refine w_condt rfl c98<|sr<|s_mov (.bool false) rfl<|dk<|w_ret<|?_;obtain rfl:=os hc1;obtain rfl:=os hf;exact r_flat ⟨trivial,trivial⟩ rfl (.refl _)
      ·refine w_condf rfl (bf c98)<|w_skip<|k_blk<|k_seq<|w_reg<|s_mov (.int .i64 (i_79:Int)) rfl<|s_q (.int .i64 (w64 ((i_79:Int) + 1))) rfl rfl rfl<|s_mov (.int .i64 (w64 ((i_79:Int) + 1))) rfl<|w_done<|?_;exact k_loopn ⟨(i_79 + 1),hc1⟩ (mul hlt88) ⟨[],[0],_,_,rfl,rfl,⟨.refl _,⟨.of_eq (congrArg (AV.int _) (w64_incr hlt88 hl96)),trivial⟩⟩,(.refl _)⟩
    ·rintro ⟨_,rfl⟩
     refine sr<|?_
     obtain ⟨r_99,er100,hf⟩:=ob hf
     refine s_q (.ptr 0 0 0) rfl trivial rfl<|s_q (.int .i64 o_1.Kind) rfl nle rfl<|s_do (o_call (w_spec_l01In _ _ _ _ er100) rfl (.refl _) rfl)<|s_mov (.bool r_99) rfl<|dk<|sr<|?_
     obtain ⟨r_101,er102,hf⟩:=ob hf
     refine s_q (.ptr 0 0 0) rfl trivial rfl<|s_q (.int .i64 o_1.Kind) rfl nle rfl<|s_do (o_call (w_spec_l01In _ _ _ _ er102) rfl (.refl _) rfl)<|s_mov (.bool r_101) rfl<|dk<|awp_seq<|?_
     obtain ⟨name_104,hb1,hf⟩:=ob hf
     refine awp_cut ([(1,(.ptr 0 0 0)),(5,(.bool r_99)),(6,(.bool r_101)),(7,(.bool name_104))],[.box 8 (.agg [(.int .i64 o_1.Kind),(.str o_1.Table),(.str o_1.Name),(.lst 3 (o_1.Where.map encGCond)),(.lst 3 (o_1.Row.map encGSet)),(.lst 3 (o_1.Muts.map encGMut)),(.lst 1 (o_1.Columns.map AV.str)),(.bool o_1.Until)])]) ?_ ?_
     ·refine w_reg ?_
      rcases oi hb1 with ⟨c106,hb1⟩ | ⟨c106,hb1⟩
      ·refine s_q (.ptr 0 0 0) rfl trivial rfl<|s_q (.int .i64 o_1.Kind) rfl nle rfl<|s_q (.bool (o_1.Kind == 1)) rfl rfl rfl<|s_mov (.bool (o_1.Kind == 1)) rfl<|s_lit (s:=86) (b:=true) rfl c106<|s_off rfl rfl<|s_off rfl rfl<|s_off rfl rfl<|s_q (.bool true) rfl trivial rfl<|s_mov (.bool true) rfl<|w_done<|?_;obtain rfl:=os hb1;exact ⟨[],[0],_,_,rfl,rfl,⟨.refl _,⟨.refl _,⟨.refl _,⟨.refl _,trivial⟩⟩⟩⟩,(.refl _)⟩
      ·refine s_q (.ptr 0 0 0) rfl trivial rfl<|s_q (.int .i64 o_1.Kind) rfl nle rfl<|s_q (.bool (o_1.Kind == 1)) rfl rfl rfl<|s_mov (.bool (o_1.Kind == 1)) rfl<|s_lit (s:=86) (b:=false) rfl (bf c106)<|s_on rfl<|s_q (.ptr 0 0 0) rfl trivial rfl<|s_on rfl<|s_q (.int .i64 o_1.Kind) rfl nle rfl<|s_on rfl<|s_q (.bool (decide (o_1.Kind ≥ 9))) rfl rfl rfl<|s_q (.bool (decide (o_1.Kind ≥ 9))) rfl trivial rfl<|s_mov (.bool (decide (o_1.Kind ≥ 9))) rfl<|w_done<|?_;obtain rfl:=os hb1;exact ⟨[],[0],_,_,rfl,rfl,⟨.refl _,⟨.refl _,⟨.refl _,⟨.refl _,trivial⟩⟩⟩⟩,(.refl _)⟩
     ·refine awp_seq ?_
      obtain ⟨p107,hb1,hf⟩:=ob hf
      refine awp_cut ([(1,(.ptr 0 0 0)),(5,(.bool r_99)),(6,(.bool r_101)),(7,(.bool name_104)),(8,(.bool (bif (bif (o_1.Kind == 1) then true else (o_1.Kind == 3)) then true else (o_1.Kind == 6))))],[.box 8 (.agg [(.int .i64 o_1.Kind),(.str o_1.Table),(.str o_1.Name),(.lst 3 (o_1.Where.map encGCond)),(.lst 3 (o_1.Row.map encGSet)),(.lst 3 (o_1.Muts.map encGMut)),(.lst 1 (o_1.Columns.map AV.str)),(.bool o_1.Until)])]) ?_ ?_
      ·refine w_reg<|s_q (.ptr 0 0 0) rfl trivial rfl<|s_q (.int .i64 o_1.Kind) rfl nle rfl<|s_q (.bool (o_1.Kind == 1)) rfl rfl rfl<|s_mov (.bool (o_1.Kind == 1)) rfl<|?_;refine s_g (v:=(o_1.Kind == 1)) (.ptr 0 0 0) rfl (fun hv => by (try simp only [gs_on hv]);exact ⟨rfl,trivial,rfl⟩) ?_;refine s_g (v:=(o_1.Kind == 1)) (.int .i64 o_1.Kind) rfl (fun hv => by (try simp only [gs_on hv]);exact ⟨rfl,nle,rfl⟩) ?_;refine s_g (v:=(o_1.Kind == 1)) (.bool (o_1.Kind == 3)) rfl (fun hv => by (try simp only [gs_on hv]);exact ⟨rfl,rfl,rfl⟩) ?_;refine s_pick (x:=true) (y:=(o_1.Kind == 3)) rfl (fun hv => by (try simp only [gs_on hv]);rfl) (fun hv => by (try simp only [gs_on hv]);rfl) ?_;refine s_mov (.bool (bif (o_1.Kind == 1) then true else (o_1.Kind == 3))) rfl ?_
       refine s_g (v:=(bif (o_1.Kind == 1) then true else (o_1.Kind == 3))) (.ptr 0 0 0) rfl (fun hv => by (try simp only [gs_on hv]);exact ⟨rfl,trivial,rfl⟩) ?_;refine s_g (v:=(bif (o_1.Kind == 1) then true else (o_1.Kind == 3))) (.int .i64 o_1.Kind) rfl (fun hv => by (try simp only [gs_on hv]);exact ⟨rfl,nle,rfl⟩) ?_;refine s_g (v:=(bif (o_1.Kind == 1) then true else (o_1.Kind == 3))) (.bool (o_1.Kind == 6)) rfl (fun hv => by (try simp only [gs_on hv]);exact ⟨rfl,rfl,rfl⟩) ?_;refine s_pick (x:=true) (y:=(o_1.Kind == 6)) rfl (fun hv => by (try simp only [gs_on hv]);rfl) (fun hv => by (try simp only [gs_on hv]);rfl) ?_;refine s_mov (.bool (bif (bif (o_1.Kind == 1) then true else (o_1.Kind == 3)) then true else (o_1.Kind == 6))) rfl ?_
       refine w_done ?_;obtain rfl:=os hb1;exact ⟨[],[0],_,_,rfl,rfl,⟨.refl _,⟨.refl _,⟨.refl _,⟨.refl _,⟨.refl _,trivial⟩⟩⟩⟩⟩,(.refl _)⟩
      ·refine sr<|s_mov (.bool r_99) rfl<|s_mov (.bool r_99) rfl<|?_;refine s_g (v:=r_99) (.ptr 0 0 1) rfl (fun hv => by (try simp only [gs_on hv]);exact ⟨rfl,trivial,rfl⟩) ?_;refine s_g (v:=r_99) (.str o_1.Table) rfl (fun hv => by (try simp only [gs_on hv]);exact ⟨rfl,nle,rfl⟩) ?_;refine s_g (v:=r_99) (.bool (o_1.Table == [])) rfl (fun hv => by (try simp only [gs_on hv]);exact ⟨rfl,trivial,rfl⟩) ?_;refine s_pick (x:=true) (y:=(o_1.Table == [])) rfl (fun hv => by (try simp only [gs_on hv]);rfl) (fun hv => by (try simp only [gs_on hv]);rfl) ?_;refine s_mov (.bool (bif r_99 then true else (o_1.Table == []))) rfl ?_;refine s_g (v:=(bif r_99 then true else (o_1.Table == []))) (.bool r_101) rfl (fun hv => by (try simp only [gs_on hv]);exact ⟨rfl,trivial,rfl⟩) ?_
       refine s_g (v:=(bif r_99 then true else (o_1.Table == []))) (.bool r_101) rfl (fun hv => by (try simp only [gs_on hv]);exact ⟨rfl,trivial,rfl⟩) ?_;refine s_gg (v1:=(bif r_99 then true else (o_1.Table == []))) (b1:=true) (v2:=r_101) (.ptr 0 0 3) rfl (fun hv hw => by (try simp only [gs_on hv,gs_on hw]);exact ⟨rfl,trivial,rfl⟩) ?_;refine s_gg (v1:=(bif r_99 then true else (o_1.Table == []))) (b1:=true) (v2:=r_101) (.lst 3 (o_1.Where.map encGCond)) rfl (fun hv hw => by (try simp only [gs_on hv,gs_on hw]);exact ⟨rfl,nle,rfl⟩) ?_;refine s_gg (v1:=(bif r_99 then true else (o_1.Table == []))) (b1:=true) (v2:=r_101) (.int .i64 (o_1.Where.length:Int)) rfl (fun hv hw => by (try simp only [gs_on hv,gs_on hw]);exact ⟨rfl,trivial,lenV _ _⟩) ?_
       refine s_gg (v1:=(bif r_99 then true else (o_1.Table == []))) (b1:=true) (v2:=r_101) (.bool ((o_1.Where.length:Int) == 0)) rfl (fun hv hw => by (try simp only [gs_on hv,gs_on hw]);exact ⟨rfl,rfl,rfl⟩) ?_;refine s_gp (v1:=(bif r_99 then true else (o_1.Table == []))) (b1:=true) (v2:=r_101) (x:=true) (y:=((o_1.Where.length:Int) == 0)) rfl (fun hv => by (try simp only [gs_on hv]);rfl) (fun hv hw => by (try simp only [gs_on hv,gs_on hw]);rfl) (fun hv hw => by (try simp only [gs_on hv,gs_on hw]);rfl) ?_;refine s_pick (x:=(bif r_101 then true else ((o_1.Where.length:Int) == 0))) (y:=false) rfl (fun hv => by (try simp only [gs_on hv]);rfl) (fun hv => by (try simp only [gs_on hv]);rfl) ?_
       refine s_mov (.bool (bif (bif r_99 then true else (o_1.Table == [])) then (bif r_101 then true else ((o_1.Where.length:Int) == 0)) else false)) rfl ?_;refine s_g (v:=(bif (bif r_99 then true else (o_1.Table == [])) then (bif r_101 then true else ((o_1.Where.length:Int) == 0)) else false)) (.bool name_104) rfl (fun hv => by (try simp only [gs_on hv]);exact ⟨rfl,trivial,rfl⟩) ?_;refine s_g (v:=(bif (bif r_99 then true else (o_1.Table == [])) then (bif r_101 then true else ((o_1.Where.length:Int) == 0)) else false)) (.bool name_104) rfl (fun hv => by (try simp only [gs_on hv]);exact ⟨rfl,trivial,rfl⟩) ?_;refine s_gg (v1:=(bif (bif r_99 then true else (o_1.Table == [])) then (bif r_101 then true else ((o_1.Where.length:Int) == 0)) else false)) (b1:=true) (v2:=name_104) (.ptr 0 0 2) rfl (fun hv hw => by (try simp only [gs_on hv,gs_on hw]);exact ⟨rfl,trivial,rfl⟩) ?_
       refine s_gg (v1:=(bif (bif r_99 then true else (o_1.Table == [])) then (bif r_101 then true else ((o_1.Where.length:Int) == 0)) else false)) (b1:=true) (v2:=name_104) (.str o_1.Name) rfl (fun hv hw => by (try simp only [gs_on hv,gs_on hw]);exact ⟨rfl,nle,rfl⟩) ?_;refine s_gg (v1:=(bif (bif r_99 then true else (o_1.Table == [])) then (bif r_101 then true else ((o_1.Where.length:Int) == 0)) else false)) (b1:=true) (v2:=name_104) (.bool (o_1.Name == [])) rfl (fun hv hw => by (try simp only [gs_on hv,gs_on hw]);exact ⟨rfl,trivial,rfl⟩) ?_;refine s_gp (v1:=(bif (bif r_99 then true else (o_1.Table == [])) then (bif r_101 then true else ((o_1.Where.length:Int) == 0)) else false)) (b1:=true) (v2:=name_104) (x:=true) (y:=(o_1.Name == [])) rfl (fun hv => by (try simp only [gs_on hv]);rfl) (fun hv hw => by (try simp only [gs_on hv,gs_on hw]);rfl) (fun hv hw => by (try simp only [gs_on hv,gs_on hw]);rfl) ?_
       refine s_pick (x:=(bif name_104 then true else (o_1.Name == []))) (y:=false) rfl (fun hv => by (try simp only [gs_on hv]);rfl) (fun hv => by (try simp only [gs_on hv]);rfl) ?_;refine s_mov (.bool (bif (bif (bif r_99 then true else (o_1.Table == [])) then (bif r_101 then true else ((o_1.Where.length:Int) == 0)) else false) then (bif name_104 then true else (o_1.Name == [])) else false)) rfl ?_;refine s_g (v:=(bif (bif (bif r_99 then true else (o_1.Table == [])) then (bif r_101 then true else ((o_1.Where.length:Int) == 0)) else false) then (bif name_104 then true else (o_1.Name == [])) else false)) (.bool (bif (bif (o_1.Kind == 1) then true else (o_1.Kind == 3)) then true else (o_1.Kind == 6))) rfl (fun hv => by (try simp only [gs_on hv]);exact ⟨rfl,trivial,rfl⟩) ?_
       refine s_g (v:=(bif (bif (bif r_99 then true else (o_1.Table == [])) then (bif r_101 then true else ((o_1.Where.length:Int) == 0)) else false) then (bif name_104 then true else (o_1.Name == [])) else false)) (.bool (bif (bif (o_1.Kind == 1) then true else (o_1.Kind == 3)) then true else (o_1.Kind == 6))) rfl (fun hv => by (try simp only [gs_on hv]);exact ⟨rfl,trivial,rfl⟩) ?_;refine s_gg (v1:=(bif (bif (bif r_99 then true else (o_1.Table == [])) then (bif r_101 then true else ((o_1.Where.length:Int) == 0)) else false) then (bif name_104 then true else (o_1.Name == [])) else false)) (b1:=true) (v2:=(bif (bif (o_1.Kind == 1) then true else (o_1.Kind == 3)) then true else (o_1.Kind == 6))) (.ptr 0 0 4) rfl (fun hv hw => by (try simp only [gs_on hv,gs_on hw]);exact ⟨rfl,trivial,rfl⟩) ?_
       refine s_gg (v1:=(bif (bif (bif r_99 then true else (o_1.Table == [])) then (bif r_101 then true else ((o_1.Where.length:Int) == 0)) else false) then (bif name_104 then true else (o_1.Name == [])) else false)) (b1:=true) (v2:=(bif (bif (o_1.Kind == 1) then true else (o_1.Kind == 3)) then true else (o_1.Kind == 6))) (.lst 3 (o_1.Row.map encGSet)) rfl (fun hv hw => by (try simp only [gs_on hv,gs_on hw]);exact ⟨rfl,nle,rfl⟩) ?_;refine s_gg (v1:=(bif (bif (bif r_99 then true else (o_1.Table == [])) then (bif r_101 then true else ((o_1.Where.length:Int) == 0)) else false) then (bif name_104 then true else (o_1.Name == [])) else false)) (b1:=true) (v2:=(bif (bif (o_1.Kind == 1) then true else (o_1.Kind == 3)) then true else (o_1.Kind == 6))) (.int .i64 (o_1.Row.length:Int)) rfl (fun hv hw => by (try simp only [gs_on hv,gs_on hw]);exact ⟨rfl,trivial,lenV _ _⟩) ?_
       refine s_gg (v1:=(bif (bif (bif r_99 then true else (o_1.Table == [])) then (bif r_101 then true else ((o_1.Where.length:Int) == 0)) else false) then (bif name_104 then true else (o_1.Name == [])) else false)) (b1:=true) (v2:=(bif (bif (o_1.Kind == 1) then true else (o_1.Kind == 3)) then true else (o_1.Kind == 6))) (.bool ((o_1.Row.length:Int) == 0)) rfl (fun hv hw => by (try simp only [gs_on hv,gs_on hw]);exact ⟨rfl,rfl,rfl⟩) ?_;refine s_gp (v1:=(bif (bif (bif r_99 then true else (o_1.Table == [])) then (bif r_101 then true else ((o_1.Where.length:Int) == 0)) else false) then (bif name_104 then true else (o_1.Name == [])) else false)) (b1:=true) (v2:=(bif (bif (o_1.Kind == 1) then true else (o_1.Kind == 3)) then true else (o_1.Kind == 6))) (x:=true) (y:=((o_1.Row.length:Int) == 0)) rfl (fun hv => by (try simp only [gs_on hv]);rfl) (fun hv hw => by (try simp only [gs_on hv,gs_on hw]);rfl) (fun hv hw => by (try simp only [gs_on hv,gs_on hw]);rfl) ?_
       refine s_pick (x:=(bif (bif (bif (o_1.Kind == 1) then true else (o_1.Kind == 3)) then true else (o_1.Kind == 6)) then true else ((o_1.Row.length:Int) == 0))) (y:=false) rfl (fun hv => by (try simp only [gs_on hv]);rfl) (fun hv => by (try simp only [gs_on hv]);rfl) ?_;refine s_mov (.bool (bif (bif (bif (bif r_99 then true else (o_1.Table == [])) then (bif r_101 then true else ((o_1.Where.length:Int) == 0)) else false) then (bif name_104 then true else (o_1.Name == [])) else false) then (bif (bif (bif (o_1.Kind == 1) then true else (o_1.Kind == 3)) then true else (o_1.Kind == 6)) then true else ((o_1.Row.length:Int) == 0)) else false)) rfl ?_;refine s_g (v:=(bif (bif (bif (bif r_99 then true else (o_1.Table == [])) then (bif r_101 then true else ((o_1.Where.length:Int) == 0)) else false) then (bif name_104 then true else (o_1.Name == [])) else false) then (bif (bif (bif (o_1.Kind == 1) then true else (o_1.Kind == 3)) then true else (o_1.Kind == 6)) then true else ((o_1.Row.length:Int) == 0)) else false)) (.ptr 0 0 0) rfl (fun hv => by (try simp only [gs_on hv]);exact ⟨rfl,trivial,rfl⟩) ?_
       refine s_g (v:=(bif (bif (bif (bif r_99 then true else (o_1.Table == [])) then (bif r_101 then true else ((o_1.Where.length:Int) == 0)) else false) then (bif name_104 then true else (o_1.Name == [])) else false) then (bif (bif (bif (o_1.Kind == 1) then true else (o_1.Kind == 3)) then true else (o_1.Kind == 6)) then true else ((o_1.Row.length:Int) == 0)) else false)) (.int .i64 o_1.Kind) rfl (fun hv => by (try simp only [gs_on hv]);exact ⟨rfl,nle,rfl⟩) ?_;refine s_g (v:=(bif (bif (bif (bif r_99 then true else (o_1.Table == [])) then (bif r_101 then true else ((o_1.Where.length:Int) == 0)) else false) then (bif name_104 then true else (o_1.Name == [])) else false) then (bif (bif (bif (o_1.Kind == 1) then true else (o_1.Kind == 3)) then true else (o_1.Kind == 6)) then true else ((o_1.Row.length:Int) == 0)) else false)) (.bool (o_1.Kind == 4)) rfl (fun hv => by (try simp only [gs_on hv]);exact ⟨rfl,rfl,rfl⟩) ?_
       refine s_g (v:=(bif (bif (bif (bif r_99 then true else (o_1.Table == [])) then (bif r_101 then true else ((o_1.Where.length:Int) == 0)) else false) then (bif name_104 then true else (o_1.Name == [])) else false) then (bif (bif (bif (o_1.Kind == 1) then true else (o_1.Kind == 3)) then true else (o_1.Kind == 6)) then true else ((o_1.Row.length:Int) == 0)) else false)) (.bool (o_1.Kind == 4)) rfl (fun hv => by (try simp only [gs_on hv]);exact ⟨rfl,trivial,rfl⟩) ?_;refine s_gg (v1:=(bif (bif (bif (bif r_99 then true else (o_1.Table == [])) then (bif r_101 then true else ((o_1.Where.length:Int) == 0)) else false) then (bif name_104 then true else (o_1.Name == [])) else false) then (bif (bif (bif (o_1.Kind == 1) then true else (o_1.Kind == 3)) then true else (o_1.Kind == 6)) then true else ((o_1.Row.length:Int) == 0)) else false)) (b1:=true) (v2:=(o_1.Kind == 4)) (.ptr 0 0 5) rfl (fun hv hw => by (try simp only [gs_on hv,gs_on hw]);exact ⟨rfl,trivial,rfl⟩) ?_
       refine s_gg (v1:=(bif (bif (bif (bif r_99 then true else (o_1.Table == [])) then (bif r_101 then true else ((o_1.Where.length:Int) == 0)) else false) then (bif name_104 then true else (o_1.Name == [])) else false) then (bif (bif (bif (o_1.Kind == 1) then true else (o_1.Kind == 3)) then true else (o_1.Kind == 6)) then true else ((o_1.Row.length:Int) == 0)) else false)) (b1:=true) (v2:=(o_1.Kind == 4)) (.lst 3 (o_1.Muts.map encGMut)) rfl (fun hv hw => by (try simp only [gs_on hv,gs_on hw]);exact ⟨rfl,nle,rfl⟩) ?_;refine s_gg (v1:=(bif (bif (bif (bif r_99 then true else (o_1.Table == [])) then (bif r_101 then true else ((o_1.Where.length:Int) == 0)) else false) then (bif name_104 then true else (o_1.Name == [])) else false) then (bif (bif (bif (o_1.Kind == 1) then true else (o_1.Kind == 3)) then true else (o_1.Kind == 6)) then true else ((o_1.Row.length:Int) == 0)) else false)) (b1:=true) (v2:=(o_1.Kind == 4)) (.int .i64 (o_1.Muts.length:Int)) rfl (fun hv hw => by (try simp only [gs_on hv,gs_on hw]);exact ⟨rfl,trivial,lenV _ _⟩) ?_
       refine s_gg (v1:=(bif (bif (bif (bif r_99 then true else (o_1.Table == [])) then (bif r_101 then true else ((o_1.Where.length:Int) == 0)) else false) then (bif name_104 then true else (o_1.Name == [])) else false) then (bif (bif (bif (o_1.Kind == 1) then true else (o_1.Kind == 3)) then true else (o_1.Kind == 6)) then true else ((o_1.Row.length:Int) == 0)) else false)) (b1:=true) (v2:=(o_1.Kind == 4)) (.bool ((o_1.Muts.length:Int) == 0)) rfl (fun hv hw => by (try simp only [gs_on hv,gs_on hw]);exact ⟨rfl,rfl,rfl⟩) ?_;refine s_gp (v1:=(bif (bif (bif (bif r_99 then true else (o_1.Table == [])) then (bif r_101 then true else ((o_1.Where.length:Int) == 0)) else false) then (bif name_104 then true else (o_1.Name == [])) else false) then (bif (bif (bif (o_1.Kind == 1) then true else (o_1.Kind == 3)) then true else (o_1.Kind == 6)) then true else ((o_1.Row.length:Int) == 0)) else false)) (b1:=true) (v2:=(o_1.Kind == 4)) (x:=true) (y:=((o_1.Muts.length:Int) == 0)) rfl (fun hv => by (try simp only [gs_on hv]);rfl) (fun hv hw => by (try simp only [gs_on hv,gs_on hw]);rfl) (fun hv hw => by (try simp only [gs_on hv,gs_on hw]);rfl) ?_
       refine s_pick (x:=(bif (o_1.Kind == 4) then true else ((o_1.Muts.length:Int) == 0))) (y:=false) rfl (fun hv => by (try simp only [gs_on hv]);rfl) (fun hv => by (try simp only [gs_on hv]);rfl) ?_;refine s_mov (.bool (bif (bif (bif (bif (bif r_99 then true else (o_1.Table == [])) then (bif r_101 then true else ((o_1.Where.length:Int) == 0)) else false) then (bif name_104 then true else (o_1.Name == [])) else false) then (bif (bif (bif (o_1.Kind == 1) then true else (o_1.Kind == 3)) then true else (o_1.Kind == 6)) then true else ((o_1.Row.length:Int) == 0)) else false) then (bif (o_1.Kind == 4) then true else ((o_1.Muts.length:Int) == 0)) else false)) rfl ?_;refine s_g (v:=(bif (bif (bif (bif (bif r_99 then true else (o_1.Table == [])) then (bif r_101 then true else ((o_1.Where.length:Int) == 0)) else false) then (bif name_104 then true else (o_1.Name == [])) else false) then (bif (bif (bif (o_1.Kind == 1) then true else (o_1.Kind == 3)) then true else (o_1.Kind == 6)) then true else ((o_1.Row.length:Int) == 0)) else false) then (bif (o_1.Kind == 4) then true else ((o_1.Muts.length:Int) == 0)) else false)) (.ptr 0 0 0) rfl (fun hv => by (try simp only [gs_on hv]);exact ⟨rfl,trivial,rfl⟩) ?_
       refine s_g (v:=(bif (bif (bif (bif (bif r_99 then true else (o_1.Table == [])) then (bif r_101 then true else ((o_1.Where.length:Int) == 0)) else false) then (bif name_104 then true else (o_1.Name == [])) else false) then (bif (bif (bif (o_1.Kind == 1) then true else (o_1.Kind == 3)) then true else (o_1.Kind == 6)) then true else ((o_1.Row.length:Int) == 0)) else false) then (bif (o_1.Kind == 4) then true else ((o_1.Muts.length:Int) == 0)) else false)) (.int .i64 o_1.Kind) rfl (fun hv => by (try simp only [gs_on hv]);exact ⟨rfl,nle,rfl⟩) ?_;refine s_g (v:=(bif (bif (bif (bif (bif r_99 then true else (o_1.Table == [])) then (bif r_101 then true else ((o_1.Where.length:Int) == 0)) else false) then (bif name_104 then true else (o_1.Name == [])) else false) then (bif (bif (bif (o_1.Kind == 1) then true else (o_1.Kind == 3)) then true else (o_1.Kind == 6)) then true else ((o_1.Row.length:Int) == 0)) else false) then (bif (o_1.Kind == 4) then true else ((o_1.Muts.length:Int) == 0)) else false)) (.bool (o_1.Kind == 2)) rfl (fun hv => by (try simp only [gs_on hv]);exact ⟨rfl,rfl,rfl⟩) ?_
       refine s_g (v:=(bif (bif (bif (bif (bif r_99 then true else (o_1.Table == [])) then (bif r_101 then true else ((o_1.Where.length:Int) == 0)) else false) then (bif name_104 then true else (o_1.Name == [])) else false) then (bif (bif (bif (o_1.Kind == 1) then true else (o_1.Kind == 3)) then true else (o_1.Kind == 6)) then true else ((o_1.Row.length:Int) == 0)) else false) then (bif (o_1.Kind == 4) then true else ((o_1.Muts.length:Int) == 0)) else false)) (.bool (o_1.Kind == 2)) rfl (fun hv => by (try simp only [gs_on hv]);exact ⟨rfl,trivial,rfl⟩) ?_;refine s_gg (v1:=(bif (bif (bif (bif (bif r_99 then true else (o_1.Table == [])) then (bif r_101 then true else ((o_1.Where.length:Int) == 0)) else false) then (bif name_104 then true else (o_1.Name == [])) else false) then (bif (bif (bif (o_1.Kind == 1) then true else (o_1.Kind == 3)) then true else (o_1.Kind == 6)) then true else ((o_1.Row.length:Int) == 0)) else false) then (bif (o_1.Kind == 4) then true else ((o_1.Muts.length:Int) == 0)) else false)) (b1:=true) (v2:=(o_1.Kind == 2)) (.ptr 0 0 6) rfl (fun hv hw => by (try simp only [gs_on hv,gs_on hw]);exact ⟨rfl,trivial,rfl⟩) ?_
       refine s_gg (v1:=(bif (bif (bif (bif (bif r_99 then true else (o_1.Table == [])) then (bif r_101 then true else ((o_1.Where.length:Int) == 0)) else false) then (bif name_104 then true else (o_1.Name == [])) else false) then (bif (bif (bif (o_1.Kind == 1) then true else (o_1.Kind == 3)) then true else (o_1.Kind == 6)) then true else ((o_1.Row.length:Int) == 0)) else false) then (bif (o_1.Kind == 4) then true else ((o_1.Muts.length:Int) == 0)) else false)) (b1:=true) (v2:=(o_1.Kind == 2)) (.lst 1 (o_1.Columns.map AV.str)) rfl (fun hv hw => by (try simp only [gs_on hv,gs_on hw]);exact ⟨rfl,nle,rfl⟩) ?_;refine s_gg (v1:=(bif (bif (bif (bif (bif r_99 then true else (o_1.Table == [])) then (bif r_101 then true else ((o_1.Where.length:Int) == 0)) else false) then (bif name_104 then true else (o_1.Name == [])) else false) then (bif (bif (bif (o_1.Kind == 1) then true else (o_1.Kind == 3)) then true else (o_1.Kind == 6)) then true else ((o_1.Row.length:Int) == 0)) else false) then (bif (o_1.Kind == 4) then true else ((o_1.Muts.length:Int) == 0)) else false)) (b1:=true) (v2:=(o_1.Kind == 2)) (.int .i64 (o_1.Columns.length:Int)) rfl (fun hv hw => by (try simp only [gs_on hv,gs_on hw]);exact ⟨rfl,trivial,lenV _ _⟩) ?_
       refine s_gg (v1:=(bif (bif (bif (bif (bif r_99 then true else (o_1.Table == [])) then (bif r_101 then true else ((o_1.Where.length:Int) == 0)) else false) then (bif name_104 then true else (o_1.Name == [])) else false) then (bif (bif (bif (o_1.Kind == 1) then true else (o_1.Kind == 3)) then true else (o_1.Kind == 6)) then true else ((o_1.Row.length:Int) == 0)) else false) then (bif (o_1.Kind == 4) then true else ((o_1.Muts.length:Int) == 0)) else false)) (b1:=true) (v2:=(o_1.Kind == 2)) (.bool ((o_1.Columns.length:Int) == 0)) rfl (fun hv hw => by (try simp only [gs_on hv,gs_on hw]);exact ⟨rfl,rfl,rfl⟩) ?_;refine s_gp (v1:=(bif (bif (bif (bif (bif r_99 then true else (o_1.Table == [])) then (bif r_101 then true else ((o_1.Where.length:Int) == 0)) else false) then (bif name_104 then true else (o_1.Name == [])) else false) then (bif (bif (bif (o_1.Kind == 1) then true else (o_1.Kind == 3)) then true else (o_1.Kind == 6)) then true else ((o_1.Row.length:Int) == 0)) else false) then (bif (o_1.Kind == 4) then true else ((o_1.Muts.length:Int) == 0)) else false)) (b1:=true) (v2:=(o_1.Kind == 2)) (x:=true) (y:=((o_1.Columns.length:Int) == 0)) rfl (fun hv => by (try simp only [gs_on hv]);rfl) (fun hv hw => by (try simp only [gs_on hv,gs_on hw]);rfl) (fun hv hw => by (try simp only [gs_on hv,gs_on hw]);rfl) ?_
       refine s_pick (x:=(bif (o_1.Kind == 2) then true else ((o_1.Columns.length:Int) == 0))) (y:=false) rfl (fun hv => by (try simp only [gs_on hv]);rfl) (fun hv => by (try simp only [gs_on hv]);rfl) ?_;refine s_mov (.bool (bif (bif (bif (bif (bif (bif r_99 then true else (o_1.Table == [])) then (bif r_101 then true else ((o_1.Where.length:Int) == 0)) else false) then (bif name_104 then true else (o_1.Name == [])) else false) then (bif (bif (bif (o_1.Kind == 1) then true else (o_1.Kind == 3)) then true else (o_1.Kind == 6)) then true else ((o_1.Row.length:Int) == 0)) else false) then (bif (o_1.Kind == 4) then true else ((o_1.Muts.length:Int) == 0)) else false) then (bif (o_1.Kind == 2) then true else ((o_1.Columns.length:Int) == 0)) else false)) rfl ?_
       refine s_g (v:=(bif (bif (bif (bif (bif (bif r_99 then true else (o_1.Table == [])) then (bif r_101 then true else ((o_1.Where.length:Int) == 0)) else false) then (bif name_104 then true else (o_1.Name == [])) else false) then (bif (bif (bif (o_1.Kind == 1) then true else (o_1.Kind == 3)) then true else (o_1.Kind == 6)) then true else ((o_1.Row.length:Int) == 0)) else false) then (bif (o_1.Kind == 4) then true else ((o_1.Muts.length:Int) == 0)) else false) then (bif (o_1.Kind == 2) then true else ((o_1.Columns.length:Int) == 0)) else false)) (.ptr 0 0 0) rfl (fun hv => by (try simp only [gs_on hv]);exact ⟨rfl,trivial,rfl⟩) ?_;refine s_g (v:=(bif (bif (bif (bif (bif (bif r_99 then true else (o_1.Table == [])) then (bif r_101 then true else ((o_1.Where.length:Int) == 0)) else false) then (bif name_104 then true else (o_1.Name == [])) else false) then (bif (bif (bif (o_1.Kind == 1) then true else (o_1.Kind == 3)) then true else (o_1.Kind == 6)) then true else ((o_1.Row.length:Int) == 0)) else false) then (bif (o_1.Kind == 4) then true else ((o_1.Muts.length:Int) == 0)) else false) then (bif (o_1.Kind == 2) then true else ((o_1.Columns.length:Int) == 0)) else false)) (.int .i64 o_1.Kind) rfl (fun hv => by (try simp only [gs_on hv]);exact ⟨rfl,nle,rfl⟩) ?_
       refine s_g (v:=(bif (bif (bif (bif (bif (bif r_99 then true else (o_1.Table == [])) then (bif r_101 then true else ((o_1.Where.length:Int) == 0)) else false) then (bif name_104 then true else (o_1.Name == [])) else false) then (bif (bif (bif (o_1.Kind == 1) then true else (o_1.Kind == 3)) then true else (o_1.Kind == 6)) then true else ((o_1.Row.length:Int) == 0)) else false) then (bif (o_1.Kind == 4) then true else ((o_1.Muts.length:Int) == 0)) else false) then (bif (o_1.Kind == 2) then true else ((o_1.Columns.length:Int) == 0)) else false)) (.bool (o_1.Kind == 6)) rfl (fun hv => by (try simp only [gs_on hv]);exact ⟨rfl,rfl,rfl⟩) ?_;refine s_g (v:=(bif (bif (bif (bif (bif (bif r_99 then true else (o_1.Table == [])) then (bif r_101 then true else ((o_1.Where.length:Int) == 0)) else false) then (bif name_104 then true else (o_1.Name == [])) else false) then (bif (bif (bif (o_1.Kind == 1) then true else (o_1.Kind == 3)) then true else (o_1.Kind == 6)) then true else ((o_1.Row.length:Int) == 0)) else false) then (bif (o_1.Kind == 4) then true else ((o_1.Muts.length:Int) == 0)) else false) then (bif (o_1.Kind == 2) then true else ((o_1.Columns.length:Int) == 0)) else false)) (.bool (o_1.Kind == 6)) rfl (fun hv => by (try simp only [gs_on hv]);exact ⟨rfl,trivial,rfl⟩) ?_
       refine s_gg (v1:=(bif (bif (bif (bif (bif (bif r_99 then true else (o_1.Table == [])) then (bif r_101 then true else ((o_1.Where.length:Int) == 0)) else false) then (bif name_104 then true else (o_1.Name == [])) else false) then (bif (bif (bif (o_1.Kind == 1) then true else (o_1.Kind == 3)) then true else (o_1.Kind == 6)) then true else ((o_1.Row.length:Int) == 0)) else false) then (bif (o_1.Kind == 4) then true else ((o_1.Muts.length:Int) == 0)) else false) then (bif (o_1.Kind == 2) then true else ((o_1.Columns.length:Int) == 0)) else false)) (b1:=true) (v2:=(o_1.Kind == 6)) (.ptr 0 0 7) rfl (fun hv hw => by (try simp only [gs_on hv,gs_on hw]);exact ⟨rfl,trivial,rfl⟩) ?_;refine s_gg (v1:=(bif (bif (bif (bif (bif (bif r_99 then true else (o_1.Table == [])) then (bif r_101 then true else ((o_1.Where.length:Int) == 0)) else false) then (bif name_104 then true else (o_1.Name == [])) else false) then (bif (bif (bif (o_1.Kind == 1) then true else (o_1.Kind == 3)) then true else (o_1.Kind == 6)) then true else ((o_1.Row.length:Int) == 0)) else false) then (bif (o_1.Kind == 4) then true else ((o_1.Muts.length:Int) == 0)) else false) then (bif (o_1.Kind == 2) then true else ((o_1.Columns.length:Int) == 0)) else false)) (b1:=true) (v2:=(o_1.Kind == 6)) (.bool o_1.Until) rfl (fun hv hw => by (try simp only [gs_on hv,gs_on hw]);exact ⟨rfl,nle,rfl⟩) ?_
       refine s_gg (v1:=(bif (bif (bif (bif (bif (bif r_99 then true else (o_1.Table == [])) then (bif r_101 then true else ((o_1.Where.length:Int) == 0)) else false) then (bif name_104 then true else (o_1.Name == [])) else false) then (bif (bif (bif (o_1.Kind == 1) then true else (o_1.Kind == 3)) then true else (o_1.Kind == 6)) then true else ((o_1.Row.length:Int) == 0)) else false) then (bif (o_1.Kind == 4) then true else ((o_1.Muts.length:Int) == 0)) else false) then (bif (o_1.Kind == 2) then true else ((o_1.Columns.length:Int) == 0)) else false)) (b1:=true) (v2:=(o_1.Kind == 6)) (.bool (!o_1.Until)) rfl (fun hv hw => by (try simp only [gs_on hv,gs_on hw]);exact ⟨rfl,trivial,rfl⟩) ?_
       refine s_gp (v1:=(bif (bif (bif (bif (bif (bif r_99 then true else (o_1.Table == [])) then (bif r_101 then true else ((o_1.Where.length:Int) == 0)) else false) then (bif name_104 then true else (o_1.Name == [])) else false) then (bif (bif (bif (o_1.Kind == 1) then true else (o_1.Kind == 3)) then true else (o_1.Kind == 6)) then true else ((o_1.Row.length:Int) == 0)) else false) then (bif (o_1.Kind == 4) then true else ((o_1.Muts.length:Int) == 0)) else false) then (bif (o_1.Kind == 2) then true else ((o_1.Columns.length:Int) == 0)) else false)) (b1:=true) (v2:=(o_1.Kind == 6)) (x:=true) (y:=(!o_1.Until)) rfl (fun hv => by (try simp only [gs_on hv]);rfl) (fun hv hw => by (try simp only [gs_on hv,gs_on hw]);rfl) (fun hv hw => by (try simp only [gs_on hv,gs_on hw]);rfl) ?_
       refine s_pick (x:=(bif (o_1.Kind == 6) then true else (!o_1.Until))) (y:=false) rfl (fun hv => by (try simp only [gs_on hv]);rfl) (fun hv => by (try simp only [gs_on hv]);rfl) ?_;refine s_mov (.bool (bif (bif (bif (bif (bif (bif (bif r_99 then true else (o_1.Table == [])) then (bif r_101 then true else ((o_1.Where.length:Int) == 0)) else false) then (bif name_104 then true else (o_1.Name == [])) else false) then (bif (bif (bif (o_1.Kind == 1) then true else (o_1.Kind == 3)) then true else (o_1.Kind == 6)) then true else ((o_1.Row.length:Int) == 0)) else false) then (bif (o_1.Kind == 4) then true else ((o_1.Muts.length:Int) == 0)) else false) then (bif (o_1.Kind == 2) then true else ((o_1.Columns.length:Int) == 0)) else false) then (bif (o_1.Kind == 6) then true else (!o_1.Until)) else false)) rfl ?_
       refine dk<|w_ret<|?_;obtain rfl:=os hf;exact r_flat ⟨trivial,trivial⟩ rfl (.refl _)

/- spec.l09Ops -/
def c65:ACode :=
 (.seq (.reg (tm 2 (.c (.int .i64 0)) .done))
 (.seq (.seq (.reg (tm 4 (.t 0) (tq 5 (.len (.t 4)) (tq 6 (.bin .gtr (.t 5) (.c (.int .i64 8))) .done))))
 (.cond (.t 6) (.seq (.reg (tm 2 (.c (.int .i64 6)) .done))
 .ret)
 .skip))
 (.seq (.seq (.reg (tm 3 (.c (.int .i64 0)) .done))
 (.block 0 (.loop (.seq (.seq (.reg (tm 7 (.t 3) (tm 8 (.t 0) (tq 9 (.len (.t 8)) (tq 10 (.bin .lss (.t 7) (.t 9)) .done)))))
 (.cond (.t 10) .skip
 (.exit 0)))
 (.seq (.block 1 (.seq (.reg (tm 13 (.t 0) (tm 14 (.t 3) (tq 15 (.iaddr 8 (.t 13) (.t 14)) (tq 16 (.load 8 true (.t 15)) (tq 17 (.call 50 [(.t 16)]) (tq 18 (.not (.t 17)) .done)))))))
 (.cond (.t 18) (.seq (.reg (tm 2 (.c (.int .i64 1)) .done))
 .ret)
 .skip)))
 (.reg (tm 11 (.t 3) (tq 12 (.bin .add (.t 11) (.c (.int .i64 1))) (tm 3 (.t 12) .done)))))))))
 (.cut (.seq (.reg (tm 2 (.c (.int .i64 0)) .done))
 .ret)))))
theorem fc65:fcomp Tryz.prog Tryz.f65 = some (c65.erase,[.mov (.t 2)],19):=by kernel_rfl
def spec_l09Ops_L1 :List GOp → Option (Fl Int Unit)
  | [] =>
    some (.go ())
  | x_35 :: xs =>
    (spec_OpOK x_35).bind fun r_38 =>
    if (!r_38) then
    some (.ret 1)
    else
    spec_l09Ops_L1 xs 

def spec_l09Ops (ops_1:(List GOp)):Option Int :=
    if (decide ((ops_1.length:Int) > 8)) then
    some 6
    else
    (spec_l09Ops_L1 ops_1 ).bind fun q => (match q with
    | .ret r => some r
    | .go _ =>
    some 0)
theorem w_spec_l09Ops (ops_1:(List GOp)) (r:Int) (hf:spec_l09Ops ops_1 = some r):CallOK Tryz.prog 65 .flat [(.lst 8 (ops_1.map encGOp))] (.int .i64 r):=by
 refine CallOK.of_awp mixed Tryz.func65 fc65 nle ?_;rw [argT_eq];unfold spec_l09Ops at hf;unfold c65;refine (show awp Tryz.prog false 0 _ (ofL [(0,(.lst 8 (ops_1.map encGOp)))]) [] _ from ?_);refine sr<|s_mov (.int .i64 0) rfl<|dk<|awp_seq<|sr<|s_mov (.lst 8 (ops_1.map encGOp)) rfl<|s_dof (o_len (enc:=encGOp) rfl) fun hl2 => s_q (.bool (decide ((ops_1.length:Int) > 8))) rfl rfl rfl<|dk<|?_
 rcases oi hf with ⟨c3,hf⟩ | ⟨c3,hf⟩
 ·refine w_condt rfl c3<|sr<|s_mov (.int .i64 6) rfl<|dk<|w_ret<|?_;obtain rfl:=os hf;exact r_flat ⟨trivial,trivial⟩ rfl (.refl _)
 ·refine w_condf rfl (bf c3)<|w_skip<|k_seq<|awp_seq<|sr<|s_mov (.int .i64 0) rfl<|dk<|?_
  obtain ⟨p28,hb1,hf⟩:=ob hf
  refine awp_cutx (X:={q:Unit // p28 = .go q}) (fun q => ([],[])) ?_ ?_
  ·refine awp_loop (X:={q:Nat // spec_l09Ops_L1 (ops_1.drop q)  = some p28}) (fun q => ([(0,(.lst 8 (ops_1.map encGOp))),(3,(.int .i64 (q.1:Int)))],[])) (fun q => ops_1.length - q.1) ⟨0,hb1⟩ ⟨[],[],_,_,rfl,rfl,⟨.refl _,⟨.refl _,trivial⟩⟩,(.refl _)⟩ ?_
   rintro ⟨i_19,hc1⟩
   have hc1:spec_l09Ops_L1 (ops_1.drop i_19)  = some p28:=hc1
   refine (show awp Tryz.prog false 0 _ (ofL [(0,(.lst 8 (ops_1.map encGOp))),(3,(.int .i64 (i_19:Int)))]) [] _ from ?_)
   rcases dropc ops_1 i_19 with ⟨hie31,hd34⟩ | ⟨hlt29,x_35,hx30,hd34⟩
   ·rw [hd34,spec_l09Ops_L1.eq_1] at hc1
    have hq33:=dlf hie31
    refine awp_seq<|sr<|s_mov (.int .i64 (i_19:Int)) rfl<|s_mov (.lst 8 (ops_1.map encGOp)) rfl<|s_dof (o_len (enc:=encGOp) rfl) fun hl36 => s_q (.bool (decide ((i_19:Int) < (ops_1.length:Int)))) rfl rfl rfl<|dk<|w_condf rfl hq33<|w_exit<|k_seqx<|k_loopx<|k_blkx<|?_;obtain rfl:=os hc1;exact k_cutn ⟨_,rfl⟩ ⟨[],[],_,_,rfl,rfl,trivial,(.refl _)⟩
   ·rw [hd34,spec_l09Ops_L1.eq_2] at hc1
    have hq33:=dlt hlt29
    refine awp_seq<|sr<|s_mov (.int .i64 (i_19:Int)) rfl<|s_mov (.lst 8 (ops_1.map encGOp)) rfl<|s_dof (o_len (enc:=encGOp) rfl) fun hl37 => s_q (.bool (decide ((i_19:Int) < (ops_1.length:Int)))) rfl rfl rfl<|dk<|w_condt rfl hq33<|w_skip<|k_seq<|awp_seq<|w_blk<|sr<|?_
    obtain ⟨r_38,er39,hc1⟩:=ob hc1
    refine s_mov (.lst 8 (ops_1.map encGOp)) rfl<|s_mov (.int .i64 (i_19:Int)) rfl<|s_do (o_iaddrn (enc:=encGOp) rfl rfl hx30)<|s_q (encGOp x_35) rfl nle rfl<|s_do (o_call (w_spec_OpOK _ _ er39) rfl (.refl _) rfl)<|s_q (.bool (!r_38)) rfl trivial rfl<|dk<|?_
    rcases oi hc1 with ⟨c40,hc1⟩ | ⟨c40,hc1⟩
    ·refine w_condt rfl c40<|sr<|s_mov (.int .i64 1) rfl<|dk<|w_ret<|?_;obtain rfl:=os hc1;obtain rfl:=os hf;exact r_flat ⟨trivial,trivial⟩ rfl (.refl _)
    ·refine w_condf rfl (bf c40)<|w_skip<|k_blk<|k_seq<|w_reg<|s_mov (.int .i64 (i_19:Int)) rfl<|s_q (.int .i64 (w64 ((i_19:Int) + 1))) rfl rfl rfl<|s_mov (.int .i64 (w64 ((i_19:Int) + 1))) rfl<|w_done<|?_;exact k_loopn ⟨(i_19 + 1),hc1⟩ (mul hlt29) ⟨[],[],_,_,rfl,rfl,⟨.refl _,⟨.of_eq (congrArg (AV.int _) (w64_incr hlt29 hl37)),trivial⟩⟩,(.refl _)⟩
  ·rintro ⟨_,rfl⟩
   refine sr<|s_mov (.int .i64 0) rfl<|dk<|w_ret<|?_;obtain rfl:=os hf;exact r_flat ⟨trivial,trivial⟩ rfl (.refl _)

/- spec.l09Ids -/
def c67:ACode :=
 (.seq (.reg (tm 4 (.c .nil) .done))
 (.seq (.reg (tq 7 (.bslice 1 []) (tm 5 (.t 7) .done)))
 (.seq (.seq (.reg (tm 6 (.c (.int .i64 0)) .done))
 (.block 0 (.loop (.seq (.seq (.reg (tm 8 (.t 6) (tm 9 (.t 0) (tq 10 (.len (.t 9)) (tq 11 (.bin .lss (.t 8) (.t 10)) .done)))))
 (.cond (.t 11) .skip
 (.exit 0)))
 (.seq (.block 1 (.seq (.reg (tm 14 (.t 0) (tm 15 (.t 6) (tq 16 (.iaddr 8 (.t 14) (.t 15)) (tq 17 (.faddr 0 (.t 16)) (tq 18 (.load 1 false (.t 17)) (tq 19 (.bin .eql (.t 18) (.c (.int .i64 1))) .done)))))))
 (.cond (.t 19) (.seq (.reg (tm 20 (.t 5) (tm 21 (.t 1) (tq 22 (.bslice 1 [(.t 21)]) (tq 23 (.append 1 8 (.t 20) (.t 22)) (tm 5 (.t 23) .done))))))
 (.reg (tm 24 (.t 1) (tq 25 (.bin .add (.t 24) (.c (.int .i64 1))) (tm 1 (.t 25) .done)))))
 (.reg (tm 26 (.t 5) (tq 27 (.bslice 1 [(.c (.int .i64 0))]) (tq 28 (.append 1 8 (.t 26) (.t 27)) (tm 5 (.t 28) .done))))))))
 (.reg (tm 12 (.t 6) (tq 13 (.bin .add (.t 12) (.c (.int .i64 1))) (tm 6 (.t 13) .done)))))))))
 (.cut (.seq (.reg (tm 29 (.t 5) (tm 4 (.t 29) .done)))
 .ret)))))
theorem fc67:fcomp Tryz.prog Tryz.f67 = some (c67.erase,[.mov (.t 4)],30):=by kernel_rfl
def spec_l09Ids_L1 :List GOp → Int → (List Int) → Option (List Int)
  | [],next_20,out_22 =>
    some out_22
  | x_39 :: xs,next_20,out_22 =>
    if (x_39.Kind == 1) then
    if (out_22 ++ [next_20]).length ≤ 2 ^ 30 then
    spec_l09Ids_L1 xs (w64 (next_20 + 1))  (out_22 ++ [next_20])
    else none
    else
    if (out_22 ++ [(0:Int)]).length ≤ 2 ^ 30 then
    spec_l09Ids_L1 xs next_20  (out_22 ++ [(0:Int)])
    else none

def spec_l09Ids (ops_1:(List GOp)) (next_2:Int):Option (List Int) :=
    (spec_l09Ids_L1 ops_1 next_2 []).bind fun out_31 =>
    some out_31
theorem w_spec_l09Ids (ops_1:(List GOp)) (next_2:Int) (r:(List Int)) (hf:spec_l09Ids ops_1 next_2 = some r):CallOK Tryz.prog 67 .fresh [(.lst 8 (ops_1.map encGOp)),(.int .i64 next_2)] (.lst 1 (r.map encI)):=by
 refine CallOK.of_awp mixed Tryz.func67 fc67 nle ?_;rw [argT_eq];unfold spec_l09Ids at hf;unfold c67;refine (show awp Tryz.prog true 0 _ (ofL [(0,(.lst 8 (ops_1.map encGOp))),(1,(.int .i64 next_2))]) [] _ from ?_);refine sr<|s_mov .nil rfl<|dk<|sr<|?_;refine s_do (o_bslice (j:=0) (as':=[]) rfl (fun _ => by decide) trivial (.refl _) rfl rfl rfl) ?_;refine s_mov (.own 0 0 0) rfl<|dk<|awp_seq<|sr<|s_mov (.int .i64 0) rfl<|dk<|?_
 obtain ⟨out_31,hb1,hf⟩:=ob hf
 refine awp_cut ([(5,(.own 0 0 out_31.length))],[.row 1 (out_31.map encI)]) ?_ ?_
 ·refine awp_loop (X:={q:(Int × Nat × (List Int)) // spec_l09Ids_L1 (ops_1.drop q.2.1) q.1 q.2.2 = some out_31}) (fun q => ([(0,(.lst 8 (ops_1.map encGOp))),(1,(.int .i64 q.1.1)),(5,(.own 0 0 q.1.2.2.length)),(6,(.int .i64 (q.1.2.1:Int)))],[.row 1 (q.1.2.2.map encI)])) (fun q => ops_1.length - q.1.2.1) ⟨(next_2,0,[]),hb1⟩ ⟨[],[0],_,_,rfl,rfl,⟨.refl _,⟨.refl _,⟨.of_eq (congrArg (AV.own _ 0) (by simp)),⟨.refl _,trivial⟩⟩⟩⟩,(.refl _)⟩ ?_
  rintro ⟨⟨next_20,i_21,out_22⟩,hc1⟩
  have hc1:spec_l09Ids_L1 (ops_1.drop i_21) next_20 out_22 = some out_31:=hc1
  refine (show awp Tryz.prog true 0 _ (ofL [(0,(.lst 8 (ops_1.map encGOp))),(1,(.int .i64 next_20)),(5,(.own 0 0 out_22.length)),(6,(.int .i64 (i_21:Int)))]) [.row 1 (out_22.map encI)] _ from ?_)
  rcases dropc ops_1 i_21 with ⟨hie35,hd38⟩ | ⟨hlt33,x_39,hx34,hd38⟩
  ·rw [hd38,spec_l09Ids_L1.eq_1] at hc1
   have hq37:=dlf hie35
   refine awp_seq<|sr<|s_mov (.int .i64 (i_21:Int)) rfl<|s_mov (.lst 8 (ops_1.map encGOp)) rfl<|s_dof (o_len (enc:=encGOp) rfl) fun hl40 => s_q (.bool (decide ((i_21:Int) < (ops_1.length:Int)))) rfl rfl rfl<|dk<|w_condf rfl hq37<|w_exit<|k_seqx<|k_loopx<|k_blkx<|?_;obtain rfl:=os hc1;exact ⟨[],[0],_,_,rfl,rfl,⟨.refl _,trivial⟩,(.refl _)⟩
  ·rw [hd38,spec_l09Ids_L1.eq_2] at hc1
   have hq37:=dlt hlt33
   refine awp_seq<|sr<|s_mov (.int .i64 (i_21:Int)) rfl<|s_mov (.lst 8 (ops_1.map encGOp)) rfl<|s_dof (o_len (enc:=encGOp) rfl) fun hl41 => s_q (.bool (decide ((i_21:Int) < (ops_1.length:Int)))) rfl rfl rfl<|dk<|w_condt rfl hq37<|w_skip<|k_seq<|awp_seq<|w_blk<|sr<|s_mov (.lst 8 (ops_1.map encGOp)) rfl<|s_mov (.int .i64 (i_21:Int)) rfl<|s_do (o_iaddrn (enc:=encGOp) rfl rfl hx34)<|s_q (.iptr (encGOp x_39) 0) rfl trivial rfl<|s_q (.int .i64 x_39.Kind) rfl nle rfl<|s_q (.bool (x_39.Kind == 1)) rfl rfl rfl<|dk<|?_
   rcases oi hc1 with ⟨c42,hc1⟩ | ⟨c42,hc1⟩
   ·refine w_condt rfl c42<|sr<|?_
    obtain ⟨g43,hc1⟩:=og hc1
    refine s_mov (.own 0 0 out_22.length) rfl<|s_mov (.int .i64 next_20) rfl<|?_;refine s_do (o_bslice (j:=1) (as':=[(.int .i64 next_20)]) rfl (fun _ => by decide) ⟨rfl,trivial⟩ (.refl _) rfl rfl rfl) ?_
    refine s_do (o_appendd (j:=2) (L:=((out_22 ++ [next_20]).map encI)) (len:=(out_22 ++ [next_20]).length) rfl false rfl rfl (fun _ => flo (enc:=encI) (fun _ => rfl) [next_20] _) (fun _ _ h => (ownl (show AV.own _ _ _ = AV.lst _ _ from h)).elim) (by decide) (apo (enc:=encI) out_22 [next_20]) (by simp <;> omega) g43 rfl rfl) ?_
    refine s_mov (.own 2 0 ((out_22 ++ [next_20]).length)) rfl<|dk<|w_reg<|s_mov (.int .i64 next_20) rfl<|s_q (.int .i64 (w64 (next_20 + 1))) rfl rfl rfl<|s_mov (.int .i64 (w64 (next_20 + 1))) rfl<|w_done<|k_blk<|k_seq<|w_reg<|s_mov (.int .i64 (i_21:Int)) rfl<|s_q (.int .i64 (w64 ((i_21:Int) + 1))) rfl rfl rfl<|s_mov (.int .i64 (w64 ((i_21:Int) + 1))) rfl<|w_done<|?_;exact k_loopn ⟨(w64 (next_20 + 1),(i_21 + 1),out_22 ++ [next_20]),hc1⟩ (mul hlt33) ⟨[],[2],_,_,rfl,rfl,⟨.refl _,⟨.refl _,⟨.refl _,⟨.of_eq (congrArg (AV.int _) (w64_incr hlt33 hl41)),trivial⟩⟩⟩⟩,(.refl _)⟩
   ·refine w_condf rfl (bf c42)<|w_reg<|?_
    obtain ⟨g44,hc1⟩:=og hc1
    refine s_mov (.own 0 0 out_22.length) rfl ?_;refine s_do (o_bslice (j:=1) (as':=[(.int .i64 0)]) rfl (fun _ => by decide) ⟨rfl,trivial⟩ (.refl _) rfl rfl rfl) ?_
    refine s_do (o_appendd (j:=2) (L:=((out_22 ++ [(0:Int)]).map encI)) (len:=(out_22 ++ [(0:Int)]).length) rfl false rfl rfl (fun _ => flo (enc:=encI) (fun _ => rfl) [(0:Int)] _) (fun _ _ h => (ownl (show AV.own _ _ _ = AV.lst _ _ from h)).elim) (by decide) (apo (enc:=encI) out_22 [(0:Int)]) (by simp <;> omega) g44 rfl rfl) ?_
    refine s_mov (.own 2 0 ((out_22 ++ [(0:Int)]).length)) rfl<|w_done<|k_blk<|k_seq<|w_reg<|s_mov (.int .i64 (i_21:Int)) rfl<|s_q (.int .i64 (w64 ((i_21:Int) + 1))) rfl rfl rfl<|s_mov (.int .i64 (w64 ((i_21:Int) + 1))) rfl<|w_done<|?_;exact k_loopn ⟨(next_20,(i_21 + 1),out_22 ++ [(0:Int)]),hc1⟩ (mul hlt33) ⟨[],[2],_,_,rfl,rfl,⟨.refl _,⟨.refl _,⟨.refl _,⟨.of_eq (congrArg (AV.int _) (w64_incr hlt33 hl41)),trivial⟩⟩⟩⟩,(.refl _)⟩
 ·refine sr<|s_mov (.own 0 0 out_31.length) rfl<|s_mov (.own 0 0 out_31.length) rfl<|dk<|w_ret<|?_;obtain rfl:=os hf;exact r_fresh ⟨trivial,trivial⟩ rfl (by decide) (.of_eq (congrArg (AV.lst _) (tk (enc:=encI) out_31)))

/- spec.InsertIds -/
def c14:ACode :=
 (.seq (.reg (tm 4 (.c .nil) (tm 5 (.c (.int .i64 0)) .done)))
 (.seq (.seq (.reg (tm 7 (.t 0) (tq 8 (.len (.t 7)) (tq 9 (.bin .gtr (.t 8) (.c (.int .i64 4096))) .done))))
 (.cond (.t 9) (.seq (.reg (tq 10 (.bslice 1 []) (tm 4 (.t 10) (tm 5 (.c (.int .i64 2)) .done))))
 .ret)
 .skip))
 (.seq (.seq (.reg (tm 11 (.t 0) (tq 12 (.call 65 [(.t 11)]) (tm 6 (.t 12) .done))))
 (.seq (.reg (tm 13 (.t 6) (tq 14 (.bin .neq (.t 13) (.c (.int .i64 0))) .done)))
 (.cond (.t 14) (.seq (.reg (tq 15 (.bslice 1 []) (tm 16 (.t 6) (tm 4 (.t 15) (tm 5 (.t 16) .done)))))
 .ret)
 .skip)))
 (.seq (.seq (.reg (tm 17 (.t 1) (tq 18 (.call 66 [(.t 17),(.c (.int .i64 1)),(.c (.int .i64 1000000))]) (tq 19 (.not (.t 18)) .done))))
 (.cond (.t 19) (.seq (.reg (tq 20 (.bslice 1 []) (tm 4 (.t 20) (tm 5 (.c (.int .i64 4)) .done))))
 .ret)
 .skip))
 (.seq (.reg (tm 21 (.t 0) (tm 22 (.t 1) (tq 23 (.call 67 [(.t 21),(.t 22)]) (tm 4 (.t 23) (tm 5 (.c (.int .i64 0)) .done))))))
 .ret)))))
theorem fc14:fcomp Tryz.prog Tryz.f14 = some (c14.erase,[.mov (.t 4),.mov (.t 5)],24):=by kernel_rfl
def spec_InsertIds (ops_1:(List GOp)) (next_2:Int):Option ((List Int) × Int) :=
    if (decide ((ops_1.length:Int) > 4096)) then
    some ([],2)
    else
    (spec_l09Ops ops_1).bind fun r_5 =>
    if (r_5 != 0) then
    some ([],r_5)
    else
    (spec_l01In next_2 1 1000000).bind fun r_8 =>
    if (!r_8) then
    some ([],4)
    else
    (spec_l09Ids ops_1 next_2).bind fun r_11 =>
    some (r_11,0)
theorem w_spec_InsertIds (ops_1:(List GOp)) (next_2:Int) (r:((List Int) × Int)) (hf:spec_InsertIds ops_1 next_2 = some r):CallOK Tryz.prog 14 .fresh [(.lst 8 (ops_1.map encGOp)),(.int .i64 next_2)] (.tup [(.lst 1 (r.1.map encI)),(.int .i64 r.2)]):=by
 refine CallOK.of_awp mixed Tryz.func14 fc14 nle ?_;rw [argT_eq];unfold spec_InsertIds at hf;unfold c14;refine (show awp Tryz.prog true 0 _ (ofL [(0,(.lst 8 (ops_1.map encGOp))),(1,(.int .i64 next_2))]) [] _ from ?_);refine sr<|s_mov .nil rfl<|s_mov (.int .i64 0) rfl<|dk<|awp_seq<|sr<|s_mov (.lst 8 (ops_1.map encGOp)) rfl<|s_dof (o_len (enc:=encGOp) rfl) fun hl3 => s_q (.bool (decide ((ops_1.length:Int) > 4096))) rfl rfl rfl<|dk<|?_
 rcases oi hf with ⟨c4,hf⟩ | ⟨c4,hf⟩
 ·refine w_condt rfl c4<|sr<|?_;refine s_do (o_bslice (j:=0) (as':=[]) rfl (fun _ => by decide) trivial (.refl _) rfl rfl rfl) ?_;refine s_mov (.own 0 0 0) rfl<|s_mov (.int .i64 2) rfl<|dk<|w_ret<|?_;obtain rfl:=os hf;exact r_fresh ⟨trivial,⟨trivial,trivial⟩⟩ rfl (by decide) (.refl _)
 ·refine w_condf rfl (bf c4)<|w_skip<|k_seq<|awp_seq<|sr<|?_
  obtain ⟨r_5,er6,hf⟩:=ob hf
  refine s_mov (.lst 8 (ops_1.map encGOp)) rfl<|s_do (o_call (w_spec_l09Ops _ _ er6) rfl (.refl _) rfl)<|s_mov (.int .i64 r_5) rfl<|dk<|sr<|s_mov (.int .i64 r_5) rfl<|s_q (.bool (r_5 != 0)) rfl rfl rfl<|dk<|?_
  rcases oi hf with ⟨c7,hf⟩ | ⟨c7,hf⟩
  ·refine w_condt rfl c7<|sr<|?_;refine s_do (o_bslice (j:=0) (as':=[]) rfl (fun _ => by decide) trivial (.refl _) rfl rfl rfl) ?_;refine s_mov (.int .i64 r_5) rfl<|s_mov (.own 0 0 0) rfl<|s_mov (.int .i64 r_5) rfl<|dk<|w_ret<|?_;obtain rfl:=os hf;exact r_fresh ⟨trivial,⟨trivial,trivial⟩⟩ rfl (by decide) (.refl _)
  ·refine w_condf rfl (bf c7)<|w_skip<|k_seq<|awp_seq<|sr<|?_
   obtain ⟨r_8,er9,hf⟩:=ob hf
   refine s_mov (.int .i64 next_2) rfl<|s_do (o_call (w_spec_l01In _ _ _ _ er9) rfl (.refl _) rfl)<|s_q (.bool (!r_8)) rfl trivial rfl<|dk<|?_
   rcases oi hf with ⟨c10,hf⟩ | ⟨c10,hf⟩
   ·refine w_condt rfl c10<|sr<|?_;refine s_do (o_bslice (j:=0) (as':=[]) rfl (fun _ => by decide) trivial (.refl _) rfl rfl rfl) ?_;refine s_mov (.own 0 0 0) rfl<|s_mov (.int .i64 4) rfl<|dk<|w_ret<|?_;obtain rfl:=os hf;exact r_fresh ⟨trivial,⟨trivial,trivial⟩⟩ rfl (by decide) (.refl _)
   ·refine w_condf rfl (bf c10)<|w_skip<|k_seq<|sr<|?_
    obtain ⟨r_11,er12,hf⟩:=ob hf
    refine s_mov (.lst 8 (ops_1.map encGOp)) rfl<|s_mov (.int .i64 next_2) rfl<|s_do (o_callf (v:=(.own 0 0 r_11.length)) (h':=[.row 1 (r_11.map encI)]) (w_spec_l09Ids _ _ _ er12) rfl (.refl _) (by simp only [openV,openVs,List.length_map,List.nil_append,List.append_nil,List.cons_append];rfl))<|s_mov (.own 0 0 r_11.length) rfl<|s_mov (.int .i64 0) rfl<|dk<|w_ret<|?_;obtain rfl:=os hf;exact r_fresh ⟨trivial,⟨trivial,trivial⟩⟩ rfl (by decide) (.tup (.cons (.of_eq (congrArg (AV.lst _) (tk (enc:=encI) r_11))) (.cons (.refl _) .nil)))

/- impl.isList[impl.Op] -/
def c69:ACode :=
 (.seq (.reg (tm 2 (.c (.bool false)) .done))
 (.seq (.reg (tm 3 (.t 0) (tq 4 (.len (.t 3)) (tq 5 (.bin .leq (.t 4) (.c (.int .i64 4096))) (tm 2 (.t 5) .done)))))
 .ret))
theorem fc69:fcomp Tryz.prog Tryz.f69 = some (c69.erase,[.mov (.t 2)],6):=by kernel_rfl
def impl_isList_impl_Op (list_1:(List GOp)):Option Bool :=
    some (decide ((list_1.length:Int) ≤ 4096))
theorem w_impl_isList_impl_Op (list_1:(List GOp)) (r:Bool) (hf:impl_isList_impl_Op list_1 = some r):CallOK Tryz.prog 69 .flat [(.lst 8 (list_1.map encGOp))] (.bool r):=by
  refine CallOK.of_awp mixed Tryz.func69 fc69 nle ?_
  rw [argT_eq]
  unfold impl_isList_impl_Op at hf
  unfold c69
  refine (show awp Tryz.prog false 0 _ (ofL [(0,(.lst 8 (list_1.map encGOp)))]) [] _ from ?_)
  refine awp_seq ?_
  refine w_reg ?_
  refine s_do (o_mov (.bool false) rfl) ?_
  refine w_done ?_
  refine k_seq ?_
  refine awp_seq ?_
  refine w_reg ?_
  refine s_do (o_mov (.lst 8 (list_1.map encGOp)) rfl) ?_
  refine s_dof (o_len (enc:=encGOp) rfl) fun hl2 => ?_
  refine s_do (o_q (.bool (decide ((list_1.length:Int) ≤ 4096))) rfl rfl rfl) ?_
  refine s_do (o_mov (.bool (decide ((list_1.length:Int) ≤ 4096))) rfl) ?_
  refine w_done ?_
  refine k_seq ?_
  refine w_ret ?_
  obtain rfl:=os hf
  exact r_flat ⟨trivial,trivial⟩ rfl (.refl _)

/- slices.IndexFunc[[]impl.Op,impl.Op] -/
def c220:ACode :=
 (.seq (.reg (tm 4 (.c (.int .i64 0)) .done))
 (.seq (.seq (.reg (tm 6 (.t 0) (tq 7 (.len (.t 6)) (tm 8 (.c (.int .i64 0)) .done))))
 (.block 0 (.loop (.seq (.reg (tq 9 (.bin .lss (.t 8) (.t 7)) .done))
 (.seq (.cond (.t 9) .skip
 (.exit 0))
 (.seq (.block 1 (.seq (.reg (tm 10 (.t 8) (tm 5 (.t 10) .done)))
 (.seq (.reg (tm 11 (.t 1) (tm 12 (.t 0) (tm 13 (.t 5) (tq 14 (.iaddr 8 (.t 12) (.t 13)) (tq 15 (.load 8 true (.t 14)) (tq 16 (.calv (.t 11) [(.t 15)]) .done)))))))
 (.cond (.t 16) (.seq (.reg (tm 17 (.t 5) (tm 4 (.t 17) .done)))
 .ret)
 .skip))))
 (.reg (tq 18 (.bin .add (.t 8) (.c (.int .i64 1))) (tm 8 (.t 18) .done)))))))))
 (.cut (.seq (.reg (tq 4 (.mov (.c (.int .i64 (-1)))) .done))
 .ret))))
theorem fc220:fcomp Tryz.prog Tryz.f220 = some (c220.erase,[.mov (.t 4)],19):=by kernel_rfl
def slices_IndexFunc_impl_Op_impl_Op_L1 (f_2:(GOp → Option Bool)):List GOp → Nat → Option (Fl Int Unit)
  | [],s8_17 =>
    some (.go ())
  | x_31 :: xs,s8_17 =>
    (f_2 x_31).bind fun r_32 =>
    if r_32 then
    some (.ret (s8_17:Int))
    else
    slices_IndexFunc_impl_Op_impl_Op_L1 f_2 xs (s8_17 + 1)

def slices_IndexFunc_impl_Op_impl_Op (s_1:(List GOp)) (f_2:(GOp → Option Bool)):Option Int :=
    (slices_IndexFunc_impl_Op_impl_Op_L1 f_2 s_1 0).bind fun q => (match q with
    | .ret r => some r
    | .go _ =>
    some (-1))
theorem w_slices_IndexFunc_impl_Op_impl_Op (s_1:(List GOp)) (f_2:(GOp → Option Bool)) (r:Int) (hf:slices_IndexFunc_impl_Op_impl_Op s_1 f_2 = some r) (kf_f_2:Nat) (cf_f_2:List AV) (okf_f_2:okFn Tryz.prog kf_f_2 = true) (hcf_f_2:∀ h p,closeWs h p cf_f_2 = some cf_f_2) (hrf_f_2:∀ f,rens f cf_f_2 = cf_f_2) (hpf_f_2:∀ a0 r,f_2 a0 = some r → CallOK Tryz.prog kf_f_2 .flat ([(encGOp a0)] ++ cf_f_2) (.bool r)):CallOK Tryz.prog 220 .flat [(.lst 8 (s_1.map encGOp)),(.fn kf_f_2 cf_f_2)] (.int .i64 r):=by
 refine CallOK.of_awp mixed Tryz.func220 fc220 nle ?_;rw [argT_eq];unfold slices_IndexFunc_impl_Op_impl_Op at hf;unfold c220;refine (show awp Tryz.prog false 0 _ (ofL [(0,(.lst 8 (s_1.map encGOp))),(1,(.fn kf_f_2 cf_f_2))]) [] _ from ?_);refine sr<|s_mov (.int .i64 0) rfl<|dk<|awp_seq<|sr<|s_mov (.lst 8 (s_1.map encGOp)) rfl<|s_dof (o_len (enc:=encGOp) rfl) fun hl3 => s_mov (.int .i64 0) rfl<|dk<|?_
 obtain ⟨p24,hb1,hf⟩:=ob hf
 refine awp_cutx (X:={q:Unit // p24 = .go q}) (fun q => ([],[])) ?_ ?_
 ·refine awp_loop (X:={q:Nat // slices_IndexFunc_impl_Op_impl_Op_L1 f_2 (s_1.drop q) q = some p24}) (fun q => ([(0,(.lst 8 (s_1.map encGOp))),(1,(.fn kf_f_2 cf_f_2)),(7,(.int .i64 (s_1.length:Int))),(8,(.int .i64 (q.1:Int)))],[])) (fun q => s_1.length - q.1) ⟨0,hb1⟩ ⟨[],[],_,_,rfl,rfl,⟨.refl _,⟨.of_eq (congrArg (AV.fn _) (hrf_f_2 _)),⟨.refl _,⟨.refl _,trivial⟩⟩⟩⟩,(.refl _)⟩ ?_
  rintro ⟨s8_17,hc1⟩
  have hc1:slices_IndexFunc_impl_Op_impl_Op_L1 f_2 (s_1.drop s8_17) s8_17 = some p24:=hc1
  refine (show awp Tryz.prog false 0 _ (ofL [(0,(.lst 8 (s_1.map encGOp))),(1,(.fn kf_f_2 cf_f_2)),(7,(.int .i64 (s_1.length:Int))),(8,(.int .i64 (s8_17:Int)))]) [] _ from ?_)
  rcases dropc s_1 s8_17 with ⟨hie27,hd30⟩ | ⟨hlt25,x_31,hx26,hd30⟩
  ·rw [hd30,slices_IndexFunc_impl_Op_impl_Op_L1.eq_1] at hc1
   have hq29:=dlf hie27
   refine sr<|s_q (.bool (decide ((s8_17:Int) < (s_1.length:Int)))) rfl rfl rfl<|dk<|awp_seq<|w_condf rfl hq29<|w_exit<|k_seqx<|k_loopx<|k_blkx<|?_;obtain rfl:=os hc1;exact k_cutn ⟨_,rfl⟩ ⟨[],[],_,_,rfl,rfl,trivial,(.refl _)⟩
  ·rw [hd30,slices_IndexFunc_impl_Op_impl_Op_L1.eq_2] at hc1
   have hq29:=dlt hlt25
   refine sr<|s_q (.bool (decide ((s8_17:Int) < (s_1.length:Int)))) rfl rfl rfl<|dk<|awp_seq<|w_condt rfl hq29<|w_skip<|k_seq<|awp_seq<|w_blk<|sr<|s_mov (.int .i64 (s8_17:Int)) rfl<|s_mov (.int .i64 (s8_17:Int)) rfl<|dk<|sr<|?_
   obtain ⟨r_32,er33,hc1⟩:=ob hc1
   refine s_mov (.fn kf_f_2 cf_f_2) rfl<|s_mov (.lst 8 (s_1.map encGOp)) rfl<|s_mov (.int .i64 (s8_17:Int)) rfl<|s_do (o_iaddrn (enc:=encGOp) rfl rfl hx26)<|s_q (encGOp x_31) rfl nle rfl<|s_do (o_calvp (v:=(.bool r_32)) rfl okf_f_2 hcf_f_2 (hpf_f_2 _ _ er33) rfl (.refl _) rfl)<|dk<|?_
   rcases oi hc1 with ⟨c34,hc1⟩ | ⟨c34,hc1⟩
   ·refine w_condt rfl c34<|sr<|s_mov (.int .i64 (s8_17:Int)) rfl<|s_mov (.int .i64 (s8_17:Int)) rfl<|dk<|w_ret<|?_;obtain rfl:=os hc1;obtain rfl:=os hf;exact r_flat ⟨trivial,trivial⟩ rfl (.refl _)
   ·refine w_condf rfl (bf c34)<|w_skip<|k_blk<|k_seq<|w_reg<|s_q (.int .i64 (w64 ((s8_17:Int) + 1))) rfl rfl rfl<|s_mov (.int .i64 (w64 ((s8_17:Int) + 1))) rfl<|w_done<|?_;exact k_loopn ⟨(s8_17 + 1),hc1⟩ (mul hlt25) ⟨[],[],_,_,rfl,rfl,⟨.refl _,⟨.of_eq (congrArg (AV.fn _) (hrf_f_2 _)),⟨.refl _,⟨.of_eq (congrArg (AV.int _) (w64_incr hlt25 hl3)),trivial⟩⟩⟩⟩,(.refl _)⟩
 ·rintro ⟨_,rfl⟩
  refine sr<|s_mov (.int .i64 (-1)) rfl<|dk<|w_ret<|?_;obtain rfl:=os hf;exact r_flat ⟨trivial,trivial⟩ rfl (.refl _)

/- slices.ContainsFunc[[]impl.Op,impl.Op] -/
def c156:ACode :=
 (.seq (.reg (tm 4 (.c (.bool false)) .done))
 (.seq (.reg (tm 5 (.t 0) (tm 6 (.t 1) (tq 7 (.call 220 [(.t 5),(.t 6)]) (tq 8 (.bin .geq (.t 7) (.c (.int .i64 0))) (tm 4 (.t 8) .done))))))
 .ret))
theorem fc156:fcomp Tryz.prog Tryz.f156 = some (c156.erase,[.mov (.t 4)],9):=by kernel_rfl
def slices_ContainsFunc_impl_Op_impl_Op (s_1:(List GOp)) (f_2:(GOp → Option Bool)):Option Bool :=
    (slices_IndexFunc_impl_Op_impl_Op s_1 f_2).bind fun r_3 =>
    some (decide (r_3 ≥ 0))
theorem w_slices_ContainsFunc_impl_Op_impl_Op (s_1:(List GOp)) (f_2:(GOp → Option Bool)) (r:Bool) (hf:slices_ContainsFunc_impl_Op_impl_Op s_1 f_2 = some r) (kf_f_2:Nat) (cf_f_2:List AV) (okf_f_2:okFn Tryz.prog kf_f_2 = true) (hcf_f_2:∀ h p,closeWs h p cf_f_2 = some cf_f_2) (hrf_f_2:∀ f,rens f cf_f_2 = cf_f_2) (hpf_f_2:∀ a0 r,f_2 a0 = some r → CallOK Tryz.prog kf_f_2 .flat ([(encGOp a0)] ++ cf_f_2) (.bool r)):CallOK Tryz.prog 156 .flat [(.lst 8 (s_1.map encGOp)),(.fn kf_f_2 cf_f_2)] (.bool r):=by
  refine CallOK.of_awp mixed Tryz.func156 fc156 nle ?_
  rw [argT_eq]
  unfold slices_ContainsFunc_impl_Op_impl_Op at hf
  unfold c156
  refine (show awp Tryz.prog false 0 _ (ofL [(0,(.lst 8 (s_1.map encGOp))),(1,(.fn kf_f_2 cf_f_2))]) [] _ from ?_)
  refine awp_seq ?_
  refine w_reg ?_
  refine s_do (o_mov (.bool false) rfl) ?_
  refine w_done ?_
  refine k_seq ?_
  refine awp_seq ?_
  refine w_reg ?_
  obtain ⟨r_3,er4,hf⟩:=ob hf
  refine s_do (o_mov (.lst 8 (s_1.map encGOp)) rfl) ?_
  refine s_do (o_mov (.fn kf_f_2 cf_f_2) rfl) ?_
  refine s_do (o_call (w_slices_IndexFunc_impl_Op_impl_Op _ _ _ er4 kf_f_2 cf_f_2 okf_f_2 hcf_f_2 hrf_f_2 hpf_f_2) (cls_cons rfl (cls_cons (cls_fn hcf_f_2) rfl)) (.refl _) rfl) ?_
  refine s_do (o_q (.bool (decide (r_3 ≥ 0))) rfl rfl rfl) ?_
  refine s_do (o_mov (.bool (decide (r_3 ≥ 0))) rfl) ?_
  refine w_done ?_
  refine k_seq ?_
  refine w_ret ?_
  obtain rfl:=os hf
  exact r_flat ⟨trivial,trivial⟩ rfl (.refl _)

/- (impl.Op).isUnused -/
def c52:ACode :=
 (.seq (.reg (tq 1 (.box 8 (.t 0)) (tm 2 (.c (.bool false)) .done)))
 (.seq (.reg (tq 10 (.faddr 1 (.t 1)) (tq 11 (.load 1 false (.t 10)) (tq 12 (.bin .eql (.t 11) (.c (.str []))) (tq 13 (.faddr 2 (.t 1)) (tq 14 (.load 1 false (.t 13)) (tq 15 (.bin .eql (.t 14) (.c (.str []))) (tq 16 (.faddr 3 (.t 1)) (tq 17 (.load 1 false (.t 16)) (tq 18 (.len (.t 17)) (tq 19 (.bin .eql (.t 18) (.c (.int .i64 0))) (tq 20 (.faddr 4 (.t 1)) (tq 21 (.load 1 false (.t 20)) (tq 22 (.len (.t 21)) (tq 23 (.bin .eql (.t 22) (.c (.int .i64 0))) (tm 3 (.t 12) (tm 4 (.t 15) (tm 5 (.t 19) (tm 6 (.t 23) .done)))))))))))))))))))
 (.seq (.reg (tq 24 (.faddr 5 (.t 1)) (tq 25 (.load 1 false (.t 24)) (tq 26 (.len (.t 25)) (tq 27 (.bin .eql (.t 26) (.c (.int .i64 0))) (tq 28 (.faddr 6 (.t 1)) (tq 29 (.load 1 false (.t 28)) (tq 30 (.len (.t 29)) (tq 31 (.bin .eql (.t 30) (.c (.int .i64 0))) (tq 32 (.faddr 7 (.t 1)) (tq 33 (.load 1 false (.t 32)) (tq 34 (.not (.t 33)) (tm 7 (.t 27) (tm 8 (.t 31) (tm 9 (.t 34) .done)))))))))))))))
 (.seq (.seq (.reg (tq 35 (.faddr 0 (.t 1)) (tq 36 (.load 1 false (.t 35)) .done)))
 (.block 0 (.seq (.reg (tq 38 (.bin .eql (.t 36) (.c (.int .i64 1))) (tm 37 (.t 38) .done)))
 (.cond (.t 37) (.seq (.reg (tm 39 (.t 5) (tm 40 (.t 39) (tg 41 40 true (.mov (.t 7)) (tq 42 (.pick (.t 40) (.t 41) (.c (.bool false))) (tm 43 (.t 42) (tg 44 43 true (.mov (.t 8)) (tq 45 (.pick (.t 43) (.t 44) (.c (.bool false))) (tm 46 (.t 45) (tg 47 46 true (.mov (.t 9)) (tq 48 (.pick (.t 46) (.t 47) (.c (.bool false))) (tm 2 (.t 48) .done))))))))))))
 .ret)
 (.seq (.reg (tq 50 (.bin .eql (.t 36) (.c (.int .i64 2))) (tm 49 (.t 50) .done)))
 (.cond (.t 49) (.seq (.reg (tm 51 (.t 4) (tm 52 (.t 51) (tg 53 52 true (.mov (.t 6)) (tq 54 (.pick (.t 52) (.t 53) (.c (.bool false))) (tm 55 (.t 54) (tg 56 55 true (.mov (.t 7)) (tq 57 (.pick (.t 55) (.t 56) (.c (.bool false))) (tm 58 (.t 57) (tg 59 58 true (.mov (.t 9)) (tq 60 (.pick (.t 58) (.t 59) (.c (.bool false))) (tm 2 (.t 60) .done))))))))))))
 .ret)
 (.seq (.reg (tq 62 (.bin .eql (.t 36) (.c (.int .i64 3))) (tm 61 (.t 62) .done)))
 (.cond (.t 61) (.seq (.reg (tm 63 (.t 4) (tm 64 (.t 63) (tg 65 64 true (.mov (.t 7)) (tq 66 (.pick (.t 64) (.t 65) (.c (.bool false))) (tm 67 (.t 66) (tg 68 67 true (.mov (.t 8)) (tq 69 (.pick (.t 67) (.t 68) (.c (.bool false))) (tm 70 (.t 69) (tg 71 70 true (.mov (.t 9)) (tq 72 (.pick (.t 70) (.t 71) (.c (.bool false))) (tm 2 (.t 72) .done))))))))))))
 .ret)
 (.seq (.reg (tq 74 (.bin .eql (.t 36) (.c (.int .i64 4))) (tm 73 (.t 74) .done)))
 (.cond (.t 73) (.seq (.reg (tm 75 (.t 4) (tm 76 (.t 75) (tg 77 76 true (.mov (.t 6)) (tq 78 (.pick (.t 76) (.t 77) (.c (.bool false))) (tm 79 (.t 78) (tg 80 79 true (.mov (.t 8)) (tq 81 (.pick (.t 79) (.t 80) (.c (.bool false))) (tm 82 (.t 81) (tg 83 82 true (.mov (.t 9)) (tq 84 (.pick (.t 82) (.t 83) (.c (.bool false))) (tm 2 (.t 84) .done))))))))))))
 .ret)
 (.seq (.reg (tq 86 (.bin .eql (.t 36) (.c (.int .i64 5))) (tm 85 (.t 86) .done)))
 (.cond (.t 85) (.seq (.reg (tm 87 (.t 4) (tm 88 (.t 87) (tg 89 88 true (.mov (.t 6)) (tq 90 (.pick (.t 88) (.t 89) (.c (.bool false))) (tm 91 (.t 90) (tg 92 91 true (.mov (.t 7)) (tq 93 (.pick (.t 91) (.t 92) (.c (.bool false))) (tm 94 (.t 93) (tg 95 94 true (.mov (.t 8)) (tq 96 (.pick (.t 94) (.t 95) (.c (.bool false))) (tm 97 (.t 96) (tg 98 97 true (.mov (.t 9)) (tq 99 (.pick (.t 97) (.t 98) (.c (.bool false))) (tm 2 (.t 99) .done)))))))))))))))
 .ret)
 (.seq (.reg (tq 101 (.bin .eql (.t 36) (.c (.int .i64 6))) (tm 100 (.t 101) .done)))
 (.cond (.t 100) (.seq (.reg (tm 102 (.t 4) (tm 103 (.t 102) (tg 104 103 true (.mov (.t 7)) (tq 105 (.pick (.t 103) (.t 104) (.c (.bool false))) (tm 106 (.t 105) (tg 107 106 true (.mov (.t 8)) (tq 108 (.pick (.t 106) (.t 107) (.c (.bool false))) (tm 2 (.t 108) .done)))))))))
 .ret)
 (.seq (.seq (.reg (tq 110 (.bin .eql (.t 36) (.c (.int .i64 7))) (tm 109 (.t 110) .done)))
 (.cond (.t 109) .skip
 (.reg (tq 111 (.bin .eql (.t 36) (.c (.int .i64 8))) (tm 109 (.t 111) .done)))))
 (.cut (.cond (.t 109) (.seq (.reg (tm 112 (.t 3) (tm 113 (.t 112) (tg 114 113 true (.mov (.t 4)) (tq 115 (.pick (.t 113) (.t 114) (.c (.bool false))) (tm 116 (.t 115) (tg 117 116 true (.mov (.t 5)) (tq 118 (.pick (.t 116) (.t 117) (.c (.bool false))) (tm 119 (.t 118) (tg 120 119 true (.mov (.t 6)) (tq 121 (.pick (.t 119) (.t 120) (.c (.bool false))) (tm 122 (.t 121) (tg 123 122 true (.mov (.t 7)) (tq 124 (.pick (.t 122) (.t 123) (.c (.bool false))) (tm 125 (.t 124) (tg 126 125 true (.mov (.t 8)) (tq 127 (.pick (.t 125) (.t 126) (.c (.bool false))) (tm 128 (.t 127) (tg 129 128 true (.mov (.t 9)) (tq 130 (.pick (.t 128) (.t 129) (.c (.bool false))) (tm 2 (.t 130) .done)))))))))))))))))))))
 .ret)
 (.seq (.seq (.reg (tq 132 (.bin .eql (.t 36) (.c (.int .i64 9))) (tm 131 (.t 132) .done)))
 (.cond (.t 131) .skip
 (.reg (tq 133 (.bin .eql (.t 36) (.c (.int .i64 10))) (tm 131 (.t 133) .done)))))
 (.cut (.cond (.t 131) (.seq (.reg (tm 134 (.t 3) (tm 135 (.t 134) (tg 136 135 true (.mov (.t 5)) (tq 137 (.pick (.t 135) (.t 136) (.c (.bool false))) (tm 138 (.t 137) (tg 139 138 true (.mov (.t 6)) (tq 140 (.pick (.t 138) (.t 139) (.c (.bool false))) (tm 141 (.t 140) (tg 142 141 true (.mov (.t 7)) (tq 143 (.pick (.t 141) (.t 142) (.c (.bool false))) (tm 144 (.t 143) (tg 145 144 true (.mov (.t 8)) (tq 146 (.pick (.t 144) (.t 145) (.c (.bool false))) (tm 147 (.t 146) (tg 148 147 true (.mov (.t 9)) (tq 149 (.pick (.t 147) (.t 148) (.c (.bool false))) (tm 2 (.t 149) .done))))))))))))))))))
 .ret)
 .skip))))))))))))))))))))
 (.seq (.reg (tm 2 (.c (.bool false)) .done))
 .ret)))))
theorem fc52:fcomp Tryz.prog Tryz.f52 = some (c52.erase,[.mov (.t 2)],150):=by kernel_rfl
def impl_Op_isUnused (o_1:GOp):Option Bool :=
    if (o_1.Kind == 1) then
    if ((o_1.Where.length:Int) == 0) then
    if ((o_1.Muts.length:Int) == 0) then
    if ((o_1.Columns.length:Int) == 0) then
    some (!o_1.Until)
    else
    some false
    else
    some false
    else
    some false
    else
    if (o_1.Kind == 2) then
    if (o_1.Name == []) then
    if ((o_1.Row.length:Int) == 0) then
    if ((o_1.Muts.length:Int) == 0) then
    some (!o_1.Until)
    else
    some false
    else
    some false
    else
    some false
    else
    if (o_1.Kind == 3) then
    if (o_1.Name == []) then
    if ((o_1.Muts.length:Int) == 0) then
    if ((o_1.Columns.length:Int) == 0) then
    some (!o_1.Until)
    else
    some false
    else
    some false
    else
    some false
    else
    if (o_1.Kind == 4) then
    if (o_1.Name == []) then
    if ((o_1.Row.length:Int) == 0) then
    if ((o_1.Columns.length:Int) == 0) then
    some (!o_1.Until)
    else
    some false
    else
    some false
    else
    some false
    else
    if (o_1.Kind == 5) then
    some (bif (bif (bif (bif (o_1.Name == []) then ((o_1.Row.length:Int) == 0) else false) then ((o_1.Muts.length:Int) == 0) else false) then ((o_1.Columns.length:Int) == 0) else false) then (!o_1.Until) else false)
    else
    if (o_1.Kind == 6) then
    if (o_1.Name == []) then
    if ((o_1.Muts.length:Int) == 0) then
    some ((o_1.Columns.length:Int) == 0)
    else
    some false
    else
    some false
    else
    ((if (o_1.Kind == 7) then
    some true
    else
    some (o_1.Kind == 8):Option Bool)).bind fun s109_27 =>
    if s109_27 then
    some (bif (bif (bif (bif (bif (bif (o_1.Table == []) then (o_1.Name == []) else false) then ((o_1.Where.length:Int) == 0) else false) then ((o_1.Row.length:Int) == 0) else false) then ((o_1.Muts.length:Int) == 0) else false) then ((o_1.Columns.length:Int) == 0) else false) then (!o_1.Until) else false)
    else
    ((if (o_1.Kind == 9) then
    some true
    else
    some (o_1.Kind == 10):Option Bool)).bind fun s131_32 =>
    if s131_32 then
    some (bif (bif (bif (bif (bif (o_1.Table == []) then ((o_1.Where.length:Int) == 0) else false) then ((o_1.Row.length:Int) == 0) else false) then ((o_1.Muts.length:Int) == 0) else false) then ((o_1.Columns.length:Int) == 0) else false) then (!o_1.Until) else false)
    else
    some false
theorem w_impl_Op_isUnused (o_1:GOp) (r:Bool) (hf:impl_Op_isUnused o_1 = some r):CallOK Tryz.prog 52 .flat [(encGOp o_1)] (.bool r):=by
 refine CallOK.of_awp mixed Tryz.func52 fc52 nle ?_;rw [argT_eq];unfold impl_Op_isUnused at hf;unfold c52;refine (show awp Tryz.prog false 0 _ (ofL [(0,(encGOp o_1))]) [] _ from ?_);refine sr<|s_do (o_box (j:=0) (c:=(.agg [(.int .i64 o_1.Kind),(.str o_1.Table),(.str o_1.Name),(.lst 3 (o_1.Where.map encGCond)),(.lst 3 (o_1.Row.map encGSet)),(.lst 3 (o_1.Muts.map encGMut)),(.lst 1 (o_1.Columns.map AV.str)),(.bool o_1.Until)])) rfl trivial rfl rfl)<|s_mov (.bool false) rfl<|dk<|sr<|s_q (.ptr 0 0 1) rfl trivial rfl<|s_q (.str o_1.Table) rfl nle rfl<|s_q (.bool (o_1.Table == [])) rfl trivial rfl<|s_q (.ptr 0 0 2) rfl trivial rfl<|s_q (.str o_1.Name) rfl nle rfl<|?_
 refine s_q (.bool (o_1.Name == [])) rfl trivial rfl<|s_q (.ptr 0 0 3) rfl trivial rfl<|s_q (.lst 3 (o_1.Where.map encGCond)) rfl nle rfl<|s_dof (o_len (enc:=encGCond) rfl) fun hl2 => s_q (.bool ((o_1.Where.length:Int) == 0)) rfl rfl rfl<|s_q (.ptr 0 0 4) rfl trivial rfl<|s_q (.lst 3 (o_1.Row.map encGSet)) rfl nle rfl<|s_dof (o_len (enc:=encGSet) rfl) fun hl3 => s_q (.bool ((o_1.Row.length:Int) == 0)) rfl rfl rfl<|s_mov (.bool (o_1.Table == [])) rfl<|s_mov (.bool (o_1.Name == [])) rfl<|s_mov (.bool ((o_1.Where.length:Int) == 0)) rfl<|s_mov (.bool ((o_1.Row.length:Int) == 0)) rfl<|dk<|sr<|s_q (.ptr 0 0 5) rfl trivial rfl<|s_q (.lst 3 (o_1.Muts.map encGMut)) rfl nle rfl<|?_
 refine s_dof (o_len (enc:=encGMut) rfl) fun hl4 => s_q (.bool ((o_1.Muts.length:Int) == 0)) rfl rfl rfl<|s_q (.ptr 0 0 6) rfl trivial rfl<|s_q (.lst 1 (o_1.Columns.map AV.str)) rfl nle rfl<|s_dof (o_len (enc:=AV.str) rfl) fun hl5 => s_q (.bool ((o_1.Columns.length:Int) == 0)) rfl rfl rfl<|s_q (.ptr 0 0 7) rfl trivial rfl<|s_q (.bool o_1.Until) rfl nle rfl<|s_q (.bool (!o_1.Until)) rfl trivial rfl<|s_mov (.bool ((o_1.Muts.length:Int) == 0)) rfl<|s_mov (.bool ((o_1.Columns.length:Int) == 0)) rfl<|s_mov (.bool (!o_1.Until)) rfl<|dk<|awp_seq<|sr<|s_q (.ptr 0 0 0) rfl trivial rfl<|s_q (.int .i64 o_1.Kind) rfl nle rfl<|dk<|?_
 refine w_blk<|sr<|s_q (.bool (o_1.Kind == 1)) rfl rfl rfl<|s_mov (.bool (o_1.Kind == 1)) rfl<|dk<|?_
 rcases oi hf with ⟨c6,hf⟩ | ⟨c6,hf⟩
 ·refine w_condt rfl c6<|sr<|?_
  rcases oi hf with ⟨c7,hf⟩ | ⟨c7,hf⟩
  ·rcases oi hf with ⟨c8,hf⟩ | ⟨c8,hf⟩
   ·rcases oi hf with ⟨c9,hf⟩ | ⟨c9,hf⟩
    ·refine s_mov (.bool ((o_1.Where.length:Int) == 0)) rfl<|s_mov (.bool ((o_1.Where.length:Int) == 0)) rfl<|s_lit (s:=40) (b:=true) rfl c7<|s_on rfl<|s_mov (.bool ((o_1.Muts.length:Int) == 0)) rfl<|s_q (.bool ((o_1.Muts.length:Int) == 0)) rfl trivial rfl<|s_mov (.bool ((o_1.Muts.length:Int) == 0)) rfl<|s_lit (s:=43) (b:=true) rfl c8<|s_on rfl<|s_mov (.bool ((o_1.Columns.length:Int) == 0)) rfl<|s_q (.bool ((o_1.Columns.length:Int) == 0)) rfl trivial rfl<|s_mov (.bool ((o_1.Columns.length:Int) == 0)) rfl<|s_lit (s:=46) (b:=true) rfl c9<|s_on rfl<|s_mov (.bool (!o_1.Until)) rfl<|s_q (.bool (!o_1.Until)) rfl trivial rfl<|s_mov (.bool (!o_1.Until)) rfl<|?_
     refine dk<|w_ret<|?_;obtain rfl:=os hf;exact r_flat ⟨trivial,trivial⟩ rfl (.refl _)
    ·refine s_mov (.bool ((o_1.Where.length:Int) == 0)) rfl<|s_mov (.bool ((o_1.Where.length:Int) == 0)) rfl<|s_lit (s:=40) (b:=true) rfl c7<|s_on rfl<|s_mov (.bool ((o_1.Muts.length:Int) == 0)) rfl<|s_q (.bool ((o_1.Muts.length:Int) == 0)) rfl trivial rfl<|s_mov (.bool ((o_1.Muts.length:Int) == 0)) rfl<|s_lit (s:=43) (b:=true) rfl c8<|s_on rfl<|s_mov (.bool ((o_1.Columns.length:Int) == 0)) rfl<|s_q (.bool ((o_1.Columns.length:Int) == 0)) rfl trivial rfl<|s_mov (.bool ((o_1.Columns.length:Int) == 0)) rfl<|s_lit (s:=46) (b:=false) rfl (bf c9)<|s_off rfl rfl<|s_q (.bool false) rfl trivial rfl<|s_mov (.bool false) rfl<|dk<|w_ret<|?_;obtain rfl:=os hf
     exact r_flat ⟨trivial,trivial⟩ rfl (.refl _)
   ·refine s_mov (.bool ((o_1.Where.length:Int) == 0)) rfl<|s_mov (.bool ((o_1.Where.length:Int) == 0)) rfl<|s_lit (s:=40) (b:=true) rfl c7<|s_on rfl<|s_mov (.bool ((o_1.Muts.length:Int) == 0)) rfl<|s_q (.bool ((o_1.Muts.length:Int) == 0)) rfl trivial rfl<|s_mov (.bool ((o_1.Muts.length:Int) == 0)) rfl<|s_lit (s:=43) (b:=false) rfl (bf c8)<|s_off rfl rfl<|s_q (.bool false) rfl trivial rfl<|s_mov (.bool false) rfl<|s_off rfl rfl<|s_q (.bool false) rfl trivial rfl<|s_mov (.bool false) rfl<|dk<|w_ret<|?_;obtain rfl:=os hf;exact r_flat ⟨trivial,trivial⟩ rfl (.refl _)
  ·refine s_mov (.bool ((o_1.Where.length:Int) == 0)) rfl<|s_mov (.bool ((o_1.Where.length:Int) == 0)) rfl<|s_lit (s:=40) (b:=false) rfl (bf c7)<|s_off rfl rfl<|s_q (.bool false) rfl trivial rfl<|s_mov (.bool false) rfl<|s_off rfl rfl<|s_q (.bool false) rfl trivial rfl<|s_mov (.bool false) rfl<|s_off rfl rfl<|s_q (.bool false) rfl trivial rfl<|s_mov (.bool false) rfl<|dk<|w_ret<|?_;obtain rfl:=os hf;exact r_flat ⟨trivial,trivial⟩ rfl (.refl _)
 ·refine w_condf rfl (bf c6)<|sr<|s_q (.bool (o_1.Kind == 2)) rfl rfl rfl<|s_mov (.bool (o_1.Kind == 2)) rfl<|dk<|?_
  rcases oi hf with ⟨c10,hf⟩ | ⟨c10,hf⟩
  ·refine w_condt rfl c10<|sr<|?_
   rcases oi hf with ⟨c11,hf⟩ | ⟨c11,hf⟩
   ·rcases oi hf with ⟨c12,hf⟩ | ⟨c12,hf⟩
    ·rcases oi hf with ⟨c13,hf⟩ | ⟨c13,hf⟩
     ·refine s_mov (.bool (o_1.Name == [])) rfl<|s_mov (.bool (o_1.Name == [])) rfl<|s_lit (s:=52) (b:=true) rfl c11<|s_on rfl<|s_mov (.bool ((o_1.Row.length:Int) == 0)) rfl<|s_q (.bool ((o_1.Row.length:Int) == 0)) rfl trivial rfl<|s_mov (.bool ((o_1.Row.length:Int) == 0)) rfl<|s_lit (s:=55) (b:=true) rfl c12<|s_on rfl<|s_mov (.bool ((o_1.Muts.length:Int) == 0)) rfl<|s_q (.bool ((o_1.Muts.length:Int) == 0)) rfl trivial rfl<|s_mov (.bool ((o_1.Muts.length:Int) == 0)) rfl<|s_lit (s:=58) (b:=true) rfl c13<|s_on rfl<|s_mov (.bool (!o_1.Until)) rfl<|s_q (.bool (!o_1.Until)) rfl trivial rfl<|s_mov (.bool (!o_1.Until)) rfl<|dk<|w_ret<|?_;obtain rfl:=os hf
      exact r_flat ⟨trivial,trivial⟩ rfl (.refl _)
     ·refine s_mov (.bool (o_1.Name == [])) rfl<|s_mov (.bool (o_1.Name == [])) rfl<|s_lit (s:=52) (b:=true) rfl c11<|s_on rfl<|s_mov (.bool ((o_1.Row.length:Int) == 0)) rfl<|s_q (.bool ((o_1.Row.length:Int) == 0)) rfl trivial rfl<|s_mov (.bool ((o_1.Row.length:Int) == 0)) rfl<|s_lit (s:=55) (b:=true) rfl c12<|s_on rfl<|s_mov (.bool ((o_1.Muts.length:Int) == 0)) rfl<|s_q (.bool ((o_1.Muts.length:Int) == 0)) rfl trivial rfl<|s_mov (.bool ((o_1.Muts.length:Int) == 0)) rfl<|s_lit (s:=58) (b:=false) rfl (bf c13)<|s_off rfl rfl<|s_q (.bool false) rfl trivial rfl<|s_mov (.bool false) rfl<|dk<|w_ret<|?_;obtain rfl:=os hf;exact r_flat ⟨trivial,trivial⟩ rfl (.refl _)
    ·refine s_mov (.bool (o_1.Name == [])) rfl<|s_mov (.bool (o_1.Name == [])) rfl<|s_lit (s:=52) (b:=true) rfl c11<|s_on rfl<|s_mov (.bool ((o_1.Row.length:Int) == 0)) rfl<|s_q (.bool ((o_1.Row.length:Int) == 0)) rfl trivial rfl<|s_mov (.bool ((o_1.Row.length:Int) == 0)) rfl<|s_lit (s:=55) (b:=false) rfl (bf c12)<|s_off rfl rfl<|s_q (.bool false) rfl trivial rfl<|s_mov (.bool false) rfl<|s_off rfl rfl<|s_q (.bool false) rfl trivial rfl<|s_mov (.bool false) rfl<|dk<|w_ret<|?_;obtain rfl:=os hf;exact r_flat ⟨trivial,trivial⟩ rfl (.refl _)
   ·refine s_mov (.bool (o_1.Name == [])) rfl<|s_mov (.bool (o_1.Name == [])) rfl<|s_lit (s:=52) (b:=false) rfl (bf c11)<|s_off rfl rfl<|s_q (.bool false) rfl trivial rfl<|s_mov (.bool false) rfl<|s_off rfl rfl<|s_q (.bool false) rfl trivial rfl<|s_mov (.bool false) rfl<|s_off rfl rfl<|s_q (.bool false) rfl trivial rfl<|s_mov (.bool false) rfl<|dk<|w_ret<|?_;obtain rfl:=os hf;exact r_flat ⟨trivial,trivial⟩ rfl (.refl _)
  ·refine w_condf rfl (bf c10)<|sr<|s_q (.bool (o_1.Kind == 3)) rfl rfl rfl<|s_mov (.bool (o_1.Kind == 3)) rfl<|dk<|?_
   rcases oi hf with ⟨c14,hf⟩ | ⟨c14,hf⟩
   ·refine w_condt rfl c14<|sr<|?_
    rcases oi hf with ⟨c15,hf⟩ | ⟨c15,hf⟩
    ·rcases oi hf with ⟨c16,hf⟩ | ⟨c16,hf⟩
     ·rcases oi hf with ⟨c17,hf⟩ | ⟨c17,hf⟩
      ·refine s_mov (.bool (o_1.Name == [])) rfl<|s_mov (.bool (o_1.Name == [])) rfl<|s_lit (s:=64) (b:=true) rfl c15<|s_on rfl<|s_mov (.bool ((o_1.Muts.length:Int) == 0)) rfl<|s_q (.bool ((o_1.Muts.length:Int) == 0)) rfl trivial rfl<|s_mov (.bool ((o_1.Muts.length:Int) == 0)) rfl<|s_lit (s:=67) (b:=true) rfl c16<|s_on rfl<|s_mov (.bool ((o_1.Columns.length:Int) == 0)) rfl<|s_q (.bool ((o_1.Columns.length:Int) == 0)) rfl trivial rfl<|s_mov (.bool ((o_1.Columns.length:Int) == 0)) rfl<|s_lit (s:=70) (b:=true) rfl c17<|s_on rfl<|s_mov (.bool (!o_1.Until)) rfl<|s_q (.bool (!o_1.Until)) rfl trivial rfl<|s_mov (.bool (!o_1.Until)) rfl<|dk<|w_ret<|?_
       obtain rfl:=os hf;exact r_flat ⟨trivial,trivial⟩ rfl (.refl _)
      ·refine s_mov (.bool (o_1.Name == [])) rfl<|s_mov (.bool (o_1.Name == [])) rfl<|s_lit (s:=64) (b:=true) rfl c15<|s_on rfl<|s_mov (.bool ((o_1.Muts.length:Int) == 0)) rfl<|s_q (.bool ((o_1.Muts.length:Int) == 0)) rfl trivial rfl<|s_mov (.bool ((o_1.Muts.length:Int) == 0)) rfl<|s_lit (s:=67) (b:=true) rfl c16<|s_on rfl<|s_mov (.bool ((o_1.Columns.length:Int) == 0)) rfl<|s_q (.bool ((o_1.Columns.length:Int) == 0)) rfl trivial rfl<|s_mov (.bool ((o_1.Columns.length:Int) == 0)) rfl<|s_lit (s:=70) (b:=false) rfl (bf c17)<|s_off rfl rfl<|s_q (.bool false) rfl trivial rfl<|s_mov (.bool false) rfl<|dk<|w_ret<|?_;obtain rfl:=os hf;exact r_flat ⟨trivial,trivial⟩ rfl (.refl _)
     ·refine s_mov (.bool (o_1.Name == [])) rfl<|s_mov (.bool (o_1.Name == [])) rfl<|s_lit (s:=64) (b:=true) rfl c15<|s_on rfl<|s_mov (.bool ((o_1.Muts.length:Int) == 0)) rfl<|s_q (.bool ((o_1.Muts.length:Int) == 0)) rfl trivial rfl<|s_mov (.bool ((o_1.Muts.length:Int) == 0)) rfl<|s_lit (s:=67) (b:=false) rfl (bf c16)<|s_off rfl rfl<|s_q (.bool false) rfl trivial rfl<|s_mov (.bool false) rfl<|s_off rfl rfl<|s_q (.bool false) rfl trivial rfl<|s_mov (.bool false) rfl<|dk<|w_ret<|?_;obtain rfl:=os hf;exact r_flat ⟨trivial,trivial⟩ rfl (.refl _)
    ·refine s_mov (.bool (o_1.Name == [])) rfl<|s_mov (.bool (o_1.Name == [])) rfl<|s_lit (s:=64) (b:=false) rfl (bf c15)<|s_off rfl rfl<|s_q (.bool false) rfl trivial rfl<|s_mov (.bool false) rfl<|s_off rfl rfl<|s_q (.bool false) rfl trivial rfl<|s_mov (.bool false) rfl<|s_off rfl rfl<|s_q (.bool false) rfl trivial rfl<|s_mov (.bool false) rfl<|dk<|w_ret<|?_;obtain rfl:=os hf;exact r_flat ⟨trivial,trivial⟩ rfl (.refl _)
   ·refine w_condf rfl (bf c14)<|sr<|s_q (.bool (o_1.Kind == 4)) rfl rfl rfl<|s_mov (.bool (o_1.Kind == 4)) rfl<|dk<|?_
    rcases oi hf with ⟨c18,hf⟩ | ⟨c18,hf⟩
    ·refine w_condt rfl c18<|sr<|?_
     rcases oi hf with ⟨c19,hf⟩ | ⟨c19,hf⟩
     ·rcases oi hf with ⟨c20,hf⟩ | ⟨c20,hf⟩
      ·rcases oi hf with ⟨c21,hf⟩ | ⟨c21,hf⟩
       ·refine s_mov (.bool (o_1.Name == [])) rfl<|s_mov (.bool (o_1.Name == [])) rfl<|s_lit (s:=76) (b:=true) rfl c19<|s_on rfl<|s_mov (.bool ((o_1.Row.length:Int) == 0)) rfl<|s_q (.bool ((o_1.Row.length:Int) == 0)) rfl trivial rfl<|s_mov (.bool ((o_1.Row.length:Int) == 0)) rfl<|s_lit (s:=79) (b:=true) rfl c20<|s_on rfl<|s_mov (.bool ((o_1.Columns.length:Int) == 0)) rfl<|s_q (.bool ((o_1.Columns.length:Int) == 0)) rfl trivial rfl<|s_mov (.bool ((o_1.Columns.length:Int) == 0)) rfl<|s_lit (s:=82) (b:=true) rfl c21<|s_on rfl<|s_mov (.bool (!o_1.Until)) rfl<|s_q (.bool (!o_1.Until)) rfl trivial rfl<|s_mov (.bool (!o_1.Until)) rfl<|dk<|w_ret<|?_
        obtain rfl:=os hf;exact r_flat ⟨trivial,trivial⟩ rfl (.refl _)
       ·refine s_mov (.bool (o_1.Name == [])) rfl<|s_mov (.bool (o_1.Name == [])) rfl<|s_lit (s:=76) (b:=true) rfl c19<|s_on rfl<|s_mov (.bool ((o_1.Row.length:Int) == 0)) rfl<|s_q (.bool ((o_1.Row.length:Int) == 0)) rfl trivial rfl<|s_mov (.bool ((o_1.Row.length:Int) == 0)) rfl<|s_lit (s:=79) (b:=true) rfl c20<|s_on rfl<|s_mov (.bool ((o_1.Columns.length:Int) == 0)) rfl<|s_q (.bool ((o_1.Columns.length:Int) == 0)) rfl trivial rfl<|s_mov (.bool ((o_1.Columns.length:Int) == 0)) rfl<|s_lit (s:=82) (b:=false) rfl (bf c21)<|s_off rfl rfl<|s_q (.bool false) rfl trivial rfl<|s_mov (.bool false) rfl<|dk<|w_ret<|?_;obtain rfl:=os hf;exact r_flat ⟨trivial,trivial⟩ rfl (.refl _)
      ·refine s_mov (.bool (o_1.Name == [])) rfl<|s_mov (.bool (o_1.Name == [])) rfl<|s_lit (s:=76) (b:=true) rfl c19<|s_on rfl<|s_mov (.bool ((o_1.Row.length:Int) == 0)) rfl<|s_q (.bool ((o_1.Row.length:Int) == 0)) rfl trivial rfl<|s_mov (.bool ((o_1.Row.length:Int) == 0)) rfl<|s_lit (s:=79) (b:=false) rfl (bf c20)<|s_off rfl rfl<|s_q (.bool false) rfl trivial rfl<|s_mov (.bool false) rfl<|s_off rfl rfl<|s_q (.bool false) rfl trivial rfl<|s_mov (.bool false) rfl<|dk<|w_ret<|?_;obtain rfl:=os hf;exact r_flat ⟨trivial,trivial⟩ rfl (.refl _)
     ·refine s_mov (.bool (o_1.Name == [])) rfl<|s_mov (.bool (o_1.Name == [])) rfl<|s_lit (s:=76) (b:=false) rfl (bf c19)<|s_off rfl rfl<|s_q (.bool false) rfl trivial rfl<|s_mov (.bool false) rfl<|s_off rfl rfl<|s_q (.bool false) rfl trivial rfl<|s_mov (.bool false) rfl<|s_off rfl rfl<|s_q (.bool false) rfl trivial rfl<|s_mov (.bool false) rfl<|dk<|w_ret<|?_;obtain rfl:=os hf;exact r_flat ⟨trivial,trivial⟩ rfl (.refl _)
    ·refine w_condf rfl (bf c18)<|sr<|s_q (.bool (o_1.Kind == 5)) rfl rfl rfl<|s_mov (.bool (o_1.Kind == 5)) rfl<|dk<|?_
     rcases oi hf with ⟨c22,hf⟩ | ⟨c22,hf⟩
     ·refine w_condt rfl c22<|sr<|s_mov (.bool (o_1.Name == [])) rfl<|s_mov (.bool (o_1.Name == [])) rfl<|?_;refine s_g (v:=(o_1.Name == [])) (.bool ((o_1.Row.length:Int) == 0)) rfl (fun hv => by (try simp only [gs_on hv]);exact ⟨rfl,trivial,rfl⟩) ?_;refine s_pick (x:=((o_1.Row.length:Int) == 0)) (y:=false) rfl (fun hv => by (try simp only [gs_on hv]);rfl) (fun hv => by (try simp only [gs_on hv]);rfl) ?_;refine s_mov (.bool (bif (o_1.Name == []) then ((o_1.Row.length:Int) == 0) else false)) rfl ?_;refine s_g (v:=(bif (o_1.Name == []) then ((o_1.Row.length:Int) == 0) else false)) (.bool ((o_1.Muts.length:Int) == 0)) rfl (fun hv => by (try simp only [gs_on hv]);exact ⟨rfl,trivial,rfl⟩) ?_
      refine s_pick (x:=((o_1.Muts.length:Int) == 0)) (y:=false) rfl (fun hv => by (try simp only [gs_on hv]);rfl) (fun hv => by (try simp only [gs_on hv]);rfl) ?_;refine s_mov (.bool (bif (bif (o_1.Name == []) then ((o_1.Row.length:Int) == 0) else false) then ((o_1.Muts.length:Int) == 0) else false)) rfl ?_;refine s_g (v:=(bif (bif (o_1.Name == []) then ((o_1.Row.length:Int) == 0) else false) then ((o_1.Muts.length:Int) == 0) else false)) (.bool ((o_1.Columns.length:Int) == 0)) rfl (fun hv => by (try simp only [gs_on hv]);exact ⟨rfl,trivial,rfl⟩) ?_;refine s_pick (x:=((o_1.Columns.length:Int) == 0)) (y:=false) rfl (fun hv => by (try simp only [gs_on hv]);rfl) (fun hv => by (try simp only [gs_on hv]);rfl) ?_
      refine s_mov (.bool (bif (bif (bif (o_1.Name == []) then ((o_1.Row.length:Int) == 0) else false) then ((o_1.Muts.length:Int) == 0) else false) then ((o_1.Columns.length:Int) == 0) else false)) rfl ?_;refine s_g (v:=(bif (bif (bif (o_1.Name == []) then ((o_1.Row.length:Int) == 0) else false) then ((o_1.Muts.length:Int) == 0) else false) then ((o_1.Columns.length:Int) == 0) else false)) (.bool (!o_1.Until)) rfl (fun hv => by (try simp only [gs_on hv]);exact ⟨rfl,trivial,rfl⟩) ?_;refine s_pick (x:=(!o_1.Until)) (y:=false) rfl (fun hv => by (try simp only [gs_on hv]);rfl) (fun hv => by (try simp only [gs_on hv]);rfl) ?_;refine s_mov (.bool (bif (bif (bif (bif (o_1.Name == []) then ((o_1.Row.length:Int) == 0) else false) then ((o_1.Muts.length:Int) == 0) else false) then ((o_1.Columns.length:Int) == 0) else false) then (!o_1.Until) else false)) rfl ?_
      refine dk<|w_ret<|?_;obtain rfl:=os hf;exact r_flat ⟨trivial,trivial⟩ rfl (.refl _)
     ·refine w_condf rfl (bf c22)<|sr<|s_q (.bool (o_1.Kind == 6)) rfl rfl rfl<|s_mov (.bool (o_1.Kind == 6)) rfl<|dk<|?_
      rcases oi hf with ⟨c23,hf⟩ | ⟨c23,hf⟩
      ·refine w_condt rfl c23<|sr<|?_
       rcases oi hf with ⟨c24,hf⟩ | ⟨c24,hf⟩
       ·rcases oi hf with ⟨c25,hf⟩ | ⟨c25,hf⟩
        ·refine s_mov (.bool (o_1.Name == [])) rfl<|s_mov (.bool (o_1.Name == [])) rfl<|s_lit (s:=103) (b:=true) rfl c24<|s_on rfl<|s_mov (.bool ((o_1.Muts.length:Int) == 0)) rfl<|s_q (.bool ((o_1.Muts.length:Int) == 0)) rfl trivial rfl<|s_mov (.bool ((o_1.Muts.length:Int) == 0)) rfl<|s_lit (s:=106) (b:=true) rfl c25<|s_on rfl<|s_mov (.bool ((o_1.Columns.length:Int) == 0)) rfl<|s_q (.bool ((o_1.Columns.length:Int) == 0)) rfl trivial rfl<|s_mov (.bool ((o_1.Columns.length:Int) == 0)) rfl<|dk<|w_ret<|?_;obtain rfl:=os hf;exact r_flat ⟨trivial,trivial⟩ rfl (.refl _)
        ·refine s_mov (.bool (o_1.Name == [])) rfl<|s_mov (.bool (o_1.Name == [])) rfl<|s_lit (s:=103) (b:=true) rfl c24<|s_on rfl<|s_mov (.bool ((o_1.Muts.length:Int) == 0)) rfl<|s_q (.bool ((o_1.Muts.length:Int) == 0)) rfl trivial rfl<|s_mov (.bool ((o_1.Muts.length:Int) == 0)) rfl<|s_lit (s:=106) (b:=false) rfl (bf c25)<|s_off rfl rfl<|s_q (.bool false) rfl trivial rfl<|s_mov (.bool false) rfl<|dk<|w_ret<|?_;obtain rfl:=os hf;exact r_flat ⟨trivial,trivial⟩ rfl (.refl _)
       ·refine s_mov (.bool (o_1.Name == [])) rfl<|s_mov (.bool (o_1.Name == [])) rfl<|s_lit (s:=103) (b:=false) rfl (bf c24)<|s_off rfl rfl<|s_q (.bool false) rfl trivial rfl<|s_mov (.bool false) rfl<|s_off rfl rfl<|s_q (.bool false) rfl trivial rfl<|s_mov (.bool false) rfl<|dk<|w_ret<|?_;obtain rfl:=os hf;exact r_flat ⟨trivial,trivial⟩ rfl (.refl _)
      ·refine w_condf rfl (bf c23)<|awp_seq<|?_
       obtain ⟨s109_27,hb1,hf⟩:=ob hf
       refine awp_cut ([(3,(.bool (o_1.Table == []))),(4,(.bool (o_1.Name == []))),(5,(.bool ((o_1.Where.length:Int) == 0))),(6,(.bool ((o_1.Row.length:Int) == 0))),(7,(.bool ((o_1.Muts.length:Int) == 0))),(8,(.bool ((o_1.Columns.length:Int) == 0))),(9,(.bool (!o_1.Until))),(36,(.int .i64 o_1.Kind)),(109,(.bool s109_27))],[]) ?_ ?_
       ·refine sr<|s_q (.bool (o_1.Kind == 7)) rfl rfl rfl<|s_mov (.bool (o_1.Kind == 7)) rfl<|dk<|?_
        rcases oi hb1 with ⟨c29,hb1⟩ | ⟨c29,hb1⟩
        ·refine w_condt rfl c29<|w_skip<|?_;obtain rfl:=os hb1;exact ⟨[],[],_,_,rfl,rfl,⟨.refl _,⟨.refl _,⟨.refl _,⟨.refl _,⟨.refl _,⟨.refl _,⟨.refl _,⟨.refl _,⟨.refl _,trivial⟩⟩⟩⟩⟩⟩⟩⟩⟩,(.refl _)⟩
        ·refine w_condf rfl (bf c29)<|w_reg<|s_q (.bool (o_1.Kind == 8)) rfl rfl rfl<|s_mov (.bool (o_1.Kind == 8)) rfl<|w_done<|?_;obtain rfl:=os hb1;exact ⟨[],[],_,_,rfl,rfl,⟨.refl _,⟨.refl _,⟨.refl _,⟨.refl _,⟨.refl _,⟨.refl _,⟨.refl _,⟨.refl _,⟨.refl _,trivial⟩⟩⟩⟩⟩⟩⟩⟩⟩,(.refl _)⟩
       ·rcases oi hf with ⟨c30,hf⟩ | ⟨c30,hf⟩
        ·refine w_condt rfl c30<|sr<|s_mov (.bool (o_1.Table == [])) rfl<|s_mov (.bool (o_1.Table == [])) rfl<|?_;refine s_g (v:=(o_1.Table == [])) (.bool (o_1.Name == [])) rfl (fun hv => by (try simp only [gs_on hv]);exact ⟨rfl,trivial,rfl⟩) ?_;refine s_pick (x:=(o_1.Name == [])) (y:=false) rfl (fun hv => by (try simp only [gs_on hv]);rfl) (fun hv => by (try simp only [gs_on hv]);rfl) ?_;refine s_mov (.bool (bif (o_1.Table == []) then (o_1.Name == []) else false)) rfl ?_;refine s_g (v:=(bif (o_1.Table == []) then (o_1.Name == []) else false)) (.bool ((o_1.Where.length:Int) == 0)) rfl (fun hv => by (try simp only [gs_on hv]);exact ⟨rfl,trivial,rfl⟩) ?_;refine s_pick (x:=((o_1.Where.length:Int) == 0)) (y:=false) rfl (fun hv => by (try simp only [gs_on hv]);rfl) (fun hv => by (try simp only [gs_on hv]);rfl) ?_
         refine s_mov (.bool (bif (bif (o_1.Table == []) then (o_1.Name == []) else false) then ((o_1.Where.length:Int) == 0) else false)) rfl ?_;refine s_g (v:=(bif (bif (o_1.Table == []) then (o_1.Name == []) else false) then ((o_1.Where.length:Int) == 0) else false)) (.bool ((o_1.Row.length:Int) == 0)) rfl (fun hv => by (try simp only [gs_on hv]);exact ⟨rfl,trivial,rfl⟩) ?_;refine s_pick (x:=((o_1.Row.length:Int) == 0)) (y:=false) rfl (fun hv => by (try simp only [gs_on hv]);rfl) (fun hv => by (try simp only [gs_on hv]);rfl) ?_;refine s_mov (.bool (bif (bif (bif (o_1.Table == []) then (o_1.Name == []) else false) then ((o_1.Where.length:Int) == 0) else false) then ((o_1.Row.length:Int) == 0) else false)) rfl ?_
         refine s_g (v:=(bif (bif (bif (o_1.Table == []) then (o_1.Name == []) else false) then ((o_1.Where.length:Int) == 0) else false) then ((o_1.Row.length:Int) == 0) else false)) (.bool ((o_1.Muts.length:Int) == 0)) rfl (fun hv => by (try simp only [gs_on hv]);exact ⟨rfl,trivial,rfl⟩) ?_;refine s_pick (x:=((o_1.Muts.length:Int) == 0)) (y:=false) rfl (fun hv => by (try simp only [gs_on hv]);rfl) (fun hv => by (try simp only [gs_on hv]);rfl) ?_;refine s_mov (.bool (bif (bif (bif (bif (o_1.Table == []) then (o_1.Name == []) else false) then ((o_1.Where.length:Int) == 0) else false) then ((o_1.Row.length:Int) == 0) else false) then ((o_1.Muts.length:Int) == 0) else false)) rfl ?_;refine s_g (v:=(bif (bif (bif (bif (o_1.Table == []) then (o_1.Name == []) else false) then ((o_1.Where.length:Int) == 0) else false) then ((o_1.Row.length:Int) == 0) else false) then ((o_1.Muts.length:Int) == 0) else false)) (.bool ((o_1.Columns.length:Int) == 0)) rfl (fun hv => by (try simp only [gs_on hv]);exact ⟨rfl,trivial,rfl⟩) ?_
         refine s_pick (x:=((o_1.Columns.length:Int) == 0)) (y:=false) rfl (fun hv => by (try simp only [gs_on hv]);rfl) (fun hv => by (try simp only [gs_on hv]);rfl) ?_;refine s_mov (.bool (bif (bif (bif (bif (bif (o_1.Table == []) then (o_1.Name == []) else false) then ((o_1.Where.length:Int) == 0) else false) then ((o_1.Row.length:Int) == 0) else false) then ((o_1.Muts.length:Int) == 0) else false) then ((o_1.Columns.length:Int) == 0) else false)) rfl ?_;refine s_g (v:=(bif (bif (bif (bif (bif (o_1.Table == []) then (o_1.Name == []) else false) then ((o_1.Where.length:Int) == 0) else false) then ((o_1.Row.length:Int) == 0) else false) then ((o_1.Muts.length:Int) == 0) else false) then ((o_1.Columns.length:Int) == 0) else false)) (.bool (!o_1.Until)) rfl (fun hv => by (try simp only [gs_on hv]);exact ⟨rfl,trivial,rfl⟩) ?_
         refine s_pick (x:=(!o_1.Until)) (y:=false) rfl (fun hv => by (try simp only [gs_on hv]);rfl) (fun hv => by (try simp only [gs_on hv]);rfl) ?_;refine s_mov (.bool (bif (bif (bif (bif (bif (bif (o_1.Table == []) then (o_1.Name == []) else false) then ((o_1.Where.length:Int) == 0) else false) then ((o_1.Row.length:Int) == 0) else false) then ((o_1.Muts.length:Int) == 0) else false) then ((o_1.Columns.length:Int) == 0) else false) then (!o_1.Until) else false)) rfl<|dk<|w_ret<|?_;obtain rfl:=os hf;exact r_flat ⟨trivial,trivial⟩ rfl (.refl _)
        ·refine w_condf rfl (bf c30)<|awp_seq<|?_
         obtain ⟨s131_32,hb1,hf⟩:=ob hf
         refine awp_cut ([(3,(.bool (o_1.Table == []))),(5,(.bool ((o_1.Where.length:Int) == 0))),(6,(.bool ((o_1.Row.length:Int) == 0))),(7,(.bool ((o_1.Muts.length:Int) == 0))),(8,(.bool ((o_1.Columns.length:Int) == 0))),(9,(.bool (!o_1.Until))),(131,(.bool s131_32))],[]) ?_ ?_
         ·refine sr<|s_q (.bool (o_1.Kind == 9)) rfl rfl rfl<|s_mov (.bool (o_1.Kind == 9)) rfl<|dk<|?_
          rcases oi hb1 with ⟨c34,hb1⟩ | ⟨c34,hb1⟩
          ·refine w_condt rfl c34<|w_skip<|?_;obtain rfl:=os hb1;exact ⟨[],[],_,_,rfl,rfl,⟨.refl _,⟨.refl _,⟨.refl _,⟨.refl _,⟨.refl _,⟨.refl _,⟨.refl _,trivial⟩⟩⟩⟩⟩⟩⟩,(.refl _)⟩
          ·refine w_condf rfl (bf c34)<|w_reg<|s_q (.bool (o_1.Kind == 10)) rfl rfl rfl<|s_mov (.bool (o_1.Kind == 10)) rfl<|w_done<|?_;obtain rfl:=os hb1;exact ⟨[],[],_,_,rfl,rfl,⟨.refl _,⟨.refl _,⟨.refl _,⟨.refl _,⟨.refl _,⟨.refl _,⟨.refl _,trivial⟩⟩⟩⟩⟩⟩⟩,(.refl _)⟩
         ·rcases oi hf with ⟨c35,hf⟩ | ⟨c35,hf⟩
          ·refine w_condt rfl c35<|sr<|s_mov (.bool (o_1.Table == [])) rfl<|s_mov (.bool (o_1.Table == [])) rfl<|?_;refine s_g (v:=(o_1.Table == [])) (.bool ((o_1.Where.length:Int) == 0)) rfl (fun hv => by (try simp only [gs_on hv]);exact ⟨rfl,trivial,rfl⟩) ?_;refine s_pick (x:=((o_1.Where.length:Int) == 0)) (y:=false) rfl (fun hv => by (try simp only [gs_on hv]);rfl) (fun hv => by (try simp only [gs_on hv]);rfl) ?_;refine s_mov (.bool (bif (o_1.Table == []) then ((o_1.Where.length:Int) == 0) else false)) rfl ?_;refine s_g (v:=(bif (o_1.Table == []) then ((o_1.Where.length:Int) == 0) else false)) (.bool ((o_1.Row.length:Int) == 0)) rfl (fun hv => by (try simp only [gs_on hv]);exact ⟨rfl,trivial,rfl⟩) ?_
           refine s_pick (x:=((o_1.Row.length:Int) == 0)) (y:=false) rfl (fun hv => by (try simp only [gs_on hv]);rfl) (fun hv => by (try simp only [gs_on hv]);rfl) ?_;refine s_mov (.bool (bif (bif (o_1.Table == []) then ((o_1.Where.length:Int) == 0) else false) then ((o_1.Row.length:Int) == 0) else false)) rfl ?_;refine s_g (v:=(bif (bif (o_1.Table == []) then ((o_1.Where.length:Int) == 0) else false) then ((o_1.Row.length:Int) == 0) else false)) (.bool ((o_1.Muts.length:Int) == 0)) rfl (fun hv => by (try simp only [gs_on hv]);exact ⟨rfl,trivial,rfl⟩) ?_;refine s_pick (x:=((o_1.Muts.length:Int) == 0)) (y:=false) rfl (fun hv => by (try simp only [gs_on hv]);rfl) (fun hv => by (try simp only [gs_on hv]);rfl) ?_
           refine s_mov (.bool (bif (bif (bif (o_1.Table == []) then ((o_1.Where.length:Int) == 0) else false) then ((o_1.Row.length:Int) == 0) else false) then ((o_1.Muts.length:Int) == 0) else false)) rfl ?_;refine s_g (v:=(bif (bif (bif (o_1.Table == []) then ((o_1.Where.length:Int) == 0) else false) then ((o_1.Row.length:Int) == 0) else false) then ((o_1.Muts.length:Int) == 0) else false)) (.bool ((o_1.Columns.length:Int) == 0)) rfl (fun hv => by (try simp only [gs_on hv]);exact ⟨rfl,trivial,rfl⟩) ?_;refine s_pick (x:=((o_1.Columns.length:Int) == 0)) (y:=false) rfl (fun hv => by (try simp only [gs_on hv]);rfl) (fun hv => by (try simp only [gs_on hv]);rfl) ?_;refine s_mov (.bool (bif (bif (bif (bif (o_1.Table == []) then ((o_1.Where.length:Int) == 0) else false) then ((o_1.Row.length:Int) == 0) else false) then ((o_1.Muts.length:Int) == 0) else false) then ((o_1.Columns.length:Int) == 0) else false)) rfl ?_
           refine s_g (v:=(bif (bif (bif (bif (o_1.Table == []) then ((o_1.Where.length:Int) == 0) else false) then ((o_1.Row.length:Int) == 0) else false) then ((o_1.Muts.length:Int) == 0) else false) then ((o_1.Columns.length:Int) == 0) else false)) (.bool (!o_1.Until)) rfl (fun hv => by (try simp only [gs_on hv]);exact ⟨rfl,trivial,rfl⟩) ?_;refine s_pick (x:=(!o_1.Until)) (y:=false) rfl (fun hv => by (try simp only [gs_on hv]);rfl) (fun hv => by (try simp only [gs_on hv]);rfl) ?_;refine s_mov (.bool (bif (bif (bif (bif (bif (o_1.Table == []) then ((o_1.Where.length:Int) == 0) else false) then ((o_1.Row.length:Int) == 0) else false) then ((o_1.Muts.length:Int) == 0) else false) then ((o_1.Columns.length:Int) == 0) else false) then (!o_1.Until) else false)) rfl ?_
           refine dk<|w_ret<|?_;obtain rfl:=os hf;exact r_flat ⟨trivial,trivial⟩ rfl (.refl _)
          ·refine w_condf rfl (bf c35)<|w_skip<|k_blk<|k_seq<|sr<|s_mov (.bool false) rfl<|dk<|w_ret<|?_;obtain rfl:=os hf;exact r_flat ⟨trivial,trivial⟩ rfl (.refl _)

/- slices.IndexFunc[[]string,string] -/
def c144:ACode :=
 (.seq (.reg (tm 4 (.c (.int .i64 0)) .done))
 (.seq (.seq (.reg (tm 6 (.t 0) (tq 7 (.len (.t 6)) (tm 8 (.c (.int .i64 0)) .done))))
 (.block 0 (.loop (.seq (.reg (tq 9 (.bin .lss (.t 8) (.t 7)) .done))
 (.seq (.cond (.t 9) .skip
 (.exit 0))
 (.seq (.block 1 (.seq (.reg (tm 10 (.t 8) (tm 5 (.t 10) .done)))
 (.seq (.reg (tm 11 (.t 1) (tm 12 (.t 0) (tm 13 (.t 5) (tq 14 (.iaddr 1 (.t 12) (.t 13)) (tq 15 (.load 1 false (.t 14)) (tq 16 (.calv (.t 11) [(.t 15)]) .done)))))))
 (.cond (.t 16) (.seq (.reg (tm 17 (.t 5) (tm 4 (.t 17) .done)))
 .ret)
 .skip))))
 (.reg (tq 18 (.bin .add (.t 8) (.c (.int .i64 1))) (tm 8 (.t 18) .done)))))))))
 (.cut (.seq (.reg (tq 4 (.mov (.c (.int .i64 (-1)))) .done))
 .ret))))
theorem fc144:fcomp Tryz.prog Tryz.f144 = some (c144.erase,[.mov (.t 4)],19):=by kernel_rfl
def slices_IndexFunc_string_string_L1 (f_2:(Str → Option Bool)):List Str → Nat → Option (Fl Int Unit)
  | [],s8_17 =>
    some (.go ())
  | x_31 :: xs,s8_17 =>
    (f_2 x_31).bind fun r_32 =>
    if r_32 then
    some (.ret (s8_17:Int))
    else
    slices_IndexFunc_string_string_L1 f_2 xs (s8_17 + 1)

def slices_IndexFunc_string_string (s_1:(List Str)) (f_2:(Str → Option Bool)):Option Int :=
    (slices_IndexFunc_string_string_L1 f_2 s_1 0).bind fun q => (match q with
    | .ret r => some r
    | .go _ =>
    some (-1))
theorem w_slices_IndexFunc_string_string (s_1:(List Str)) (f_2:(Str → Option Bool)) (r:Int) (hf:slices_IndexFunc_string_string s_1 f_2 = some r) (kf_f_2:Nat) (cf_f_2:List AV) (okf_f_2:okFn Tryz.prog kf_f_2 = true) (hcf_f_2:∀ h p,closeWs h p cf_f_2 = some cf_f_2) (hrf_f_2:∀ f,rens f cf_f_2 = cf_f_2) (hpf_f_2:∀ a0 r,f_2 a0 = some r → CallOK Tryz.prog kf_f_2 .flat ([(.str a0)] ++ cf_f_2) (.bool r)):CallOK Tryz.prog 144 .flat [(.lst 1 (s_1.map AV.str)),(.fn kf_f_2 cf_f_2)] (.int .i64 r):=by
 refine CallOK.of_awp mixed Tryz.func144 fc144 nle ?_;rw [argT_eq];unfold slices_IndexFunc_string_string at hf;unfold c144;refine (show awp Tryz.prog false 0 _ (ofL [(0,(.lst 1 (s_1.map AV.str))),(1,(.fn kf_f_2 cf_f_2))]) [] _ from ?_);refine sr<|s_mov (.int .i64 0) rfl<|dk<|awp_seq<|sr<|s_mov (.lst 1 (s_1.map AV.str)) rfl<|s_dof (o_len (enc:=AV.str) rfl) fun hl3 => s_mov (.int .i64 0) rfl<|dk<|?_
 obtain ⟨p24,hb1,hf⟩:=ob hf
 refine awp_cutx (X:={q:Unit // p24 = .go q}) (fun q => ([],[])) ?_ ?_
 ·refine awp_loop (X:={q:Nat // slices_IndexFunc_string_string_L1 f_2 (s_1.drop q) q = some p24}) (fun q => ([(0,(.lst 1 (s_1.map AV.str))),(1,(.fn kf_f_2 cf_f_2)),(7,(.int .i64 (s_1.length:Int))),(8,(.int .i64 (q.1:Int)))],[])) (fun q => s_1.length - q.1) ⟨0,hb1⟩ ⟨[],[],_,_,rfl,rfl,⟨.refl _,⟨.of_eq (congrArg (AV.fn _) (hrf_f_2 _)),⟨.refl _,⟨.refl _,trivial⟩⟩⟩⟩,(.refl _)⟩ ?_
  rintro ⟨s8_17,hc1⟩
  have hc1:slices_IndexFunc_string_string_L1 f_2 (s_1.drop s8_17) s8_17 = some p24:=hc1
  refine (show awp Tryz.prog false 0 _ (ofL [(0,(.lst 1 (s_1.map AV.str))),(1,(.fn kf_f_2 cf_f_2)),(7,(.int .i64 (s_1.length:Int))),(8,(.int .i64 (s8_17:Int)))]) [] _ from ?_)
  rcases dropc s_1 s8_17 with ⟨hie27,hd30⟩ | ⟨hlt25,x_31,hx26,hd30⟩
  ·rw [hd30,slices_IndexFunc_string_string_L1.eq_1] at hc1
   have hq29:=dlf hie27
   refine sr<|s_q (.bool (decide ((s8_17:Int) < (s_1.length:Int)))) rfl rfl rfl<|dk<|awp_seq<|w_condf rfl hq29<|w_exit<|k_seqx<|k_loopx<|k_blkx<|?_;obtain rfl:=os hc1;exact k_cutn ⟨_,rfl⟩ ⟨[],[],_,_,rfl,rfl,trivial,(.refl _)⟩
  ·rw [hd30,slices_IndexFunc_string_string_L1.eq_2] at hc1
   have hq29:=dlt hlt25
   refine sr<|s_q (.bool (decide ((s8_17:Int) < (s_1.length:Int)))) rfl rfl rfl<|dk<|awp_seq<|w_condt rfl hq29<|w_skip<|k_seq<|awp_seq<|w_blk<|sr<|s_mov (.int .i64 (s8_17:Int)) rfl<|s_mov (.int .i64 (s8_17:Int)) rfl<|dk<|sr<|?_
   obtain ⟨r_32,er33,hc1⟩:=ob hc1
   refine s_mov (.fn kf_f_2 cf_f_2) rfl<|s_mov (.lst 1 (s_1.map AV.str)) rfl<|s_mov (.int .i64 (s8_17:Int)) rfl<|s_do (o_iaddrn (enc:=AV.str) rfl rfl hx26)<|s_q (.str x_31) rfl ⟨rfl,rfl⟩ rfl<|s_do (o_calvp (v:=(.bool r_32)) rfl okf_f_2 hcf_f_2 (hpf_f_2 _ _ er33) rfl (.refl _) rfl)<|dk<|?_
   rcases oi hc1 with ⟨c34,hc1⟩ | ⟨c34,hc1⟩
   ·refine w_condt rfl c34<|sr<|s_mov (.int .i64 (s8_17:Int)) rfl<|s_mov (.int .i64 (s8_17:Int)) rfl<|dk<|w_ret<|?_;obtain rfl:=os hc1;obtain rfl:=os hf;exact r_flat ⟨trivial,trivial⟩ rfl (.refl _)
   ·refine w_condf rfl (bf c34)<|w_skip<|k_blk<|k_seq<|w_reg<|s_q (.int .i64 (w64 ((s8_17:Int) + 1))) rfl rfl rfl<|s_mov (.int .i64 (w64 ((s8_17:Int) + 1))) rfl<|w_done<|?_;exact k_loopn ⟨(s8_17 + 1),hc1⟩ (mul hlt25) ⟨[],[],_,_,rfl,rfl,⟨.refl _,⟨.of_eq (congrArg (AV.fn _) (hrf_f_2 _)),⟨.refl _,⟨.of_eq (congrArg (AV.int _) (w64_incr hlt25 hl3)),trivial⟩⟩⟩⟩,(.refl _)⟩
 ·rintro ⟨_,rfl⟩
  refine sr<|s_mov (.int .i64 (-1)) rfl<|dk<|w_ret<|?_;obtain rfl:=os hf;exact r_flat ⟨trivial,trivial⟩ rfl (.refl _)

/- slices.ContainsFunc[[]string,string] -/
def c58:ACode :=
 (.seq (.reg (tm 4 (.c (.bool false)) .done))
 (.seq (.reg (tm 5 (.t 0) (tm 6 (.t 1) (tq 7 (.call 144 [(.t 5),(.t 6)]) (tq 8 (.bin .geq (.t 7) (.c (.int .i64 0))) (tm 4 (.t 8) .done))))))
 .ret))
theorem fc58:fcomp Tryz.prog Tryz.f58 = some (c58.erase,[.mov (.t 4)],9):=by kernel_rfl
def slices_ContainsFunc_string_string (s_1:(List Str)) (f_2:(Str → Option Bool)):Option Bool :=
    (slices_IndexFunc_string_string s_1 f_2).bind fun r_3 =>
    some (decide (r_3 ≥ 0))
theorem w_slices_ContainsFunc_string_string (s_1:(List Str)) (f_2:(Str → Option Bool)) (r:Bool) (hf:slices_ContainsFunc_string_string s_1 f_2 = some r) (kf_f_2:Nat) (cf_f_2:List AV) (okf_f_2:okFn Tryz.prog kf_f_2 = true) (hcf_f_2:∀ h p,closeWs h p cf_f_2 = some cf_f_2) (hrf_f_2:∀ f,rens f cf_f_2 = cf_f_2) (hpf_f_2:∀ a0 r,f_2 a0 = some r → CallOK Tryz.prog kf_f_2 .flat ([(.str a0)] ++ cf_f_2) (.bool r)):CallOK Tryz.prog 58 .flat [(.lst 1 (s_1.map AV.str)),(.fn kf_f_2 cf_f_2)] (.bool r):=by
  refine CallOK.of_awp mixed Tryz.func58 fc58 nle ?_
  rw [argT_eq]
  unfold slices_ContainsFunc_string_string at hf
  unfold c58
  refine (show awp Tryz.prog false 0 _ (ofL [(0,(.lst 1 (s_1.map AV.str))),(1,(.fn kf_f_2 cf_f_2))]) [] _ from ?_)
  refine awp_seq ?_
  refine w_reg ?_
  refine s_do (o_mov (.bool false) rfl) ?_
  refine w_done ?_
  refine k_seq ?_
  refine awp_seq ?_
  refine w_reg ?_
  obtain ⟨r_3,er4,hf⟩:=ob hf
  refine s_do (o_mov (.lst 1 (s_1.map AV.str)) rfl) ?_
  refine s_do (o_mov (.fn kf_f_2 cf_f_2) rfl) ?_
  refine s_do (o_call (w_slices_IndexFunc_string_string _ _ _ er4 kf_f_2 cf_f_2 okf_f_2 hcf_f_2 hrf_f_2 hpf_f_2) (cls_cons rfl (cls_cons (cls_fn hcf_f_2) rfl)) (.refl _) rfl) ?_
  refine s_do (o_q (.bool (decide (r_3 ≥ 0))) rfl rfl rfl) ?_
  refine s_do (o_mov (.bool (decide (r_3 ≥ 0))) rfl) ?_
  refine w_done ?_
  refine k_seq ?_
  refine w_ret ?_
  obtain rfl:=os hf
  exact r_flat ⟨trivial,trivial⟩ rfl (.refl _)

/- impl.areShort$1 -/
def c135:ACode :=
 (.seq (.reg (tm 2 (.c (.bool false)) .done))
 (.seq (.reg (tm 3 (.t 0) (tq 4 (.lenS (.t 3)) (tq 5 (.bin .gtr (.t 4) (.c (.int .i64 40))) (tm 2 (.t 5) .done)))))
 .ret))
theorem fc135:fcomp Tryz.prog Tryz.f135 = some (c135.erase,[.mov (.t 2)],6):=by kernel_rfl
def impl_areShort_1 (t_1:Str):Option Bool :=
    some (decide ((t_1.length:Int) > 40))
theorem w_impl_areShort_1 (t_1:Str) (r:Bool) (hf:impl_areShort_1 t_1 = some r):CallOK Tryz.prog 135 .flat [(.str t_1)] (.bool r):=by
  refine CallOK.of_awp mixed Tryz.func135 fc135 nle ?_
  rw [argT_eq]
  unfold impl_areShort_1 at hf
  unfold c135
  refine (show awp Tryz.prog false 0 _ (ofL [(0,(.str t_1))]) [] _ from ?_)
  refine awp_seq ?_
  refine w_reg ?_
  refine s_do (o_mov (.bool false) rfl) ?_
  refine w_done ?_
  refine k_seq ?_
  refine awp_seq ?_
  refine w_reg ?_
  refine s_do (o_mov (.str t_1) rfl) ?_
  refine s_dof (o_lenS rfl) fun hl2 => ?_
  refine s_do (o_q (.bool (decide ((t_1.length:Int) > 40))) rfl rfl rfl) ?_
  refine s_do (o_mov (.bool (decide ((t_1.length:Int) > 40))) rfl) ?_
  refine w_done ?_
  refine k_seq ?_
  refine w_ret ?_
  obtain rfl:=os hf
  exact r_flat ⟨trivial,trivial⟩ rfl (.refl _)

/- impl.areShort -/
def c53:ACode :=
 (.seq (.reg (tm 2 (.c (.bool false)) .done))
 (.seq (.reg (tm 3 (.t 0) (tq 4 (.call 58 [(.t 3),(.c (.fn 135 []))]) (tq 5 (.not (.t 4)) (tm 2 (.t 5) .done)))))
 .ret))
theorem fc53:fcomp Tryz.prog Tryz.f53 = some (c53.erase,[.mov (.t 2)],6):=by kernel_rfl
def impl_areShort (list_1:(List Str)):Option Bool :=
    (slices_ContainsFunc_string_string list_1 impl_areShort_1).bind fun r_2 =>
    some (!r_2)
theorem w_impl_areShort (list_1:(List Str)) (r:Bool) (hf:impl_areShort list_1 = some r):CallOK Tryz.prog 53 .flat [(.lst 1 (list_1.map AV.str))] (.bool r):=by
  refine CallOK.of_awp mixed Tryz.func53 fc53 nle ?_
  rw [argT_eq]
  unfold impl_areShort at hf
  unfold c53
  refine (show awp Tryz.prog false 0 _ (ofL [(0,(.lst 1 (list_1.map AV.str)))]) [] _ from ?_)
  refine awp_seq ?_
  refine w_reg ?_
  refine s_do (o_mov (.bool false) rfl) ?_
  refine w_done ?_
  refine k_seq ?_
  refine awp_seq ?_
  refine w_reg ?_
  obtain ⟨r_2,er3,hf⟩:=ob hf
  refine s_do (o_mov (.lst 1 (list_1.map AV.str)) rfl) ?_
  refine s_do (o_call (w_slices_ContainsFunc_string_string _ _ _ er3 135 [] (by kernel_rfl) (fun _ _ => rfl) (fun _ => rfl) (fun a0 r h => w_impl_areShort_1 a0 r h)) rfl (.refl _) rfl) ?_
  refine s_do (o_q (.bool (!r_2)) rfl trivial rfl) ?_
  refine s_do (o_mov (.bool (!r_2)) rfl) ?_
  refine w_done ?_
  refine k_seq ?_
  refine w_ret ?_
  obtain rfl:=os hf
  exact r_flat ⟨trivial,trivial⟩ rfl (.refl _)

/- slices.IndexFunc[[]impl.Cond,impl.Cond] -/
def c210:ACode :=
 (.seq (.reg (tm 4 (.c (.int .i64 0)) .done))
 (.seq (.seq (.reg (tm 6 (.t 0) (tq 7 (.len (.t 6)) (tm 8 (.c (.int .i64 0)) .done))))
 (.block 0 (.loop (.seq (.reg (tq 9 (.bin .lss (.t 8) (.t 7)) .done))
 (.seq (.cond (.t 9) .skip
 (.exit 0))
 (.seq (.block 1 (.seq (.reg (tm 10 (.t 8) (tm 5 (.t 10) .done)))
 (.seq (.reg (tm 11 (.t 1) (tm 12 (.t 0) (tm 13 (.t 5) (tq 14 (.iaddr 3 (.t 12) (.t 13)) (tq 15 (.load 3 true (.t 14)) (tq 16 (.calv (.t 11) [(.t 15)]) .done)))))))
 (.cond (.t 16) (.seq (.reg (tm 17 (.t 5) (tm 4 (.t 17) .done)))
 .ret)
 .skip))))
 (.reg (tq 18 (.bin .add (.t 8) (.c (.int .i64 1))) (tm 8 (.t 18) .done)))))))))
 (.cut (.seq (.reg (tq 4 (.mov (.c (.int .i64 (-1)))) .done))
 .ret))))
theorem fc210:fcomp Tryz.prog Tryz.f210 = some (c210.erase,[.mov (.t 4)],19):=by kernel_rfl
def slices_IndexFunc_impl_Cond_impl_Cond_L1 (f_2:(GCond → Option Bool)):List GCond → Nat → Option (Fl Int Unit)
  | [],s8_17 =>
    some (.go ())
  | x_31 :: xs,s8_17 =>
    (f_2 x_31).bind fun r_32 =>
    if r_32 then
    some (.ret (s8_17:Int))
    else
    slices_IndexFunc_impl_Cond_impl_Cond_L1 f_2 xs (s8_17 + 1)

def slices_IndexFunc_impl_Cond_impl_Cond (s_1:(List GCond)) (f_2:(GCond → Option Bool)):Option Int :=
    (slices_IndexFunc_impl_Cond_impl_Cond_L1 f_2 s_1 0).bind fun q => (match q with
    | .ret r => some r
    | .go _ =>
    some (-1))
theorem w_slices_IndexFunc_impl_Cond_impl_Cond (s_1:(List GCond)) (f_2:(GCond → Option Bool)) (r:Int) (hf:slices_IndexFunc_impl_Cond_impl_Cond s_1 f_2 = some r) (kf_f_2:Nat) (cf_f_2:List AV) (okf_f_2:okFn Tryz.prog kf_f_2 = true) (hcf_f_2:∀ h p,closeWs h p cf_f_2 = some cf_f_2) (hrf_f_2:∀ f,rens f cf_f_2 = cf_f_2) (hpf_f_2:∀ a0 r,f_2 a0 = some r → CallOK Tryz.prog kf_f_2 .flat ([(encGCond a0)] ++ cf_f_2) (.bool r)):CallOK Tryz.prog 210 .flat [(.lst 3 (s_1.map encGCond)),(.fn kf_f_2 cf_f_2)] (.int .i64 r):=by
 refine CallOK.of_awp mixed Tryz.func210 fc210 nle ?_;rw [argT_eq];unfold slices_IndexFunc_impl_Cond_impl_Cond at hf;unfold c210;refine (show awp Tryz.prog false 0 _ (ofL [(0,(.lst 3 (s_1.map encGCond))),(1,(.fn kf_f_2 cf_f_2))]) [] _ from ?_);refine sr<|s_mov (.int .i64 0) rfl<|dk<|awp_seq<|sr<|s_mov (.lst 3 (s_1.map encGCond)) rfl<|s_dof (o_len (enc:=encGCond) rfl) fun hl3 => s_mov (.int .i64 0) rfl<|dk<|?_
 obtain ⟨p24,hb1,hf⟩:=ob hf
 refine awp_cutx (X:={q:Unit // p24 = .go q}) (fun q => ([],[])) ?_ ?_
 ·refine awp_loop (X:={q:Nat // slices_IndexFunc_impl_Cond_impl_Cond_L1 f_2 (s_1.drop q) q = some p24}) (fun q => ([(0,(.lst 3 (s_1.map encGCond))),(1,(.fn kf_f_2 cf_f_2)),(7,(.int .i64 (s_1.length:Int))),(8,(.int .i64 (q.1:Int)))],[])) (fun q => s_1.length - q.1) ⟨0,hb1⟩ ⟨[],[],_,_,rfl,rfl,⟨.refl _,⟨.of_eq (congrArg (AV.fn _) (hrf_f_2 _)),⟨.refl _,⟨.refl _,trivial⟩⟩⟩⟩,(.refl _)⟩ ?_
  rintro ⟨s8_17,hc1⟩
  have hc1:slices_IndexFunc_impl_Cond_impl_Cond_L1 f_2 (s_1.drop s8_17) s8_17 = some p24:=hc1
  refine (show awp Tryz.prog false 0 _ (ofL [(0,(.lst 3 (s_1.map encGCond))),(1,(.fn kf_f_2 cf_f_2)),(7,(.int .i64 (s_1.length:Int))),(8,(.int .i64 (s8_17:Int)))]) [] _ from ?_)
  rcases dropc s_1 s8_17 with ⟨hie27,hd30⟩ | ⟨hlt25,x_31,hx26,hd30⟩
  ·rw [hd30,slices_IndexFunc_impl_Cond_impl_Cond_L1.eq_1] at hc1
   have hq29:=dlf hie27
   refine sr<|s_q (.bool (decide ((s8_17:Int) < (s_1.length:Int)))) rfl rfl rfl<|dk<|awp_seq<|w_condf rfl hq29<|w_exit<|k_seqx<|k_loopx<|k_blkx<|?_;obtain rfl:=os hc1;exact k_cutn ⟨_,rfl⟩ ⟨[],[],_,_,rfl,rfl,trivial,(.refl _)⟩
  ·rw [hd30,slices_IndexFunc_impl_Cond_impl_Cond_L1.eq_2] at hc1
   have hq29:=dlt hlt25
   refine sr<|s_q (.bool (decide ((s8_17:Int) < (s_1.length:Int)))) rfl rfl rfl<|dk<|awp_seq<|w_condt rfl hq29<|w_skip<|k_seq<|awp_seq<|w_blk<|sr<|s_mov (.int .i64 (s8_17:Int)) rfl<|s_mov (.int .i64 (s8_17:Int)) rfl<|dk<|sr<|?_
   obtain ⟨r_32,er33,hc1⟩:=ob hc1
   refine s_mov (.fn kf_f_2 cf_f_2) rfl<|s_mov (.lst 3 (s_1.map encGCond)) rfl<|s_mov (.int .i64 (s8_17:Int)) rfl<|s_do (o_iaddrn (enc:=encGCond) rfl rfl hx26)<|s_q (encGCond x_31) rfl nle rfl<|s_do (o_calvp (v:=(.bool r_32)) rfl okf_f_2 hcf_f_2 (hpf_f_2 _ _ er33) rfl (.refl _) rfl)<|dk<|?_
   rcases oi hc1 with ⟨c34,hc1⟩ | ⟨c34,hc1⟩
   ·refine w_condt rfl c34<|sr<|s_mov (.int .i64 (s8_17:Int)) rfl<|s_mov (.int .i64 (s8_17:Int)) rfl<|dk<|w_ret<|?_;obtain rfl:=os hc1;obtain rfl:=os hf;exact r_flat ⟨trivial,trivial⟩ rfl (.refl _)
   ·refine w_condf rfl (bf c34)<|w_skip<|k_blk<|k_seq<|w_reg<|s_q (.int .i64 (w64 ((s8_17:Int) + 1))) rfl rfl rfl<|s_mov (.int .i64 (w64 ((s8_17:Int) + 1))) rfl<|w_done<|?_;exact k_loopn ⟨(s8_17 + 1),hc1⟩ (mul hlt25) ⟨[],[],_,_,rfl,rfl,⟨.refl _,⟨.of_eq (congrArg (AV.fn _) (hrf_f_2 _)),⟨.refl _,⟨.of_eq (congrArg (AV.int _) (w64_incr hlt25 hl3)),trivial⟩⟩⟩⟩,(.refl _)⟩
 ·rintro ⟨_,rfl⟩
  refine sr<|s_mov (.int .i64 (-1)) rfl<|dk<|w_ret<|?_;obtain rfl:=os hf;exact r_flat ⟨trivial,trivial⟩ rfl (.refl _)

/- slices.ContainsFunc[[]impl.Cond,impl.Cond] -/
def c136:ACode :=
 (.seq (.reg (tm 4 (.c (.bool false)) .done))
 (.seq (.reg (tm 5 (.t 0) (tm 6 (.t 1) (tq 7 (.call 210 [(.t 5),(.t 6)]) (tq 8 (.bin .geq (.t 7) (.c (.int .i64 0))) (tm 4 (.t 8) .done))))))
 .ret))
theorem fc136:fcomp Tryz.prog Tryz.f136 = some (c136.erase,[.mov (.t 4)],9):=by kernel_rfl
def slices_ContainsFunc_impl_Cond_impl_Cond (s_1:(List GCond)) (f_2:(GCond → Option Bool)):Option Bool :=
    (slices_IndexFunc_impl_Cond_impl_Cond s_1 f_2).bind fun r_3 =>
    some (decide (r_3 ≥ 0))
theorem w_slices_ContainsFunc_impl_Cond_impl_Cond (s_1:(List GCond)) (f_2:(GCond → Option Bool)) (r:Bool) (hf:slices_ContainsFunc_impl_Cond_impl_Cond s_1 f_2 = some r) (kf_f_2:Nat) (cf_f_2:List AV) (okf_f_2:okFn Tryz.prog kf_f_2 = true) (hcf_f_2:∀ h p,closeWs h p cf_f_2 = some cf_f_2) (hrf_f_2:∀ f,rens f cf_f_2 = cf_f_2) (hpf_f_2:∀ a0 r,f_2 a0 = some r → CallOK Tryz.prog kf_f_2 .flat ([(encGCond a0)] ++ cf_f_2) (.bool r)):CallOK Tryz.prog 136 .flat [(.lst 3 (s_1.map encGCond)),(.fn kf_f_2 cf_f_2)] (.bool r):=by
 refine CallOK.of_awp mixed Tryz.func136 fc136 nle ?_;rw [argT_eq];unfold slices_ContainsFunc_impl_Cond_impl_Cond at hf;unfold c136;refine (show awp Tryz.prog false 0 _ (ofL [(0,(.lst 3 (s_1.map encGCond))),(1,(.fn kf_f_2 cf_f_2))]) [] _ from ?_);refine sr<|s_mov (.bool false) rfl<|dk<|sr<|?_
 obtain ⟨r_3,er4,hf⟩:=ob hf
 refine s_mov (.lst 3 (s_1.map encGCond)) rfl<|s_mov (.fn kf_f_2 cf_f_2) rfl<|s_do (o_call (w_slices_IndexFunc_impl_Cond_impl_Cond _ _ _ er4 kf_f_2 cf_f_2 okf_f_2 hcf_f_2 hrf_f_2 hpf_f_2) (cls_cons rfl (cls_cons (cls_fn hcf_f_2) rfl)) (.refl _) rfl)<|s_q (.bool (decide (r_3 ≥ 0))) rfl rfl rfl<|s_mov (.bool (decide (r_3 ≥ 0))) rfl<|dk<|w_ret<|?_;obtain rfl:=os hf;exact r_flat ⟨trivial,trivial⟩ rfl (.refl _)

/- impl.within -/
def c57:ACode :=
 (.seq (.reg (tm 6 (.c (.bool false)) .done))
 (.seq (.reg (tm 7 (.t 0) (tm 8 (.t 1) (tq 9 (.bin .geq (.t 7) (.t 8)) (tm 10 (.t 9) (tg 11 10 true (.mov (.t 0)) (tg 12 10 true (.mov (.t 2)) (tg 13 10 true (.bin .leq (.t 11) (.t 12)) (tq 14 (.pick (.t 10) (.t 13) (.c (.bool false))) (tm 6 (.t 14) .done))))))))))
 .ret))
theorem fc57:fcomp Tryz.prog Tryz.f57 = some (c57.erase,[.mov (.t 6)],15):=by kernel_rfl
def impl_within (n_1:Int) (low_2:Int) (high_3:Int):Option Bool :=
    if (decide (n_1 ≥ low_2)) then
    some (decide (n_1 ≤ high_3))
    else
    some false
theorem w_impl_within (n_1:Int) (low_2:Int) (high_3:Int) (r:Bool) (hf:impl_within n_1 low_2 high_3 = some r):CallOK Tryz.prog 57 .flat [(.int .i64 n_1),(.int .i64 low_2),(.int .i64 high_3)] (.bool r):=by
 refine CallOK.of_awp mixed Tryz.func57 fc57 nle ?_;rw [argT_eq];unfold impl_within at hf;unfold c57;refine (show awp Tryz.prog false 0 _ (ofL [(0,(.int .i64 n_1)),(1,(.int .i64 low_2)),(2,(.int .i64 high_3))]) [] _ from ?_);refine sr<|s_mov (.bool false) rfl<|dk<|sr<|?_
 rcases oi hf with ⟨c4,hf⟩ | ⟨c4,hf⟩
 ·refine s_mov (.int .i64 n_1) rfl<|s_mov (.int .i64 low_2) rfl<|s_q (.bool (decide (n_1 ≥ low_2))) rfl rfl rfl<|s_mov (.bool (decide (n_1 ≥ low_2))) rfl<|s_lit (s:=10) (b:=true) rfl c4<|s_on rfl<|s_mov (.int .i64 n_1) rfl<|s_on rfl<|s_mov (.int .i64 high_3) rfl<|s_on rfl<|s_q (.bool (decide (n_1 ≤ high_3))) rfl rfl rfl<|s_q (.bool (decide (n_1 ≤ high_3))) rfl trivial rfl<|s_mov (.bool (decide (n_1 ≤ high_3))) rfl<|dk<|w_ret<|?_;obtain rfl:=os hf;exact r_flat ⟨trivial,trivial⟩ rfl (.refl _)
 ·refine s_mov (.int .i64 n_1) rfl<|s_mov (.int .i64 low_2) rfl<|s_q (.bool (decide (n_1 ≥ low_2))) rfl rfl rfl<|s_mov (.bool (decide (n_1 ≥ low_2))) rfl<|s_lit (s:=10) (b:=false) rfl (bf c4)<|s_off rfl rfl<|s_off rfl rfl<|s_off rfl rfl<|s_q (.bool false) rfl trivial rfl<|s_mov (.bool false) rfl<|dk<|w_ret<|?_;obtain rfl:=os hf;exact r_flat ⟨trivial,trivial⟩ rfl (.refl _)

/- impl.isNumber -/
def c240:ACode :=
 (.seq (.reg (tm 2 (.c (.bool false)) .done))
 (.seq (.reg (tm 3 (.t 0) (tq 4 (.call 57 [(.t 3),(.c (.int .i64 (-1000000000))),(.c (.int .i64 1000000000))]) (tm 2 (.t 4) .done))))
 .ret))
theorem fc240:fcomp Tryz.prog Tryz.f240 = some (c240.erase,[.mov (.t 2)],5):=by kernel_rfl
def impl_isNumber (n_1:Int):Option Bool :=
    (impl_within n_1 (-1000000000) 1000000000).bind fun r_2 =>
    some r_2
theorem w_impl_isNumber (n_1:Int) (r:Bool) (hf:impl_isNumber n_1 = some r):CallOK Tryz.prog 240 .flat [(.int .i64 n_1)] (.bool r):=by
  refine CallOK.of_awp mixed Tryz.func240 fc240 nle ?_
  rw [argT_eq]
  unfold impl_isNumber at hf
  unfold c240
  refine (show awp Tryz.prog false 0 _ (ofL [(0,(.int .i64 n_1))]) [] _ from ?_)
  refine awp_seq ?_
  refine w_reg ?_
  refine s_do (o_mov (.bool false) rfl) ?_
  refine w_done ?_
  refine k_seq ?_
  refine awp_seq ?_
  refine w_reg ?_
  obtain ⟨r_2,er3,hf⟩:=ob hf
  refine s_do (o_mov (.int .i64 n_1) rfl) ?_
  refine s_do (o_call (w_impl_within _ _ _ _ er3) rfl (.refl _) rfl) ?_
  refine s_do (o_mov (.bool r_2) rfl) ?_
  refine w_done ?_
  refine k_seq ?_
  refine w_ret ?_
  obtain rfl:=os hf
  exact r_flat ⟨trivial,trivial⟩ rfl (.refl _)

/- impl.isPlain -/
def c244:ACode :=
 (.seq (.reg (tm 2 (.c (.bool false)) .done))
 (.seq (.seq (.reg (tm 4 (.t 0) (tq 5 (.lenS (.t 4)) (tm 6 (.c (.int .i64 0)) .done))))
 (.block 0 (.loop (.seq (.reg (tq 7 (.bin .lss (.t 6) (.t 5)) .done))
 (.seq (.cond (.t 7) .skip
 (.exit 0))
 (.seq (.block 1 (.seq (.reg (tm 8 (.t 6) (tm 3 (.t 8) .done)))
 (.seq (.reg (tm 9 (.t 0) (tm 10 (.t 3) (tq 11 (.idxs (.t 9) (.t 10)) (tq 12 (.bin .lss (.t 11) (.c (.int .u8 32))) (tm 13 (.t 12) (tg 14 13 false (.mov (.t 0)) (tg 15 13 false (.mov (.t 3)) (tg 16 13 false (.idxs (.t 14) (.t 15)) (tg 17 13 false (.bin .gtr (.t 16) (.c (.int .u8 126))) (tq 18 (.pick (.t 13) (.c (.bool true)) (.t 17)) .done)))))))))))
 (.cut (.cond (.t 18) (.seq (.reg (tm 2 (.c (.bool false)) .done))
 .ret)
 .skip)))))
 (.reg (tq 19 (.bin .add (.t 6) (.c (.int .i64 1))) (tm 6 (.t 19) .done)))))))))
 (.cut (.seq (.reg (tm 20 (.t 0) (tq 21 (.lenS (.t 20)) (tq 22 (.bin .leq (.t 21) (.c (.int .i64 200))) (tm 2 (.t 22) .done)))))
 .ret))))
theorem fc244:fcomp Tryz.prog Tryz.f244 = some (c244.erase,[.mov (.t 2)],23):=by kernel_rfl
def impl_isPlain_L1 :List UInt8 → Option (Fl Bool Unit)
  | [] =>
    some (.go ())
  | x_54 :: xs =>
    ((if (decide ((x_54.toNat:Int) < 32)) then
    some true
    else
    some (decide ((x_54.toNat:Int) > 126)):Option Bool)).bind fun s18_56 =>
    if s18_56 then
    some (.ret false)
    else
    impl_isPlain_L1 xs 

def impl_isPlain (t_1:Str):Option Bool :=
    (impl_isPlain_L1 t_1 ).bind fun q => (match q with
    | .ret r => some r
    | .go _ =>
    some (decide ((t_1.length:Int) ≤ 200)))
theorem w_impl_isPlain (t_1:Str) (r:Bool) (hf:impl_isPlain t_1 = some r):CallOK Tryz.prog 244 .flat [(.str t_1)] (.bool r):=by
 refine CallOK.of_awp mixed Tryz.func244 fc244 nle ?_;rw [argT_eq];unfold impl_isPlain at hf;unfold c244;refine (show awp Tryz.prog false 0 _ (ofL [(0,(.str t_1))]) [] _ from ?_);refine sr<|s_mov (.bool false) rfl<|dk<|awp_seq<|sr<|s_mov (.str t_1) rfl<|s_dof (o_lenS rfl) fun hl2 => s_mov (.int .i64 0) rfl<|dk<|?_
 obtain ⟨p47,hb1,hf⟩:=ob hf
 refine awp_cutx (X:={q:Unit // p47 = .go q}) (fun q => ([(0,(.str t_1))],[])) ?_ ?_
 ·refine awp_loop (X:={q:Nat // impl_isPlain_L1 (t_1.drop q)  = some p47}) (fun q => ([(0,(.str t_1)),(5,(.int .i64 (t_1.length:Int))),(6,(.int .i64 (q.1:Int)))],[])) (fun q => t_1.length - q.1) ⟨0,hb1⟩ ⟨[],[],_,_,rfl,rfl,⟨.refl _,⟨.refl _,⟨.refl _,trivial⟩⟩⟩,(.refl _)⟩ ?_
  rintro ⟨s6_32,hc1⟩
  have hc1:impl_isPlain_L1 (t_1.drop s6_32)  = some p47:=hc1
  refine (show awp Tryz.prog false 0 _ (ofL [(0,(.str t_1)),(5,(.int .i64 (t_1.length:Int))),(6,(.int .i64 (s6_32:Int)))]) [] _ from ?_)
  rcases dropc t_1 s6_32 with ⟨hie50,hd53⟩ | ⟨hlt48,x_54,hx49,hd53⟩
  ·rw [hd53,impl_isPlain_L1.eq_1] at hc1
   have hq52:=dlf hie50
   refine sr<|s_q (.bool (decide ((s6_32:Int) < (t_1.length:Int)))) rfl rfl rfl<|dk<|awp_seq<|w_condf rfl hq52<|w_exit<|k_seqx<|k_loopx<|k_blkx<|?_;obtain rfl:=os hc1;exact k_cutn ⟨_,rfl⟩ ⟨[],[],_,_,rfl,rfl,⟨.refl _,trivial⟩,(.refl _)⟩
  ·rw [hd53,impl_isPlain_L1.eq_2] at hc1
   have hq52:=dlt hlt48
   refine sr<|s_q (.bool (decide ((s6_32:Int) < (t_1.length:Int)))) rfl rfl rfl<|dk<|awp_seq<|w_condt rfl hq52<|w_skip<|k_seq<|awp_seq<|w_blk<|sr<|s_mov (.int .i64 (s6_32:Int)) rfl<|s_mov (.int .i64 (s6_32:Int)) rfl<|dk<|awp_seq<|?_
   obtain ⟨s18_56,hb2,hc1⟩:=ob hc1
   refine awp_cut ([(0,(.str t_1)),(5,(.int .i64 (t_1.length:Int))),(6,(.int .i64 (s6_32:Int))),(18,(.bool s18_56))],[]) ?_ ?_
   ·refine w_reg ?_
    rcases oi hb2 with ⟨c58,hb2⟩ | ⟨c58,hb2⟩
    ·refine s_mov (.str t_1) rfl<|s_mov (.int .i64 (s6_32:Int)) rfl<|s_do (o_idxsn rfl rfl hx49)<|s_q (.bool (decide ((x_54.toNat:Int) < 32))) rfl rfl rfl<|s_mov (.bool (decide ((x_54.toNat:Int) < 32))) rfl<|s_lit (s:=13) (b:=true) rfl c58<|s_off rfl rfl<|s_off rfl rfl<|s_off rfl rfl<|s_off rfl rfl<|s_q (.bool true) rfl trivial rfl<|w_done<|?_;obtain rfl:=os hb2;exact ⟨[],[],_,_,rfl,rfl,⟨.refl _,⟨.refl _,⟨.refl _,⟨.refl _,trivial⟩⟩⟩⟩,(.refl _)⟩
    ·refine s_mov (.str t_1) rfl<|s_mov (.int .i64 (s6_32:Int)) rfl<|s_do (o_idxsn rfl rfl hx49)<|s_q (.bool (decide ((x_54.toNat:Int) < 32))) rfl rfl rfl<|s_mov (.bool (decide ((x_54.toNat:Int) < 32))) rfl<|s_lit (s:=13) (b:=false) rfl (bf c58)<|s_on rfl<|s_mov (.str t_1) rfl<|s_on rfl<|s_mov (.int .i64 (s6_32:Int)) rfl<|s_on rfl<|s_do (o_idxsn rfl rfl hx49)<|s_on rfl<|s_q (.bool (decide ((x_54.toNat:Int) > 126))) rfl rfl rfl<|s_q (.bool (decide ((x_54.toNat:Int) > 126))) rfl trivial rfl<|w_done<|?_;obtain rfl:=os hb2;exact ⟨[],[],_,_,rfl,rfl,⟨.refl _,⟨.refl _,⟨.refl _,⟨.refl _,trivial⟩⟩⟩⟩,(.refl _)⟩
   ·rcases oi hc1 with ⟨c59,hc1⟩ | ⟨c59,hc1⟩
    ·refine w_condt rfl c59<|sr<|s_mov (.bool false) rfl<|dk<|w_ret<|?_;obtain rfl:=os hc1;obtain rfl:=os hf;exact r_flat ⟨trivial,trivial⟩ rfl (.refl _)
    ·refine w_condf rfl (bf c59)<|w_skip<|k_blk<|k_seq<|w_reg<|s_q (.int .i64 (w64 ((s6_32:Int) + 1))) rfl rfl rfl<|s_mov (.int .i64 (w64 ((s6_32:Int) + 1))) rfl<|w_done<|?_;exact k_loopn ⟨(s6_32 + 1),hc1⟩ (mul hlt48) ⟨[],[],_,_,rfl,rfl,⟨.refl _,⟨.refl _,⟨.of_eq (congrArg (AV.int _) (w64_incr hlt48 hl2)),trivial⟩⟩⟩,(.refl _)⟩
 ·rintro ⟨_,rfl⟩
  refine sr<|s_mov (.str t_1) rfl<|s_dof (o_lenS rfl) fun hl60 => s_q (.bool (decide ((t_1.length:Int) ≤ 200))) rfl rfl rfl<|s_mov (.bool (decide ((t_1.length:Int) ≤ 200))) rfl<|dk<|w_ret<|?_;obtain rfl:=os hf;exact r_flat ⟨trivial,trivial⟩ rfl (.refl _)

/- impl.isId -/
def c71:ACode :=
 (.seq (.reg (tm 2 (.c (.bool false)) .done))
 (.seq (.reg (tm 3 (.t 0) (tq 4 (.call 57 [(.t 3),(.c (.int .i64 1)),(.c (.int .i64 1000000))]) (tm 2 (.t 4) .done))))
 .ret))
theorem fc71:fcomp Tryz.prog Tryz.f71 = some (c71.erase,[.mov (.t 2)],5):=by kernel_rfl
def impl_isId (n_1:Int):Option Bool :=
    (impl_within n_1 1 1000000).bind fun r_2 =>
    some r_2
theorem w_impl_isId (n_1:Int) (r:Bool) (hf:impl_isId n_1 = some r):CallOK Tryz.prog 71 .flat [(.int .i64 n_1)] (.bool r):=by
  refine CallOK.of_awp mixed Tryz.func71 fc71 nle ?_
  rw [argT_eq]
  unfold impl_isId at hf
  unfold c71
  refine (show awp Tryz.prog false 0 _ (ofL [(0,(.int .i64 n_1))]) [] _ from ?_)
  refine awp_seq ?_
  refine w_reg ?_
  refine s_do (o_mov (.bool false) rfl) ?_
  refine w_done ?_
  refine k_seq ?_
  refine awp_seq ?_
  refine w_reg ?_
  obtain ⟨r_2,er3,hf⟩:=ob hf
  refine s_do (o_mov (.int .i64 n_1) rfl) ?_
  refine s_do (o_call (w_impl_within _ _ _ _ er3) rfl (.refl _) rfl) ?_
  refine s_do (o_mov (.bool r_2) rfl) ?_
  refine w_done ?_
  refine k_seq ?_
  refine w_ret ?_
  obtain rfl:=os hf
  exact r_flat ⟨trivial,trivial⟩ rfl (.refl _)

/- impl.AtomOK -/
def c214:ACode :=
 (.seq (.reg (tq 1 (.box 3 (.t 0)) (tm 2 (.c (.bool false)) .done)))
 (.seq (.seq (.reg (tq 3 (.faddr 0 (.t 1)) (tq 4 (.load 1 false (.t 3)) .done)))
 (.block 0 (.seq (.reg (tq 6 (.bin .eql (.t 4) (.c (.int .i64 1))) (tm 5 (.t 6) .done)))
 (.cond (.t 5) (.seq (.reg (tq 7 (.faddr 1 (.t 1)) (tq 8 (.load 1 false (.t 7)) (tq 9 (.call 240 [(.t 8)]) (tm 10 (.t 9) (tg 11 10 true (.faddr 2 (.t 1)) (tg 12 10 true (.load 1 false (.t 11)) (tg 13 10 true (.bin .eql (.t 12) (.c (.str []))) (tq 14 (.pick (.t 10) (.t 13) (.c (.bool false))) (tm 2 (.t 14) .done))))))))))
 .ret)
 (.seq (.reg (tq 16 (.bin .eql (.t 4) (.c (.int .i64 2))) (tm 15 (.t 16) .done)))
 (.cond (.t 15) (.seq (.reg (tq 17 (.faddr 1 (.t 1)) (tq 18 (.load 1 false (.t 17)) (tq 19 (.bin .eql (.t 18) (.c (.int .i64 0))) (tm 20 (.t 19) (tg 21 20 true (.faddr 2 (.t 1)) (tg 22 20 true (.load 1 false (.t 21)) (tg 23 20 true (.call 244 [(.t 22)]) (tq 24 (.pick (.t 20) (.t 23) (.c (.bool false))) (tm 2 (.t 24) .done))))))))))
 .ret)
 (.seq (.reg (tq 26 (.bin .eql (.t 4) (.c (.int .i64 3))) (tm 25 (.t 26) .done)))
 (.cond (.t 25) (.seq (.reg (tq 27 (.faddr 1 (.t 1)) (tq 28 (.load 1 false (.t 27)) (tq 29 (.call 57 [(.t 28),(.c (.int .i64 0)),(.c (.int .i64 1))]) (tm 30 (.t 29) (tg 31 30 true (.faddr 2 (.t 1)) (tg 32 30 true (.load 1 false (.t 31)) (tg 33 30 true (.bin .eql (.t 32) (.c (.str []))) (tq 34 (.pick (.t 30) (.t 33) (.c (.bool false))) (tm 2 (.t 34) .done))))))))))
 .ret)
 (.seq (.reg (tq 36 (.bin .eql (.t 4) (.c (.int .i64 4))) (tm 35 (.t 36) .done)))
 (.cond (.t 35) (.seq (.reg (tq 37 (.faddr 1 (.t 1)) (tq 38 (.load 1 false (.t 37)) (tq 39 (.call 71 [(.t 38)]) (tm 40 (.t 39) (tg 41 40 true (.faddr 2 (.t 1)) (tg 42 40 true (.load 1 false (.t 41)) (tg 43 40 true (.bin .eql (.t 42) (.c (.str []))) (tq 44 (.pick (.t 40) (.t 43) (.c (.bool false))) (tm 2 (.t 44) .done))))))))))
 .ret)
 .skip))))))))))
 (.seq (.reg (tm 2 (.c (.bool false)) .done))
 .ret)))
theorem fc214:fcomp Tryz.prog Tryz.f214 = some (c214.erase,[.mov (.t 2)],45):=by kernel_rfl
def impl_AtomOK (a_1:GAtom):Option Bool :=
    if (a_1.Kind == 1) then
    (impl_isNumber a_1.N).bind fun r_3 =>
    if r_3 then
    some (a_1.T == [])
    else
    some false
    else
    if (a_1.Kind == 2) then
    if (a_1.N == 0) then
    (impl_isPlain a_1.T).bind fun r_8 =>
    some r_8
    else
    some false
    else
    if (a_1.Kind == 3) then
    (impl_within a_1.N 0 1).bind fun r_11 =>
    if r_11 then
    some (a_1.T == [])
    else
    some false
    else
    if (a_1.Kind == 4) then
    (impl_isId a_1.N).bind fun r_15 =>
    if r_15 then
    some (a_1.T == [])
    else
    some false
    else
    some false
theorem w_impl_AtomOK (a_1:GAtom) (r:Bool) (hf:impl_AtomOK a_1 = some r):CallOK Tryz.prog 214 .flat [(encGAtom a_1)] (.bool r):=by
 refine CallOK.of_awp mixed Tryz.func214 fc214 nle ?_;rw [argT_eq];unfold impl_AtomOK at hf;unfold c214;refine (show awp Tryz.prog false 0 _ (ofL [(0,(encGAtom a_1))]) [] _ from ?_);refine sr<|s_do (o_box (j:=0) (c:=(.agg [(.int .i64 a_1.Kind),(.int .i64 a_1.N),(.str a_1.T)])) rfl trivial rfl rfl)<|s_mov (.bool false) rfl<|dk<|awp_seq<|sr<|s_q (.ptr 0 0 0) rfl trivial rfl<|s_q (.int .i64 a_1.Kind) rfl nle rfl<|dk<|w_blk<|sr<|s_q (.bool (a_1.Kind == 1)) rfl rfl rfl<|s_mov (.bool (a_1.Kind == 1)) rfl<|dk<|?_
 rcases oi hf with ⟨c2,hf⟩ | ⟨c2,hf⟩
 ·refine w_condt rfl c2<|sr<|?_
  obtain ⟨r_3,er4,hf⟩:=ob hf
  rcases oi hf with ⟨c5,hf⟩ | ⟨c5,hf⟩
  ·refine s_q (.ptr 0 0 1) rfl trivial rfl<|s_q (.int .i64 a_1.N) rfl nle rfl<|s_do (o_call (w_impl_isNumber _ _ er4) rfl (.refl _) rfl)<|s_mov (.bool r_3) rfl<|s_lit (s:=10) (b:=true) rfl c5<|s_on rfl<|s_q (.ptr 0 0 2) rfl trivial rfl<|s_on rfl<|s_q (.str a_1.T) rfl nle rfl<|s_on rfl<|s_q (.bool (a_1.T == [])) rfl trivial rfl<|s_q (.bool (a_1.T == [])) rfl trivial rfl<|s_mov (.bool (a_1.T == [])) rfl<|dk<|w_ret<|?_;obtain rfl:=os hf;exact r_flat ⟨trivial,trivial⟩ rfl (.refl _)
  ·refine s_q (.ptr 0 0 1) rfl trivial rfl<|s_q (.int .i64 a_1.N) rfl nle rfl<|s_do (o_call (w_impl_isNumber _ _ er4) rfl (.refl _) rfl)<|s_mov (.bool r_3) rfl<|s_lit (s:=10) (b:=false) rfl (bf c5)<|s_off rfl rfl<|s_off rfl rfl<|s_off rfl rfl<|s_q (.bool false) rfl trivial rfl<|s_mov (.bool false) rfl<|dk<|w_ret<|?_;obtain rfl:=os hf;exact r_flat ⟨trivial,trivial⟩ rfl (.refl _)
 ·refine w_condf rfl (bf c2)<|sr<|s_q (.bool (a_1.Kind == 2)) rfl rfl rfl<|s_mov (.bool (a_1.Kind == 2)) rfl<|dk<|?_
  rcases oi hf with ⟨c6,hf⟩ | ⟨c6,hf⟩
  ·refine w_condt rfl c6<|sr<|?_
   rcases oi hf with ⟨c7,hf⟩ | ⟨c7,hf⟩
   ·obtain ⟨r_8,er9,hf⟩:=ob hf
    refine s_q (.ptr 0 0 1) rfl trivial rfl<|s_q (.int .i64 a_1.N) rfl nle rfl<|s_q (.bool (a_1.N == 0)) rfl rfl rfl<|s_mov (.bool (a_1.N == 0)) rfl<|s_lit (s:=20) (b:=true) rfl c7<|s_on rfl<|s_q (.ptr 0 0 2) rfl trivial rfl<|s_on rfl<|s_q (.str a_1.T) rfl nle rfl<|s_on rfl<|s_do (o_call (w_impl_isPlain _ _ er9) rfl (.refl _) rfl)<|s_q (.bool r_8) rfl trivial rfl<|s_mov (.bool r_8) rfl<|dk<|w_ret<|?_;obtain rfl:=os hf;exact r_flat ⟨trivial,trivial⟩ rfl (.refl _)
   ·refine s_q (.ptr 0 0 1) rfl trivial rfl<|s_q (.int .i64 a_1.N) rfl nle rfl<|s_q (.bool (a_1.N == 0)) rfl rfl rfl<|s_mov (.bool (a_1.N == 0)) rfl<|s_lit (s:=20) (b:=false) rfl (bf c7)<|s_off rfl rfl<|s_off rfl rfl<|s_off rfl rfl<|s_q (.bool false) rfl trivial rfl<|s_mov (.bool false) rfl<|dk<|w_ret<|?_;obtain rfl:=os hf;exact r_flat ⟨trivial,trivial⟩ rfl (.refl _)
  ·refine w_condf rfl (bf c6)<|sr<|s_q (.bool (a_1.Kind == 3)) rfl rfl rfl<|s_mov (.bool (a_1.Kind == 3)) rfl<|dk<|?_
   rcases oi hf with ⟨c10,hf⟩ | ⟨c10,hf⟩
   ·refine w_condt rfl c10<|sr<|?_
    obtain ⟨r_11,er12,hf⟩:=ob hf
    rcases oi hf with ⟨c13,hf⟩ | ⟨c13,hf⟩
    ·refine s_q (.ptr 0 0 1) rfl trivial rfl<|s_q (.int .i64 a_1.N) rfl nle rfl<|s_do (o_call (w_impl_within _ _ _ _ er12) rfl (.refl _) rfl)<|s_mov (.bool r_11) rfl<|s_lit (s:=30) (b:=true) rfl c13<|s_on rfl<|s_q (.ptr 0 0 2) rfl trivial rfl<|s_on rfl<|s_q (.str a_1.T) rfl nle rfl<|s_on rfl<|s_q (.bool (a_1.T == [])) rfl trivial rfl<|s_q (.bool (a_1.T == [])) rfl trivial rfl<|s_mov (.bool (a_1.T == [])) rfl<|dk<|w_ret<|?_;obtain rfl:=os hf;exact r_flat ⟨trivial,trivial⟩ rfl (.refl _)
    ·refine s_q (.ptr 0 0 1) rfl trivial rfl<|s_q (.int .i64 a_1.N) rfl nle rfl<|s_do (o_call (w_impl_within _ _ _ _ er12) rfl (.refl _) rfl)<|s_mov (.bool r_11) rfl<|s_lit (s:=30) (b:=false) rfl (bf c13)<|s_off rfl rfl<|s_off rfl rfl<|s_off rfl rfl<|s_q (.bool false) rfl trivial rfl<|s_mov (.bool false) rfl<|dk<|w_ret<|?_;obtain rfl:=os hf;exact r_flat ⟨trivial,trivial⟩ rfl (.refl _)
   ·refine w_condf rfl (bf c10)<|sr<|s_q (.bool (a_1.Kind == 4)) rfl rfl rfl<|s_mov (.bool (a_1.Kind == 4)) rfl<|dk<|?_
    rcases oi hf with ⟨c14,hf⟩ | ⟨c14,hf⟩
    ·refine w_condt rfl c14<|sr<|?_
     obtain ⟨r_15,er16,hf⟩:=ob hf
     rcases oi hf with ⟨c17,hf⟩ | ⟨c17,hf⟩
     ·refine s_q (.ptr 0 0 1) rfl trivial rfl<|s_q (.int .i64 a_1.N) rfl nle rfl<|s_do (o_call (w_impl_isId _ _ er16) rfl (.refl _) rfl)<|s_mov (.bool r_15) rfl<|s_lit (s:=40) (b:=true) rfl c17<|s_on rfl<|s_q (.ptr 0 0 2) rfl trivial rfl<|s_on rfl<|s_q (.str a_1.T) rfl nle rfl<|s_on rfl<|s_q (.bool (a_1.T == [])) rfl trivial rfl<|s_q (.bool (a_1.T == [])) rfl trivial rfl<|s_mov (.bool (a_1.T == [])) rfl<|dk<|w_ret<|?_;obtain rfl:=os hf;exact r_flat ⟨trivial,trivial⟩ rfl (.refl _)
     ·refine s_q (.ptr 0 0 1) rfl trivial rfl<|s_q (.int .i64 a_1.N) rfl nle rfl<|s_do (o_call (w_impl_isId _ _ er16) rfl (.refl _) rfl)<|s_mov (.bool r_15) rfl<|s_lit (s:=40) (b:=false) rfl (bf c17)<|s_off rfl rfl<|s_off rfl rfl<|s_off rfl rfl<|s_q (.bool false) rfl trivial rfl<|s_mov (.bool false) rfl<|dk<|w_ret<|?_;obtain rfl:=os hf;exact r_flat ⟨trivial,trivial⟩ rfl (.refl _)
    ·refine w_condf rfl (bf c14)<|w_skip<|k_blk<|k_seq<|sr<|s_mov (.bool false) rfl<|dk<|w_ret<|?_;obtain rfl:=os hf;exact r_flat ⟨trivial,trivial⟩ rfl (.refl _)

/- cmp.isNaN[int] -/
def c254:ACode :=
 (.seq (.reg (tm 2 (.c (.bool false)) .done))
 (.seq (.reg (tm 3 (.t 0) (tm 4 (.t 0) (tq 5 (.bin .neq (.t 3) (.t 4)) (tm 2 (.t 5) .done)))))
 .ret))
theorem fc254:fcomp Tryz.prog Tryz.f254 = some (c254.erase,[.mov (.t 2)],6):=by kernel_rfl
def cmp_isNaN_int (x_1:Int):Option Bool :=
    some (x_1 != x_1)
theorem w_cmp_isNaN_int (x_1:Int) (r:Bool) (hf:cmp_isNaN_int x_1 = some r):CallOK Tryz.prog 254 .flat [(.int .i64 x_1)] (.bool r):=by
  refine CallOK.of_awp mixed Tryz.func254 fc254 nle ?_
  rw [argT_eq]
  unfold cmp_isNaN_int at hf
  unfold c254
  refine (show awp Tryz.prog false 0 _ (ofL [(0,(.int .i64 x_1))]) [] _ from ?_)
  refine awp_seq ?_
  refine w_reg ?_
  refine s_do (o_mov (.bool false) rfl) ?_
  refine w_done ?_
  refine k_seq ?_
  refine awp_seq ?_
  refine w_reg ?_
  refine s_do (o_mov (.int .i64 x_1) rfl) ?_
  refine s_do (o_mov (.int .i64 x_1) rfl) ?_
  refine s_do (o_q (.bool (x_1 != x_1)) rfl rfl rfl) ?_
  refine s_do (o_mov (.bool (x_1 != x_1)) rfl) ?_
  refine w_done ?_
  refine k_seq ?_
  refine w_ret ?_
  obtain rfl:=os hf
  exact r_flat ⟨trivial,trivial⟩ rfl (.refl _)

/- cmp.Compare[int] -/
def c246:ACode :=
 (.seq (.reg (tm 4 (.c (.int .i64 0)) .done))
 (.seq (.reg (tm 7 (.t 0) (tq 8 (.call 254 [(.t 7)]) (tm 5 (.t 8) .done))))
 (.seq (.reg (tm 9 (.t 1) (tq 10 (.call 254 [(.t 9)]) (tm 6 (.t 10) .done))))
 (.seq (.seq (.reg (tm 11 (.t 5) .done))
 (.cond (.t 11) (.seq (.seq (.reg (tm 12 (.t 6) .done))
 (.cond (.t 12) (.seq (.reg (tm 4 (.c (.int .i64 0)) .done))
 .ret)
 .skip))
 (.seq (.reg (tq 4 (.mov (.c (.int .i64 (-1)))) .done))
 .ret))
 .skip))
 (.seq (.seq (.reg (tm 13 (.t 6) .done))
 (.cond (.t 13) (.seq (.reg (tm 4 (.c (.int .i64 1)) .done))
 .ret)
 .skip))
 (.seq (.seq (.reg (tm 14 (.t 0) (tm 15 (.t 1) (tq 16 (.bin .lss (.t 14) (.t 15)) .done))))
 (.cond (.t 16) (.seq (.reg (tq 4 (.mov (.c (.int .i64 (-1)))) .done))
 .ret)
 .skip))
 (.seq (.seq (.reg (tm 17 (.t 0) (tm 18 (.t 1) (tq 19 (.bin .gtr (.t 17) (.t 18)) .done))))
 (.cond (.t 19) (.seq (.reg (tm 4 (.c (.int .i64 1)) .done))
 .ret)
 .skip))
 (.seq (.reg (tm 4 (.c (.int .i64 0)) .done))
 .ret))))))))
theorem fc246:fcomp Tryz.prog Tryz.f246 = some (c246.erase,[.mov (.t 4)],20):=by kernel_rfl
def cmp_Compare_int (x_1:Int) (y_2:Int):Option Int :=
    (cmp_isNaN_int x_1).bind fun r_3 =>
    (cmp_isNaN_int y_2).bind fun r_5 =>
    if r_3 then
    if r_5 then
    some 0
    else
    some (-1)
    else
    if r_5 then
    some 1
    else
    if (decide (x_1 < y_2)) then
    some (-1)
    else
    if (decide (x_1 > y_2)) then
    some 1
    else
    some 0
theorem w_cmp_Compare_int (x_1:Int) (y_2:Int) (r:Int) (hf:cmp_Compare_int x_1 y_2 = some r):CallOK Tryz.prog 246 .flat [(.int .i64 x_1),(.int .i64 y_2)] (.int .i64 r):=by
 refine CallOK.of_awp mixed Tryz.func246 fc246 nle ?_;rw [argT_eq];unfold cmp_Compare_int at hf;unfold c246;refine (show awp Tryz.prog false 0 _ (ofL [(0,(.int .i64 x_1)),(1,(.int .i64 y_2))]) [] _ from ?_);refine sr<|s_mov (.int .i64 0) rfl<|dk<|sr<|?_
 obtain ⟨r_3,er4,hf⟩:=ob hf
 refine s_mov (.int .i64 x_1) rfl<|s_do (o_call (w_cmp_isNaN_int _ _ er4) rfl (.refl _) rfl)<|s_mov (.bool r_3) rfl<|dk<|sr<|?_
 obtain ⟨r_5,er6,hf⟩:=ob hf
 refine s_mov (.int .i64 y_2) rfl<|s_do (o_call (w_cmp_isNaN_int _ _ er6) rfl (.refl _) rfl)<|s_mov (.bool r_5) rfl<|dk<|awp_seq<|sr<|s_mov (.bool r_3) rfl<|dk<|?_
 rcases oi hf with ⟨c7,hf⟩ | ⟨c7,hf⟩
 ·refine w_condt rfl c7<|awp_seq<|sr<|s_mov (.bool r_5) rfl<|dk<|?_
  rcases oi hf with ⟨c8,hf⟩ | ⟨c8,hf⟩
  ·refine w_condt rfl c8<|sr<|s_mov (.int .i64 0) rfl<|dk<|w_ret<|?_;obtain rfl:=os hf;exact r_flat ⟨trivial,trivial⟩ rfl (.refl _)
  ·refine w_condf rfl (bf c8)<|w_skip<|k_seq<|sr<|s_mov (.int .i64 (-1)) rfl<|dk<|w_ret<|?_;obtain rfl:=os hf;exact r_flat ⟨trivial,trivial⟩ rfl (.refl _)
 ·refine w_condf rfl (bf c7)<|w_skip<|k_seq<|awp_seq<|sr<|s_mov (.bool r_5) rfl<|dk<|?_
  rcases oi hf with ⟨c9,hf⟩ | ⟨c9,hf⟩
  ·refine w_condt rfl c9<|sr<|s_mov (.int .i64 1) rfl<|dk<|w_ret<|?_;obtain rfl:=os hf;exact r_flat ⟨trivial,trivial⟩ rfl (.refl _)
  ·refine w_condf rfl (bf c9)<|w_skip<|k_seq<|awp_seq<|sr<|s_mov (.int .i64 x_1) rfl<|s_mov (.int .i64 y_2) rfl<|s_q (.bool (decide (x_1 < y_2))) rfl rfl rfl<|dk<|?_
   rcases oi hf with ⟨c10,hf⟩ | ⟨c10,hf⟩
   ·refine w_condt rfl c10<|sr<|s_mov (.int .i64 (-1)) rfl<|dk<|w_ret<|?_;obtain rfl:=os hf;exact r_flat ⟨trivial,trivial⟩ rfl (.refl _)
   ·refine w_condf rfl (bf c10)<|w_skip<|k_seq<|awp_seq<|sr<|s_mov (.int .i64 x_1) rfl<|s_mov (.int .i64 y_2) rfl<|s_q (.bool (decide (x_1 > y_2))) rfl rfl rfl<|dk<|?_
    rcases oi hf with ⟨c11,hf⟩ | ⟨c11,hf⟩
    ·refine w_condt rfl c11<|sr<|s_mov (.int .i64 1) rfl<|dk<|w_ret<|?_;obtain rfl:=os hf;exact r_flat ⟨trivial,trivial⟩ rfl (.refl _)
    ·refine w_condf rfl (bf c11)<|w_skip<|k_seq<|sr<|s_mov (.int .i64 0) rfl<|dk<|w_ret<|?_;obtain rfl:=os hf;exact r_flat ⟨trivial,trivial⟩ rfl (.refl _)

/- internal/bytealg.CompareString -/
def internal_bytealg_CompareString (a b:Str):Option Int:=some (Lib.compareBytes a b)
set_option maxRecDepth 100000 in
open Go.RowKit in
theorem cmps_run (a b:ByteArray) (w:World):Calls Tryz.prog 255 #[.string a,.string b] w fun e w' => e = .returned (.int .i64 (Lib.compareBytes a.data.toList b.data.toList)) ∧ w' = w:=by
  go_enter Tryz.func255,(show Tryz.f255.ntmps = _ from rfl)
  go_wp2
  rw [run_callFunc_extern Tryz.func258 (by kernel_rfl) (by kernel_rfl) (by kernel_rfl) (e:=Extern.BytealgCompare.compare) (by kernel_rfl),Lib.run_compareString]
  simp only [Result.andThen]
  rw [Oper.upon_value]
  go_wp2
  go_ret
  exact ⟨rfl,rfl⟩
open Go.RowKit in
theorem w_internal_bytealg_CompareString (a b:Str) (r:Int) (hf:internal_bytealg_CompareString a b = some r):CallOK Tryz.prog 255 .flat [(.str a),(.str b)] (.int .i64 r):=by
  intro w vals fps hr
  simp only [RepVs,Rep] at hr
  obtain ⟨v1,vs1,f1,f2,rfl,⟨rfl,h1,rfl⟩,⟨v2,vs2,f3,f4,rfl,⟨rfl,h2,rfl⟩,⟨rfl,rfl⟩,rfl⟩,rfl⟩:=hr
  unfold internal_bytealg_CompareString at hf
  obtain rfl:=os hf
  refine (cmps_run ⟨a.toArray⟩ ⟨b.toArray⟩ w).mono ?_
  rintro e w' ⟨rfl,rfl⟩
  refine ⟨Below.refl _ _,?_⟩
  exact ⟨[.int .i64 (Lib.compareBytes a b)],rfl,by simp [Rep]⟩

/- strings.Compare -/
def c247:ACode :=
 (.seq (.reg (tm 4 (.c (.int .i64 0)) .done))
 (.seq (.reg (tm 5 (.t 0) (tm 6 (.t 1) (tq 7 (.call 255 [(.t 5),(.t 6)]) (tm 4 (.t 7) .done)))))
 .ret))
theorem fc247:fcomp Tryz.prog Tryz.f247 = some (c247.erase,[.mov (.t 4)],8):=by kernel_rfl
def strings_Compare (a_1:Str) (b_2:Str):Option Int :=
    (internal_bytealg_CompareString a_1 b_2).bind fun r_3 =>
    some r_3
theorem w_strings_Compare (a_1:Str) (b_2:Str) (r:Int) (hf:strings_Compare a_1 b_2 = some r):CallOK Tryz.prog 247 .flat [(.str a_1),(.str b_2)] (.int .i64 r):=by
  refine CallOK.of_awp mixed Tryz.func247 fc247 nle ?_
  rw [argT_eq]
  unfold strings_Compare at hf
  unfold c247
  refine (show awp Tryz.prog false 0 _ (ofL [(0,(.str a_1)),(1,(.str b_2))]) [] _ from ?_)
  refine awp_seq ?_
  refine w_reg ?_
  refine s_do (o_mov (.int .i64 0) rfl) ?_
  refine w_done ?_
  refine k_seq ?_
  refine awp_seq ?_
  refine w_reg ?_
  obtain ⟨r_3,er4,hf⟩:=ob hf
  refine s_do (o_mov (.str a_1) rfl) ?_
  refine s_do (o_mov (.str b_2) rfl) ?_
  refine s_do (o_call (w_internal_bytealg_CompareString _ _ _ er4) rfl (.refl _) rfl) ?_
  refine s_do (o_mov (.int .i64 r_3) rfl) ?_
  refine w_done ?_
  refine k_seq ?_
  refine w_ret ?_
  obtain rfl:=os hf
  exact r_flat ⟨trivial,trivial⟩ rfl (.refl _)

/- cmp.Or[int] -/
def c245:ACode :=
 (.seq (.reg (tm 2 (.c (.int .i64 0)) .done))
 (.seq (.reg (tm 3 (.c (.int .i64 0)) .done))
 (.seq (.seq (.reg (tm 6 (.t 0) (tq 7 (.len (.t 6)) (tm 8 (.c (.int .i64 0)) .done))))
 (.block 0 (.loop (.seq (.reg (tq 9 (.bin .lss (.t 8) (.t 7)) .done))
 (.seq (.cond (.t 9) .skip
 (.exit 0))
 (.seq (.block 1 (.seq (.reg (tq 10 (.iaddr 1 (.t 6) (.t 8)) (tq 11 (.load 1 false (.t 10)) (tm 5 (.t 11) .done))))
 (.seq (.reg (tm 12 (.t 5) (tm 13 (.t 3) (tq 14 (.bin .neq (.t 12) (.t 13)) .done))))
 (.cond (.t 14) (.seq (.reg (tm 15 (.t 5) (tm 2 (.t 15) .done)))
 .ret)
 .skip))))
 (.reg (tq 16 (.bin .add (.t 8) (.c (.int .i64 1))) (tm 8 (.t 16) .done)))))))))
 (.cut (.seq (.reg (tm 17 (.t 3) (tm 2 (.t 17) .done)))
 .ret)))))
theorem fc245:fcomp Tryz.prog Tryz.f245 = some (c245.erase,[.mov (.t 2)],18):=by kernel_rfl
def cmp_Or_int_L1 :List Int → Option (Fl Int Unit)
  | [] =>
    some (.go ())
  | x_24 :: xs =>
    if (x_24 != 0) then
    some (.ret x_24)
    else
    cmp_Or_int_L1 xs 

def cmp_Or_int (vals_1:(List Int)):Option Int :=
    (cmp_Or_int_L1 vals_1 ).bind fun q => (match q with
    | .ret r => some r
    | .go _ =>
    some 0)
theorem w_cmp_Or_int (vals_1:(List Int)) (r:Int) (hf:cmp_Or_int vals_1 = some r):CallOK Tryz.prog 245 .flat [(.lst 1 (vals_1.map encI))] (.int .i64 r):=by
 refine CallOK.of_awp mixed Tryz.func245 fc245 nle ?_;rw [argT_eq];unfold cmp_Or_int at hf;unfold c245;refine (show awp Tryz.prog false 0 _ (ofL [(0,(.lst 1 (vals_1.map encI)))]) [] _ from ?_);refine sr<|s_mov (.int .i64 0) rfl<|dk<|sr<|s_mov (.int .i64 0) rfl<|dk<|awp_seq<|sr<|s_mov (.lst 1 (vals_1.map encI)) rfl<|s_dof (o_len (enc:=encI) rfl) fun hl2 => s_mov (.int .i64 0) rfl<|dk<|?_
 obtain ⟨p17,hb1,hf⟩:=ob hf
 refine awp_cutx (X:={q:Unit // p17 = .go q}) (fun q => ([(3,(.int .i64 0))],[])) ?_ ?_
 ·refine awp_loop (X:={q:Nat // cmp_Or_int_L1 (vals_1.drop q)  = some p17}) (fun q => ([(3,(.int .i64 0)),(6,(.lst 1 (vals_1.map encI))),(7,(.int .i64 (vals_1.length:Int))),(8,(.int .i64 (q.1:Int)))],[])) (fun q => vals_1.length - q.1) ⟨0,hb1⟩ ⟨[],[],_,_,rfl,rfl,⟨.refl _,⟨.refl _,⟨.refl _,⟨.refl _,trivial⟩⟩⟩⟩,(.refl _)⟩ ?_
  rintro ⟨s8_12,hc1⟩
  have hc1:cmp_Or_int_L1 (vals_1.drop s8_12)  = some p17:=hc1
  refine (show awp Tryz.prog false 0 _ (ofL [(3,(.int .i64 0)),(6,(.lst 1 (vals_1.map encI))),(7,(.int .i64 (vals_1.length:Int))),(8,(.int .i64 (s8_12:Int)))]) [] _ from ?_)
  rcases dropc vals_1 s8_12 with ⟨hie20,hd23⟩ | ⟨hlt18,x_24,hx19,hd23⟩
  ·rw [hd23,cmp_Or_int_L1.eq_1] at hc1
   have hq22:=dlf hie20
   refine sr<|s_q (.bool (decide ((s8_12:Int) < (vals_1.length:Int)))) rfl rfl rfl<|dk<|awp_seq<|w_condf rfl hq22<|w_exit<|k_seqx<|k_loopx<|k_blkx<|?_;obtain rfl:=os hc1;exact k_cutn ⟨_,rfl⟩ ⟨[],[],_,_,rfl,rfl,⟨.refl _,trivial⟩,(.refl _)⟩
  ·rw [hd23,cmp_Or_int_L1.eq_2] at hc1
   have hq22:=dlt hlt18
   refine sr<|s_q (.bool (decide ((s8_12:Int) < (vals_1.length:Int)))) rfl rfl rfl<|dk<|awp_seq<|w_condt rfl hq22<|w_skip<|k_seq<|awp_seq<|w_blk<|sr<|s_do (o_iaddrn (enc:=encI) rfl rfl hx19)<|s_q (.int .i64 x_24) rfl ⟨rfl,rfl⟩ rfl<|s_mov (.int .i64 x_24) rfl<|dk<|sr<|s_mov (.int .i64 x_24) rfl<|s_mov (.int .i64 0) rfl<|s_q (.bool (x_24 != 0)) rfl rfl rfl<|dk<|?_
   rcases oi hc1 with ⟨c25,hc1⟩ | ⟨c25,hc1⟩
   ·refine w_condt rfl c25<|sr<|s_mov (.int .i64 x_24) rfl<|s_mov (.int .i64 x_24) rfl<|dk<|w_ret<|?_;obtain rfl:=os hc1;obtain rfl:=os hf;exact r_flat ⟨trivial,trivial⟩ rfl (.refl _)
   ·refine w_condf rfl (bf c25)<|w_skip<|k_blk<|k_seq<|w_reg<|s_q (.int .i64 (w64 ((s8_12:Int) + 1))) rfl rfl rfl<|s_mov (.int .i64 (w64 ((s8_12:Int) + 1))) rfl<|w_done<|?_;exact k_loopn ⟨(s8_12 + 1),hc1⟩ (mul hlt18) ⟨[],[],_,_,rfl,rfl,⟨.refl _,⟨.refl _,⟨.refl _,⟨.of_eq (congrArg (AV.int _) (w64_incr hlt18 hl2)),trivial⟩⟩⟩⟩,(.refl _)⟩
 ·rintro ⟨_,rfl⟩
  refine sr<|s_mov (.int .i64 0) rfl<|s_mov (.int .i64 0) rfl<|dk<|w_ret<|?_;obtain rfl:=os hf;exact r_flat ⟨trivial,trivial⟩ rfl (.refl _)

/- impl.compareAtoms -/
def c215:ACode :=
 (.seq (.reg (tq 2 (.box 3 (.t 0)) (tq 3 (.box 3 (.t 1)) (tm 4 (.c (.int .i64 0)) .done))))
 (.seq (.reg (tq 5 (.faddr 0 (.t 2)) (tq 6 (.load 1 false (.t 5)) (tq 7 (.faddr 0 (.t 3)) (tq 8 (.load 1 false (.t 7)) (tq 10 (.faddr 1 (.t 2)) (tq 11 (.load 1 false (.t 10)) (tq 12 (.faddr 1 (.t 3)) (tq 13 (.load 1 false (.t 12)) (tq 15 (.faddr 2 (.t 2)) (tq 16 (.load 1 false (.t 15)) (tq 17 (.faddr 2 (.t 3)) (tq 18 (.load 1 false (.t 17)) (.l ⟨(some 9),none,.call 246 [(.t 6),(.t 8)]⟩ [⟨(some 18),none,.load 1 false (.t 17)⟩,⟨(some 17),none,.faddr 2 (.t 3)⟩,⟨(some 16),none,.load 1 false (.t 15)⟩,⟨(some 15),none,.faddr 2 (.t 2)⟩,⟨(some 13),none,.load 1 false (.t 12)⟩,⟨(some 12),none,.faddr 1 (.t 3)⟩,⟨(some 11),none,.load 1 false (.t 10)⟩,⟨(some 10),none,.faddr 1 (.t 2)⟩]
 (.l ⟨(some 14),none,.call 246 [(.t 11),(.t 13)]⟩ [⟨(some 18),none,.load 1 false (.t 17)⟩,⟨(some 17),none,.faddr 2 (.t 3)⟩,⟨(some 16),none,.load 1 false (.t 15)⟩,⟨(some 15),none,.faddr 2 (.t 2)⟩]
 (.l ⟨(some 19),none,.call 247 [(.t 16),(.t 18)]⟩ []
 (.l ⟨(some 20),none,.bslice 1 [(.t 9),(.t 14),(.t 19)]⟩ []
 (.l ⟨(some 21),none,.call 245 [(.t 20)]⟩ []
 (tm 4 (.t 21) .done) .non) .non) .non) .non) .non))))))))))))))
 .ret))
theorem fc215:fcomp Tryz.prog Tryz.f215 = some (c215.erase,[.mov (.t 4)],22):=by kernel_rfl
def impl_compareAtoms (a_1:GAtom) (b_2:GAtom):Option Int :=
    (cmp_Compare_int a_1.Kind b_2.Kind).bind fun r_3 =>
    (cmp_Compare_int a_1.N b_2.N).bind fun r_5 =>
    (strings_Compare a_1.T b_2.T).bind fun r_7 =>
    (cmp_Or_int [r_3,r_5,r_7]).bind fun r_9 =>
    some r_9
theorem w_impl_compareAtoms (a_1:GAtom) (b_2:GAtom) (r:Int) (hf:impl_compareAtoms a_1 b_2 = some r):CallOK Tryz.prog 215 .flat [(encGAtom a_1),(encGAtom b_2)] (.int .i64 r):=by
 refine CallOK.of_awp mixed Tryz.func215 fc215 nle ?_;rw [argT_eq];unfold impl_compareAtoms at hf;unfold c215;refine (show awp Tryz.prog false 0 _ (ofL [(0,(encGAtom a_1)),(1,(encGAtom b_2))]) [] _ from ?_);refine sr<|s_do (o_box (j:=0) (c:=(.agg [(.int .i64 a_1.Kind),(.int .i64 a_1.N),(.str a_1.T)])) rfl trivial rfl rfl)<|s_do (o_box (j:=1) (c:=(.agg [(.int .i64 b_2.Kind),(.int .i64 b_2.N),(.str b_2.T)])) rfl trivial rfl rfl)<|s_mov (.int .i64 0) rfl<|dk<|sr<|s_q (.ptr 0 0 0) rfl trivial rfl<|s_q (.int .i64 a_1.Kind) rfl nle rfl<|s_q (.ptr 1 0 0) rfl trivial rfl<|s_q (.int .i64 b_2.Kind) rfl nle rfl<|s_q (.ptr 0 0 1) rfl trivial rfl<|s_q (.int .i64 a_1.N) rfl nle rfl<|?_
 refine s_q (.ptr 1 0 1) rfl trivial rfl<|s_q (.int .i64 b_2.N) rfl nle rfl<|s_q (.ptr 0 0 2) rfl trivial rfl<|s_q (.str a_1.T) rfl nle rfl<|s_q (.ptr 1 0 2) rfl trivial rfl<|s_q (.str b_2.T) rfl nle rfl<|?_
 obtain ⟨r_3,er4,hf⟩:=ob hf
 refine s_dol (o_call (w_cmp_Compare_int _ _ _ er4) rfl (.refl _) rfl) a_same trivial ?_
 obtain ⟨r_5,er6,hf⟩:=ob hf
 refine s_dol (o_call (w_cmp_Compare_int _ _ _ er6) rfl (.refl _) rfl) a_same trivial ?_
 obtain ⟨r_7,er8,hf⟩:=ob hf
 refine s_dol (o_call (w_strings_Compare _ _ _ er8) rfl (.refl _) rfl) a_same trivial ?_;refine s_dol (o_bslice (j:=2) (as':=[(.int .i64 r_3),(.int .i64 r_5),(.int .i64 r_7)]) rfl (fun _ => by decide) ⟨rfl,⟨rfl,⟨rfl,trivial⟩⟩⟩ (.refl _) rfl rfl rfl) trivial trivial ?_
 obtain ⟨r_9,er10,hf⟩:=ob hf
 refine s_dol (o_call (w_cmp_Or_int _ _ er10) rfl (.cons (.of_eq (congrArg (AV.lst _) (tko [r_3,r_5,r_7]))) .nil) rfl) a_same trivial<|s_mov (.int .i64 r_9) rfl<|dk<|w_ret<|?_;obtain rfl:=os hf;exact r_flat ⟨trivial,trivial⟩ rfl (.refl _)

/- impl.DatumOK -/
def c149:ACode :=
 (.seq (.reg (tm 2 (.c (.bool false)) .done))
 (.seq (.seq (.reg (tm 5 (.t 0) (tq 6 (.len (.t 5)) (tm 7 (.c (.int .i64 0)) .done))))
 (.block 0 (.loop (.seq (.reg (tq 8 (.bin .lss (.t 7) (.t 6)) .done))
 (.seq (.cond (.t 8) .skip
 (.exit 0))
 (.seq (.block 1 (.seq (.reg (tm 9 (.t 7) (tq 10 (.iaddr 3 (.t 5) (.t 7)) (tq 11 (.load 3 true (.t 10)) (tq 4 (.box 3 (.c (.agg [(.int .i64 0),(.int .i64 0),(.str [])]))) (tm 3 (.t 9) (.q ⟨none,none,.store 3 (.t 4) (.t 11)⟩
 .done)))))))
 (.seq (.reg (tq 12 (.load 3 true (.t 4)) (.l ⟨(some 13),none,.call 214 [(.t 12)]⟩ []
 (tq 14 (.not (.t 13)) (tm 15 (.t 14) (tg 16 15 false (.faddr 0 (.t 4)) (tg 17 15 false (.load 1 false (.t 16)) (tg 18 15 false (.mov (.t 0)) (tg 19 15 false (.iaddr 3 (.t 18) (.c (.int .i64 0))) (tg 20 15 false (.faddr 0 (.t 19)) (tg 21 15 false (.load 1 false (.t 20)) (tg 22 15 false (.bin .neq (.t 17) (.t 21)) (tq 23 (.pick (.t 15) (.c (.bool true)) (.t 22)) (tm 24 (.t 23) (tg 25 24 false (.mov (.t 3)) (tg 26 24 false (.bin .gtr (.t 25) (.c (.int .i64 0))) (tg 27 24 false (.mov (.t 26)) (tg 28 27 true (.mov (.t 0)) (tg 29 27 true (.mov (.t 3)) (tg 30 27 true (.bin .sub (.t 29) (.c (.int .i64 1))) (tg 31 27 true (.iaddr 3 (.t 28) (.t 30)) (tg 32 27 true (.load 3 true (.t 31)) (tg 33 27 true (.load 3 true (.t 4)) (.l ⟨(some 34),(some (27,true)),.call 215 [(.t 32),(.t 33)]⟩ []
 (tg 35 27 true (.bin .geq (.t 34) (.c (.int .i64 0))) (tg 36 24 false (.pick (.t 27) (.t 35) (.c (.bool false))) (tq 37 (.pick (.t 24) (.c (.bool true)) (.t 36)) .done))) .non))))))))))))))))))))) .non)))
 (.cut (.cond (.t 37) (.seq (.reg (tm 2 (.c (.bool false)) .done))
 .ret)
 .skip)))))
 (.reg (tq 38 (.bin .add (.t 7) (.c (.int .i64 1))) (tm 7 (.t 38) .done)))))))))
 (.cut (.seq (.reg (tm 39 (.t 0) (tq 40 (.len (.t 39)) (tq 41 (.bin .leq (.t 40) (.c (.int .i64 8))) (tm 2 (.t 41) .done)))))
 .ret))))
theorem fc149:fcomp Tryz.prog Tryz.f149 = some (c149.erase,[.mov (.t 2)],42):=by kernel_rfl
def impl_DatumOK_L1 (d_1:(List GAtom)):List GAtom → Nat → Option (Fl Bool Unit)
  | [],s7_60 =>
    some (.go ())
  | x_96 :: xs,s7_60 =>
    (((impl_AtomOK x_96).bind fun r_110 =>
    if (!r_110) then
    some true
    else
    (idx d_1 0).bind fun x_113 =>
    if (x_96.Kind != x_113.Kind) then
    some true
    else
    if (decide ((s7_60:Int) > 0)) then
    (idx d_1 (w64 ((s7_60:Int) - 1))).bind fun x_117 =>
    (impl_compareAtoms x_117 x_96).bind fun r_119 =>
    some (decide (r_119 ≥ 0))
    else
    some false:Option Bool)).bind fun s37_108 =>
    if s37_108 then
    some (.ret false)
    else
    impl_DatumOK_L1 d_1 xs (s7_60 + 1)

def impl_DatumOK (d_1:(List GAtom)):Option Bool :=
    (impl_DatumOK_L1 d_1 d_1 0).bind fun q => (match q with
    | .ret r => some r
    | .go _ =>
    some (decide ((d_1.length:Int) ≤ 8)))
theorem w_impl_DatumOK (d_1:(List GAtom)) (r:Bool) (hf:impl_DatumOK d_1 = some r):CallOK Tryz.prog 149 .flat [(.lst 3 (d_1.map encGAtom))] (.bool r):=by
 refine CallOK.of_awp mixed Tryz.func149 fc149 nle ?_;rw [argT_eq];unfold impl_DatumOK at hf;unfold c149;refine (show awp Tryz.prog false 0 _ (ofL [(0,(.lst 3 (d_1.map encGAtom)))]) [] _ from ?_);refine sr<|s_mov (.bool false) rfl<|dk<|awp_seq<|sr<|s_mov (.lst 3 (d_1.map encGAtom)) rfl<|s_dof (o_len (enc:=encGAtom) rfl) fun hl2 => s_mov (.int .i64 0) rfl<|dk<|?_
 obtain ⟨p89,hb1,hf⟩:=ob hf
 refine awp_cutx (X:={q:Unit // p89 = .go q}) (fun q => ([(0,(.lst 3 (d_1.map encGAtom)))],[])) ?_ ?_
 ·refine awp_loop (X:={q:Nat // impl_DatumOK_L1 d_1 (d_1.drop q) q = some p89}) (fun q => ([(0,(.lst 3 (d_1.map encGAtom))),(5,(.lst 3 (d_1.map encGAtom))),(6,(.int .i64 (d_1.length:Int))),(7,(.int .i64 (q.1:Int)))],[])) (fun q => d_1.length - q.1) ⟨0,hb1⟩ ⟨[],[],_,_,rfl,rfl,⟨.refl _,⟨.refl _,⟨.refl _,⟨.refl _,trivial⟩⟩⟩⟩,(.refl _)⟩ ?_
  rintro ⟨s7_60,hc1⟩
  have hc1:impl_DatumOK_L1 d_1 (d_1.drop s7_60) s7_60 = some p89:=hc1
  refine (show awp Tryz.prog false 0 _ (ofL [(0,(.lst 3 (d_1.map encGAtom))),(5,(.lst 3 (d_1.map encGAtom))),(6,(.int .i64 (d_1.length:Int))),(7,(.int .i64 (s7_60:Int)))]) [] _ from ?_)
  rcases dropc d_1 s7_60 with ⟨hie92,hd95⟩ | ⟨hlt90,x_96,hx91,hd95⟩
  ·rw [hd95,impl_DatumOK_L1.eq_1] at hc1
   have hq94:=dlf hie92
   refine sr<|s_q (.bool (decide ((s7_60:Int) < (d_1.length:Int)))) rfl rfl rfl<|dk<|awp_seq<|w_condf rfl hq94<|w_exit<|k_seqx<|k_loopx<|k_blkx<|?_;obtain rfl:=os hc1;exact k_cutn ⟨_,rfl⟩ ⟨[],[],_,_,rfl,rfl,⟨.refl _,trivial⟩,(.refl _)⟩
  ·rw [hd95,impl_DatumOK_L1.eq_2] at hc1
   have hq94:=dlt hlt90
   refine sr<|s_q (.bool (decide ((s7_60:Int) < (d_1.length:Int)))) rfl rfl rfl<|dk<|awp_seq<|w_condt rfl hq94<|w_skip<|k_seq<|awp_seq<|w_blk<|sr<|s_mov (.int .i64 (s7_60:Int)) rfl<|s_do (o_iaddrn (enc:=encGAtom) rfl rfl hx91)<|s_q (encGAtom x_96) rfl nle rfl<|s_do (o_box (j:=0) (c:=(.agg [(.int .i64 0),(.int .i64 0),(.str [])])) rfl trivial rfl rfl)<|s_mov (.int .i64 (s7_60:Int)) rfl<|s_do0 (o_storebox (v:=(.agg [(.int .i64 x_96.Kind),(.int .i64 x_96.N),(.str x_96.T)])) (y':=(.agg [(.int .i64 x_96.Kind),(.int .i64 x_96.N),(.str x_96.T)])) rfl rfl rfl trivial ⟨rfl,nle⟩ ⟨⟨rfl,trivial⟩,⟨⟨rfl,trivial⟩,⟨⟨rfl,trivial⟩,trivial⟩⟩⟩ rfl)<|?_
   refine dk<|awp_seq<|?_
   obtain ⟨s37_108,hb2,hc1⟩:=ob hc1
   refine awp_cut ([(0,(.lst 3 (d_1.map encGAtom))),(5,(.lst 3 (d_1.map encGAtom))),(6,(.int .i64 (d_1.length:Int))),(7,(.int .i64 (s7_60:Int))),(37,(.bool s37_108))],[]) ?_ ?_
   ·refine w_reg<|s_q (.agg [(.int .i64 x_96.Kind),(.int .i64 x_96.N),(.str x_96.T)]) rfl nle rfl<|?_
    obtain ⟨r_110,er111,hb2⟩:=ob hb2
    refine s_dol (o_call (w_impl_AtomOK _ _ er111) rfl (.refl _) rfl) a_same trivial<|s_q (.bool (!r_110)) rfl trivial rfl<|s_mov (.bool (!r_110)) rfl<|?_
    rcases oi hb2 with ⟨c112,hb2⟩ | ⟨c112,hb2⟩
    ·refine s_lit (s:=15) (b:=true) rfl c112<|s_off rfl rfl<|s_off rfl rfl<|s_off rfl rfl<|s_off rfl rfl<|s_off rfl rfl<|s_off rfl rfl<|s_off rfl rfl<|s_q (.bool true) rfl trivial rfl<|s_mov (.bool true) rfl<|s_off rfl rfl<|s_off rfl rfl<|s_off rfl rfl<|s_offs rfl<|s_offs rfl<|s_offs rfl<|s_offs rfl<|s_offs rfl<|s_offs rfl<|s_offsl rfl trivial<|s_offs rfl<|s_off rfl rfl<|s_q (.bool true) rfl trivial rfl<|w_done<|?_;obtain rfl:=os hb2;exact ⟨[],[],_,_,rfl,rfl,⟨.refl _,⟨.refl _,⟨.refl _,⟨.refl _,⟨.refl _,trivial⟩⟩⟩⟩⟩,(.refl _)⟩
    ·refine s_lit (s:=15) (b:=false) rfl (bf c112)<|s_on rfl<|s_q (.ptr 0 0 0) rfl trivial rfl<|s_on rfl<|s_q (.int .i64 x_96.Kind) rfl nle rfl<|s_on rfl<|s_mov (.lst 3 (d_1.map encGAtom)) rfl<|s_on rfl<|?_
     obtain ⟨x_113,ex114,hb2⟩:=ob hb2
     refine s_do (o_iaddr (enc:=encGAtom) rfl rfl (idx0 ex114) (idx1 ex114))<|s_on rfl<|s_q (.iptr (encGAtom x_113) 0) rfl trivial rfl<|s_on rfl<|s_q (.int .i64 x_113.Kind) rfl nle rfl<|s_on rfl<|s_q (.bool (x_96.Kind != x_113.Kind)) rfl rfl rfl<|s_q (.bool (x_96.Kind != x_113.Kind)) rfl trivial rfl<|s_mov (.bool (x_96.Kind != x_113.Kind)) rfl<|?_
     rcases oi hb2 with ⟨c115,hb2⟩ | ⟨c115,hb2⟩
     ·refine s_lit (s:=24) (b:=true) rfl c115<|s_off rfl rfl<|s_off rfl rfl<|s_off rfl rfl<|s_offs rfl<|s_offs rfl<|s_offs rfl<|s_offs rfl<|s_offs rfl<|s_offs rfl<|s_offsl rfl trivial<|s_offs rfl<|s_off rfl rfl<|s_q (.bool true) rfl trivial rfl<|w_done<|?_;obtain rfl:=os hb2;exact ⟨[],[],_,_,rfl,rfl,⟨.refl _,⟨.refl _,⟨.refl _,⟨.refl _,⟨.refl _,trivial⟩⟩⟩⟩⟩,(.refl _)⟩
     ·refine s_lit (s:=24) (b:=false) rfl (bf c115)<|s_on rfl<|s_mov (.int .i64 (s7_60:Int)) rfl<|s_on rfl<|s_q (.bool (decide ((s7_60:Int) > 0))) rfl rfl rfl<|s_on rfl<|s_mov (.bool (decide ((s7_60:Int) > 0))) rfl<|?_
      rcases oi hb2 with ⟨c116,hb2⟩ | ⟨c116,hb2⟩
      ·refine s_lit (s:=27) (b:=true) rfl c116<|s_on rfl<|s_mov (.lst 3 (d_1.map encGAtom)) rfl<|s_on rfl<|s_mov (.int .i64 (s7_60:Int)) rfl<|s_on rfl<|s_q (.int .i64 (w64 ((s7_60:Int) - 1))) rfl rfl rfl<|s_on rfl<|?_
       obtain ⟨x_117,ex118,hb2⟩:=ob hb2
       refine s_do (o_iaddr (enc:=encGAtom) rfl rfl (idx0 ex118) (idx1 ex118))<|s_on rfl<|s_q (encGAtom x_117) rfl nle rfl<|s_on rfl<|s_q (.agg [(.int .i64 x_96.Kind),(.int .i64 x_96.N),(.str x_96.T)]) rfl nle rfl<|s_onl rfl<|?_
       obtain ⟨r_119,er120,hb2⟩:=ob hb2
       refine s_dol (o_call (w_impl_compareAtoms _ _ _ er120) rfl (.refl _) rfl) a_same trivial<|s_on rfl<|s_q (.bool (decide (r_119 ≥ 0))) rfl rfl rfl<|s_on rfl<|s_q (.bool (decide (r_119 ≥ 0))) rfl trivial rfl<|s_q (.bool (decide (r_119 ≥ 0))) rfl trivial rfl<|w_done<|?_;obtain rfl:=os hb2;exact ⟨[],[],_,_,rfl,rfl,⟨.refl _,⟨.refl _,⟨.refl _,⟨.refl _,⟨.refl _,trivial⟩⟩⟩⟩⟩,(.refl _)⟩
      ·refine s_lit (s:=27) (b:=false) rfl (bf c116)<|s_off rfl rfl<|s_off rfl rfl<|s_off rfl rfl<|s_off rfl rfl<|s_off rfl rfl<|s_off rfl rfl<|s_offl rfl rfl trivial<|s_off rfl rfl<|s_on rfl<|s_q (.bool false) rfl trivial rfl<|s_q (.bool false) rfl trivial rfl<|w_done<|?_;obtain rfl:=os hb2;exact ⟨[],[],_,_,rfl,rfl,⟨.refl _,⟨.refl _,⟨.refl _,⟨.refl _,⟨.refl _,trivial⟩⟩⟩⟩⟩,(.refl _)⟩
   ·rcases oi hc1 with ⟨c121,hc1⟩ | ⟨c121,hc1⟩
    ·refine w_condt rfl c121<|sr<|s_mov (.bool false) rfl<|dk<|w_ret<|?_;obtain rfl:=os hc1;obtain rfl:=os hf;exact r_flat ⟨trivial,trivial⟩ rfl (.refl _)
    ·refine w_condf rfl (bf c121)<|w_skip<|k_blk<|k_seq<|w_reg<|s_q (.int .i64 (w64 ((s7_60:Int) + 1))) rfl rfl rfl<|s_mov (.int .i64 (w64 ((s7_60:Int) + 1))) rfl<|w_done<|?_;exact k_loopn ⟨(s7_60 + 1),hc1⟩ (mul hlt90) ⟨[],[],_,_,rfl,rfl,⟨.refl _,⟨.refl _,⟨.refl _,⟨.of_eq (congrArg (AV.int _) (w64_incr hlt90 hl2)),trivial⟩⟩⟩⟩,(.refl _)⟩
 ·rintro ⟨_,rfl⟩
  refine sr<|s_mov (.lst 3 (d_1.map encGAtom)) rfl<|s_dof (o_len (enc:=encGAtom) rfl) fun hl122 => s_q (.bool (decide ((d_1.length:Int) ≤ 8))) rfl rfl rfl<|s_mov (.bool (decide ((d_1.length:Int) ≤ 8))) rfl<|dk<|w_ret<|?_;obtain rfl:=os hf;exact r_flat ⟨trivial,trivial⟩ rfl (.refl _)

/- impl.condOK -/
def c138:ACode :=
 (.seq (.reg (tq 1 (.box 3 (.t 0)) (tm 2 (.c (.bool false)) .done)))
 (.seq (.reg (tq 3 (.faddr 1 (.t 1)) (tq 4 (.load 1 false (.t 3)) (tq 5 (.call 57 [(.t 4),(.c (.int .i64 1)),(.c (.int .i64 8))]) (tm 6 (.t 5) (tg 7 6 true (.faddr 2 (.t 1)) (tg 8 6 true (.load 1 false (.t 7)) (tg 9 6 true (.call 149 [(.t 8)]) (tq 10 (.pick (.t 6) (.t 9) (.c (.bool false))) (tm 11 (.t 10) (tg 12 11 true (.faddr 0 (.t 1)) (tg 13 11 true (.load 1 false (.t 12)) (tg 14 11 true (.bslice 1 [(.t 13)]) (tg 15 11 true (.call 53 [(.t 14)]) (tq 16 (.pick (.t 11) (.t 15) (.c (.bool false))) (tm 2 (.t 16) .done))))))))))))))))
 .ret))
theorem fc138:fcomp Tryz.prog Tryz.f138 = some (c138.erase,[.mov (.t 2)],17):=by kernel_rfl
def impl_condOK (c_1:GCond):Option Bool :=
    (impl_within c_1.Func 1 8).bind fun r_2 =>
    if r_2 then
    (impl_DatumOK c_1.Value).bind fun r_5 =>
    if r_5 then
    (impl_areShort [c_1.Column]).bind fun r_8 =>
    some r_8
    else
    some false
    else
    some false
theorem w_impl_condOK (c_1:GCond) (r:Bool) (hf:impl_condOK c_1 = some r):CallOK Tryz.prog 138 .flat [(encGCond c_1)] (.bool r):=by
 refine CallOK.of_awp mixed Tryz.func138 fc138 nle ?_;rw [argT_eq];unfold impl_condOK at hf;unfold c138;refine (show awp Tryz.prog false 0 _ (ofL [(0,(encGCond c_1))]) [] _ from ?_);refine sr<|s_do (o_box (j:=0) (c:=(.agg [(.str c_1.Column),(.int .i64 c_1.Func),(.lst 3 (c_1.Value.map encGAtom))])) rfl trivial rfl rfl)<|s_mov (.bool false) rfl<|dk<|sr<|s_q (.ptr 0 0 1) rfl trivial rfl<|s_q (.int .i64 c_1.Func) rfl nle rfl<|?_
 obtain ⟨r_2,er3,hf⟩:=ob hf
 refine s_do (o_call (w_impl_within _ _ _ _ er3) rfl (.refl _) rfl)<|s_mov (.bool r_2) rfl<|?_
 rcases oi hf with ⟨c4,hf⟩ | ⟨c4,hf⟩
 ·refine s_lit (s:=6) (b:=true) rfl c4<|s_on rfl<|s_q (.ptr 0 0 2) rfl trivial rfl<|s_on rfl<|s_q (.lst 3 (c_1.Value.map encGAtom)) rfl nle rfl<|s_on rfl<|?_
  obtain ⟨r_5,er6,hf⟩:=ob hf
  refine s_do (o_call (w_impl_DatumOK _ _ er6) rfl (.refl _) rfl)<|s_q (.bool r_5) rfl trivial rfl<|s_mov (.bool r_5) rfl<|?_
  rcases oi hf with ⟨c7,hf⟩ | ⟨c7,hf⟩
  ·refine s_lit (s:=11) (b:=true) rfl c7<|s_on rfl<|s_q (.ptr 0 0 0) rfl trivial rfl<|s_on rfl<|s_q (.str c_1.Column) rfl nle rfl<|s_on rfl<|?_;refine s_do (o_bslice (j:=1) (as':=[(.str c_1.Column)]) rfl (fun _ => by decide) ⟨rfl,trivial⟩ (.refl _) rfl rfl rfl) ?_;refine s_on rfl ?_
   obtain ⟨r_8,er9,hf⟩:=ob hf
   refine s_do (o_call (w_impl_areShort _ _ er9) rfl (.cons (.of_eq (congrArg (AV.lst _) (tko [c_1.Column]))) .nil) rfl)<|s_q (.bool r_8) rfl trivial rfl<|s_mov (.bool r_8) rfl<|dk<|w_ret<|?_;obtain rfl:=os hf;exact r_flat ⟨trivial,trivial⟩ rfl (.refl _)
  ·refine s_lit (s:=11) (b:=false) rfl (bf c7)<|s_off rfl rfl<|s_off rfl rfl<|s_off rfl rfl<|s_off rfl rfl<|s_q (.bool false) rfl trivial rfl<|s_mov (.bool false) rfl<|dk<|w_ret<|?_;obtain rfl:=os hf;exact r_flat ⟨trivial,trivial⟩ rfl (.refl _)
 ·refine s_lit (s:=6) (b:=false) rfl (bf c4)<|s_off rfl rfl<|s_off rfl rfl<|s_off rfl rfl<|s_q (.bool false) rfl trivial rfl<|s_mov (.bool false) rfl<|s_off rfl rfl<|s_off rfl rfl<|s_off rfl rfl<|s_off rfl rfl<|s_q (.bool false) rfl trivial rfl<|s_mov (.bool false) rfl<|dk<|w_ret<|?_;obtain rfl:=os hf;exact r_flat ⟨trivial,trivial⟩ rfl (.refl _)

/- impl.condsOK$1 -/
def c137:ACode :=
 (.seq (.reg (tq 1 (.box 3 (.t 0)) (tm 2 (.c (.bool false)) .done)))
 (.seq (.reg (tq 3 (.load 3 true (.t 1)) (tq 4 (.call 138 [(.t 3)]) (tq 5 (.not (.t 4)) (tm 2 (.t 5) .done)))))
 .ret))
theorem fc137:fcomp Tryz.prog Tryz.f137 = some (c137.erase,[.mov (.t 2)],6):=by kernel_rfl
def impl_condsOK_1 (c_1:GCond):Option Bool :=
    (impl_condOK c_1).bind fun r_2 =>
    some (!r_2)
theorem w_impl_condsOK_1 (c_1:GCond) (r:Bool) (hf:impl_condsOK_1 c_1 = some r):CallOK Tryz.prog 137 .flat [(encGCond c_1)] (.bool r):=by
  refine CallOK.of_awp mixed Tryz.func137 fc137 nle ?_
  rw [argT_eq]
  unfold impl_condsOK_1 at hf
  unfold c137
  refine (show awp Tryz.prog false 0 _ (ofL [(0,(encGCond c_1))]) [] _ from ?_)
  refine awp_seq ?_
  refine w_reg ?_
  refine s_do (o_box (j:=0) (c:=(.agg [(.str c_1.Column),(.int .i64 c_1.Func),(.lst 3 (c_1.Value.map encGAtom))])) rfl trivial rfl rfl) ?_
  refine s_do (o_mov (.bool false) rfl) ?_
  refine w_done ?_
  refine k_seq ?_
  refine awp_seq ?_
  refine w_reg ?_
  obtain ⟨r_2,er3,hf⟩:=ob hf
  refine s_do (o_q (.agg [(.str c_1.Column),(.int .i64 c_1.Func),(.lst 3 (c_1.Value.map encGAtom))]) rfl nle rfl) ?_
  refine s_do (o_call (w_impl_condOK _ _ er3) rfl (.refl _) rfl) ?_
  refine s_do (o_q (.bool (!r_2)) rfl trivial rfl) ?_
  refine s_do (o_mov (.bool (!r_2)) rfl) ?_
  refine w_done ?_
  refine k_seq ?_
  refine w_ret ?_
  obtain rfl:=os hf
  exact r_flat ⟨trivial,trivial⟩ rfl (.refl _)

/- impl.condsOK -/
def c54:ACode :=
 (.seq (.reg (tm 2 (.c (.bool false)) .done))
 (.seq (.reg (tm 3 (.t 0) (tq 4 (.len (.t 3)) (tq 5 (.bin .leq (.t 4) (.c (.int .i64 8))) (tm 6 (.t 5) (tg 7 6 true (.mov (.t 0)) (tg 8 6 true (.call 136 [(.t 7),(.c (.fn 137 []))]) (tg 9 6 true (.not (.t 8)) (tq 10 (.pick (.t 6) (.t 9) (.c (.bool false))) (tm 2 (.t 10) .done))))))))))
 .ret))
theorem fc54:fcomp Tryz.prog Tryz.f54 = some (c54.erase,[.mov (.t 2)],11):=by kernel_rfl
def impl_condsOK (list_1:(List GCond)):Option Bool :=
    if (decide ((list_1.length:Int) ≤ 8)) then
    (slices_ContainsFunc_impl_Cond_impl_Cond list_1 impl_condsOK_1).bind fun r_4 =>
    some (!r_4)
    else
    some false
theorem w_impl_condsOK (list_1:(List GCond)) (r:Bool) (hf:impl_condsOK list_1 = some r):CallOK Tryz.prog 54 .flat [(.lst 3 (list_1.map encGCond))] (.bool r):=by
 refine CallOK.of_awp mixed Tryz.func54 fc54 nle ?_;rw [argT_eq];unfold impl_condsOK at hf;unfold c54;refine (show awp Tryz.prog false 0 _ (ofL [(0,(.lst 3 (list_1.map encGCond)))]) [] _ from ?_);refine sr<|s_mov (.bool false) rfl<|dk<|sr<|?_
 rcases oi hf with ⟨c3,hf⟩ | ⟨c3,hf⟩
 ·obtain ⟨r_4,er5,hf⟩:=ob hf
  refine s_mov (.lst 3 (list_1.map encGCond)) rfl<|s_dof (o_len (enc:=encGCond) rfl) fun hl2 => s_q (.bool (decide ((list_1.length:Int) ≤ 8))) rfl rfl rfl<|s_mov (.bool (decide ((list_1.length:Int) ≤ 8))) rfl<|s_lit (s:=6) (b:=true) rfl c3<|s_on rfl<|s_mov (.lst 3 (list_1.map encGCond)) rfl<|s_on rfl<|?_;refine s_do (o_call (w_slices_ContainsFunc_impl_Cond_impl_Cond _ _ _ er5 137 [] (by kernel_rfl) (fun _ _ => rfl) (fun _ => rfl) (fun a0 r h => w_impl_condsOK_1 a0 r h)) rfl (.refl _) rfl) ?_;refine s_on rfl<|s_q (.bool (!r_4)) rfl trivial rfl<|s_q (.bool (!r_4)) rfl trivial rfl<|s_mov (.bool (!r_4)) rfl<|dk<|w_ret<|?_;obtain rfl:=os hf;exact r_flat ⟨trivial,trivial⟩ rfl (.refl _)
 ·refine s_mov (.lst 3 (list_1.map encGCond)) rfl<|s_dof (o_len (enc:=encGCond) rfl) fun hl2 => s_q (.bool (decide ((list_1.length:Int) ≤ 8))) rfl rfl rfl<|s_mov (.bool (decide ((list_1.length:Int) ≤ 8))) rfl<|s_lit (s:=6) (b:=false) rfl (bf c3)<|s_off rfl rfl<|s_off rfl rfl<|s_off rfl rfl<|s_q (.bool false) rfl trivial rfl<|s_mov (.bool false) rfl<|dk<|w_ret<|?_;obtain rfl:=os hf;exact r_flat ⟨trivial,trivial⟩ rfl (.refl _)

end Go.R
