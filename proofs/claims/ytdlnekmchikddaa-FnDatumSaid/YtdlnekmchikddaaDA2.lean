/- Walks. -/
import Derived.Test.YtdlnekmchikddaaDA1
set_option linter.all false
namespace Go.R
open Go Go.Proofs
set_option linter.unusedVariables false
set_option linter.unusedSimpArgs false
set_option maxHeartbeats 8000000
/- laws.FnDatum -/
def c3:ACode :=
 (.seq (.reg (tm 4 (.c (.bool false)) .done))
 (.seq (.seq (.reg (tm 21 (.t 0) (tq 22 (.len (.t 21)) (tq 23 (.bin .gtr (.t 22) (.c (.int .i64 1048576))) (tm 24 (.t 23) (tg 25 24 false (.mov (.t 1)) (tg 26 24 false (.len (.t 25)) (tg 27 24 false (.bin .gtr (.t 26) (.c (.int .i64 1048576))) (tq 28 (.pick (.t 24) (.c (.bool true)) (.t 27)) .done)))))))))
 (.cut (.cond (.t 28) (.seq (.reg (tm 4 (.c (.bool true)) .done))
 .ret)
 .skip)))
 (.seq (.reg (tm 29 (.t 0) (tm 30 (.t 1) (tq 31 (.call 8 [(.t 30),(.c (.int .i64 0)),(.c (.int .i64 4))]) (tq 32 (.bin .add (.c (.int .i64 1)) (.t 31)) (tq 33 (.call 7 [(.t 29),(.t 32)]) (tm 5 (.t 33) .done)))))))
 (.seq (.reg (tq 34 (.bslice 3 []) (tm 6 (.t 34) .done)))
 (.seq (.seq (.reg (tm 35 (.t 5) (tq 36 (.len (.t 35)) (tq 37 (.bin .sub (.t 36) (.c (.int .i64 1))) (tm 7 (.t 37) .done)))))
 (.block 0 (.loop (.seq (.seq (.reg (tm 38 (.t 7) (tq 39 (.bin .geq (.t 38) (.c (.int .i64 0))) .done)))
 (.cond (.t 39) .skip
 (.exit 0)))
 (.seq (.block 1 (.reg (tm 42 (.t 6) (tm 43 (.t 5) (tm 44 (.t 7) (tq 45 (.iaddr 3 (.t 43) (.t 44)) (tq 46 (.load 3 true (.t 45)) (tq 47 (.bslice 3 [(.t 46)]) (tq 48 (.append 3 32 (.t 42) (.t 47)) (tm 6 (.t 48) .done))))))))))
 (.reg (tm 40 (.t 7) (tq 41 (.bin .sub (.t 40) (.c (.int .i64 1))) (tm 7 (.t 41) .done)))))))))
 (.cut (.seq (.reg (tm 50 (.t 5) (tq 51 (.call 9 [(.t 50)]) (tm 49 (.t 51) (tq 52 (.extract 0 (.t 49)) (tq 53 (.extract 1 (.t 49)) (tm 8 (.t 52) (tm 9 (.t 53) .done))))))))
 (.seq (.reg (tm 55 (.t 6) (tq 56 (.call 9 [(.t 55)]) (tm 54 (.t 56) (tq 57 (.extract 0 (.t 54)) (tq 58 (.extract 1 (.t 54)) (tm 10 (.t 57) (tm 11 (.t 58) .done))))))))
 (.seq (.reg (tm 60 (.t 8) (tq 61 (.call 9 [(.t 60)]) (tm 59 (.t 61) (tq 62 (.extract 0 (.t 59)) (tq 63 (.extract 1 (.t 59)) (tm 12 (.t 62) (tm 13 (.t 63) .done))))))))
 (.seq (.seq (.reg (tm 64 (.t 9) (tq 65 (.bin .neq (.t 64) (.c (.int .i64 0))) (tm 66 (.t 65) (tg 67 66 false (.mov (.t 11)) (tg 68 66 false (.bin .neq (.t 67) (.c (.int .i64 0))) (tq 69 (.pick (.t 66) (.c (.bool true)) (.t 68)) (tm 70 (.t 69) (tg 71 70 false (.mov (.t 13)) (tg 72 70 false (.bin .neq (.t 71) (.c (.int .i64 0))) (tq 73 (.pick (.t 70) (.c (.bool true)) (.t 72)) (tm 74 (.t 73) (tg 75 74 false (.mov (.t 8)) (tg 76 74 false (.mov (.t 10)) (tg 77 74 false (.call 10 [(.t 75),(.t 76)]) (tg 78 74 false (.not (.t 77)) (tq 79 (.pick (.t 74) (.c (.bool true)) (.t 78)) (tm 80 (.t 79) (tg 81 80 false (.mov (.t 8)) (tg 82 80 false (.mov (.t 12)) (tg 83 80 false (.call 10 [(.t 81),(.t 82)]) (tg 84 80 false (.not (.t 83)) (tq 85 (.pick (.t 80) (.c (.bool true)) (.t 84)) (tm 86 (.t 85) (tg 87 86 false (.mov (.t 8)) (tg 88 86 false (.call 11 [(.t 87)]) (tg 89 86 false (.not (.t 88)) (tq 90 (.pick (.t 86) (.c (.bool true)) (.t 89)) .done))))))))))))))))))))))))))))
 (.cut (.cond (.t 90) (.seq (.reg (tm 4 (.c (.bool false)) .done))
 .ret)
 .skip)))
 (.seq (.seq (.reg (tm 14 (.c (.int .i64 0)) .done))
 (.block 2 (.loop (.seq (.seq (.reg (tm 91 (.t 14) (tm 92 (.t 5) (tq 93 (.len (.t 92)) (tq 94 (.bin .lss (.t 91) (.t 93)) .done)))))
 (.cond (.t 94) .skip
 (.exit 2)))
 (.seq (.block 3 (.seq (.reg (tm 98 (.t 8) (tm 99 (.t 5) (tm 100 (.t 14) (tq 101 (.iaddr 3 (.t 99) (.t 100)) (tq 102 (.load 3 true (.t 101)) (tq 103 (.call 12 [(.t 98),(.t 102)]) (tm 97 (.t 103) (tq 104 (.extract 0 (.t 97)) (tq 105 (.extract 1 (.t 97)) (tm 15 (.t 104) (tm 16 (.t 105) .done))))))))))))
 (.seq (.reg (tm 107 (.t 5) (tq 108 (.iaddr 3 (.t 107) (.c (.int .i64 0))) (tq 109 (.load 3 true (.t 108)) (tm 110 (.t 5) (tm 111 (.t 14) (tq 112 (.iaddr 3 (.t 110) (.t 111)) (tq 113 (.load 3 true (.t 112)) (.l ⟨(some 114),none,.call 13 [(.t 109),(.t 113)]⟩ []
 (tm 106 (.t 114) (tq 115 (.extract 0 (.t 106)) (tq 116 (.extract 1 (.t 106)) (tm 17 (.t 115) (tm 18 (.t 116) .done))))) .non)))))))))
 (.seq (.reg (tm 118 (.t 5) (tm 119 (.t 14) (tq 120 (.iaddr 3 (.t 118) (.t 119)) (tq 121 (.load 3 true (.t 120)) (tm 122 (.t 5) (tq 123 (.iaddr 3 (.t 122) (.c (.int .i64 0))) (tq 124 (.load 3 true (.t 123)) (.l ⟨(some 125),none,.call 13 [(.t 121),(.t 124)]⟩ []
 (tm 117 (.t 125) (tq 126 (.extract 0 (.t 117)) (tq 127 (.extract 1 (.t 117)) (tm 19 (.t 126) (tm 20 (.t 127) .done))))) .non)))))))))
 (.seq (.reg (tm 128 (.t 16) (tq 129 (.bin .neq (.t 128) (.c (.int .i64 0))) (tm 130 (.t 129) (tg 131 130 false (.mov (.t 15)) (tg 132 130 false (.not (.t 131)) (tq 133 (.pick (.t 130) (.c (.bool true)) (.t 132)) (tm 134 (.t 133) (tg 135 134 false (.mov (.t 18)) (tg 136 134 false (.bin .neq (.t 135) (.c (.int .i64 0))) (tq 137 (.pick (.t 134) (.c (.bool true)) (.t 136)) (tm 138 (.t 137) (tg 139 138 false (.mov (.t 20)) (tg 140 138 false (.bin .neq (.t 139) (.c (.int .i64 0))) (tq 141 (.pick (.t 138) (.c (.bool true)) (.t 140)) (tm 142 (.t 141) (tg 143 142 false (.mov (.t 17)) (tg 144 142 false (.mov (.t 19)) (tg 145 142 false (.neg (.t 144)) (tg 146 142 false (.bin .neq (.t 143) (.t 145)) (tq 147 (.pick (.t 142) (.c (.bool true)) (.t 146)) (tm 148 (.t 147) (tg 149 148 false (.mov (.t 17)) (tg 150 148 false (.bin .eql (.t 149) (.c (.int .i64 0))) (tg 151 148 false (.mov (.t 5)) (tg 152 148 false (.iaddr 3 (.t 151) (.c (.int .i64 0))) (tg 153 148 false (.load 3 true (.t 152)) (tg 154 148 false (.mov (.t 5)) (tg 155 148 false (.mov (.t 14)) (tg 156 148 false (.iaddr 3 (.t 154) (.t 155)) (tg 157 148 false (.load 3 true (.t 156)) (tg 158 148 false (.eqs false [0,0,2] (.t 153) (.t 157)) (tg 159 148 false (.eqB true (.t 150) (.t 158)) (tq 160 (.pick (.t 148) (.c (.bool true)) (.t 159)) .done))))))))))))))))))))))))))))))))))
 (.cut (.cond (.t 160) (.seq (.reg (tm 4 (.c (.bool false)) .done))
 .ret)
 .skip)))))))
 (.reg (tm 95 (.t 14) (tq 96 (.bin .add (.t 95) (.c (.int .i64 1))) (tm 14 (.t 96) .done)))))))))
 (.cut (.seq (.reg (tm 161 (.t 8) (tq 162 (.len (.t 161)) (tm 163 (.t 5) (tq 164 (.len (.t 163)) (tq 165 (.bin .leq (.t 162) (.t 164)) (tm 4 (.t 165) .done)))))))
 .ret)))))))))))))
theorem fc3:fcomp Try.prog Try.f3 = some (c3.erase,[.mov (.t 4)],166):=by kernel_rfl
def laws_FnDatum_L1 (r_14:(List GAtom)):Nat → Int → (List GAtom) → Option (List GAtom)
  | 0,_,_ => none
  | k + 1,i_27,back_28 =>
    if (decide (i_27 ≥ 0)) then
    (idx r_14 i_27).bind fun x_36 =>
    if (back_28 ++ [x_36]).length ≤ 2 ^ 30 then
    laws_FnDatum_L1 r_14 k (w64 (i_27 - 1)) (back_28 ++ [x_36])
    else none
    else
    some back_28

def laws_FnDatum_L2 (r_39:((List GAtom) × Int)) (r_14:(List GAtom)):List GAtom → Option (Fl Bool Unit)
  | [] =>
    some (.go ())
  | x_175 :: xs =>
    (impl_DatumHas r_39.1 x_175).bind fun r_178 =>
    (idx r_14 0).bind fun x_180 =>
    (impl_OrderAtoms x_180 x_175).bind fun r_182 =>
    (idx r_14 0).bind fun x_184 =>
    (impl_OrderAtoms x_175 x_184).bind fun r_186 =>
    ((if (bif (bif (bif (r_178.2 != 0) then true else (!r_178.1)) then true else (r_182.2 != 0)) then true else (r_186.2 != 0)) then
    some true
    else
    if (r_182.1 != w64 (0 - r_186.1)) then
    some true
    else
    (idx r_14 0).bind fun x_196 =>
    some (!((r_182.1 == 0) == (x_196.Kind == x_175.Kind && (x_196.N == x_175.N && (x_196.T == x_175.T && true))))):Option Bool)).bind fun s160_192 =>
    if s160_192 then
    some (.ret false)
    else
    laws_FnDatum_L2 r_39 r_14 xs 

def laws_FnDatum (code_1:(List Int)) (more_2:(List Int)):Option Bool :=
    ((if (decide ((code_1.length:Int) > 1048576)) then
    some true
    else
    some (decide ((more_2.length:Int) > 1048576)):Option Bool)).bind fun s28_6 =>
    if s28_6 then
    some true
    else
    (laws_at more_2 0 4).bind fun r_12 =>
    (spec_AtomsOf code_1 (w64 (1 + r_12))).bind fun r_14 =>
    (laws_FnDatum_L1 r_14 FUEL (w64 ((r_14.length:Int) - 1)) []).bind fun back_33 =>
    (impl_DatumOf r_14).bind fun r_39 =>
    (impl_DatumOf back_33).bind fun r_41 =>
    (impl_DatumOf r_39.1).bind fun r_43 =>
    ((if (bif (bif (r_39.2 != 0) then true else (r_41.2 != 0)) then true else (r_43.2 != 0)) then
    some true
    else
    (laws_sameDatum r_39.1 r_41.1).bind fun r_57 =>
    if (!r_57) then
    some true
    else
    (laws_sameDatum r_39.1 r_43.1).bind fun r_60 =>
    if (!r_60) then
    some true
    else
    (impl_DatumOK r_39.1).bind fun r_63 =>
    some (!r_63):Option Bool)).bind fun s90_54 =>
    if s90_54 then
    some false
    else
    (laws_FnDatum_L2 r_39 r_14 r_14 ).bind fun q => (match q with
    | .ret r => some r
    | .go _ =>
    some (decide ((r_39.1.length:Int) ≤ (r_14.length:Int))))
theorem w_laws_FnDatum (code_1:(List Int)) (more_2:(List Int)) (r:Bool) (hf:laws_FnDatum code_1 more_2 = some r):CallOK Try.prog 3 .flat [(.lst 1 (code_1.map enc_u8)),(.lst 1 (more_2.map enc_u8))] (.bool r):=by
 refine CallOK.of_awp mixed Try.func3 fc3 nle ?_;rw [argT_eq];unfold laws_FnDatum at hf;unfold c3;refine (show awp Try.prog false 0 _ (ofL [(0,(.lst 1 (code_1.map enc_u8))),(1,(.lst 1 (more_2.map enc_u8)))]) [] _ from ?_);refine sr<|s_mov (.bool false) rfl<|dk<|awp_seq<|awp_seq<|?_
 obtain ⟨s28_6,hb1,hf⟩:=ob hf
 refine awp_cut ([(0,(.lst 1 (code_1.map enc_u8))),(1,(.lst 1 (more_2.map enc_u8))),(28,(.bool s28_6))],[]) ?_ ?_
 ·refine w_reg ?_
  rcases oi hb1 with ⟨c9,hb1⟩ | ⟨c9,hb1⟩
  ·refine s_mov (.lst 1 (code_1.map enc_u8)) rfl<|s_dof (o_len (enc:=enc_u8) rfl) fun hl8 => s_q (.bool (decide ((code_1.length:Int) > 1048576))) rfl rfl rfl<|s_mov (.bool (decide ((code_1.length:Int) > 1048576))) rfl<|s_lit (s:=24) (b:=true) rfl c9<|s_off rfl rfl<|s_off rfl rfl<|s_off rfl rfl<|s_q (.bool true) rfl trivial rfl<|w_done<|?_;obtain rfl:=os hb1;exact ⟨[],[],_,_,rfl,rfl,⟨.refl _,⟨.refl _,⟨.refl _,trivial⟩⟩⟩,(.refl _)⟩
  ·refine s_mov (.lst 1 (code_1.map enc_u8)) rfl<|s_dof (o_len (enc:=enc_u8) rfl) fun hl8 => s_q (.bool (decide ((code_1.length:Int) > 1048576))) rfl rfl rfl<|s_mov (.bool (decide ((code_1.length:Int) > 1048576))) rfl<|s_lit (s:=24) (b:=false) rfl (bf c9)<|s_on rfl<|s_mov (.lst 1 (more_2.map enc_u8)) rfl<|s_on rfl<|s_dof (o_len (enc:=enc_u8) rfl) fun hl10 => s_on rfl<|s_q (.bool (decide ((more_2.length:Int) > 1048576))) rfl rfl rfl<|s_q (.bool (decide ((more_2.length:Int) > 1048576))) rfl trivial rfl<|w_done<|?_;obtain rfl:=os hb1;exact ⟨[],[],_,_,rfl,rfl,⟨.refl _,⟨.refl _,⟨.refl _,trivial⟩⟩⟩,(.refl _)⟩
 ·rcases oi hf with ⟨c11,hf⟩ | ⟨c11,hf⟩
  ·refine w_condt rfl c11<|sr<|s_mov (.bool true) rfl<|dk<|w_ret<|?_;obtain rfl:=os hf;exact r_flat ⟨trivial,trivial⟩ rfl (.refl _)
  ·refine w_condf rfl (bf c11)<|w_skip<|k_seq<|sr<|?_
   obtain ⟨r_12,er13,hf⟩:=ob hf
   obtain ⟨r_14,er15,hf⟩:=ob hf
   refine s_mov (.lst 1 (code_1.map enc_u8)) rfl<|s_mov (.lst 1 (more_2.map enc_u8)) rfl<|s_do (o_call (w_laws_at _ _ _ _ er13) rfl (.refl _) rfl)<|s_q (.int .i64 (w64 (1 + r_12))) rfl rfl rfl<|s_do (o_callc rfl (w_spec_AtomsOf _ _ _ er15) rfl (.refl _) rfl)<|s_mov (.lst 3 (r_14.map encGAtom)) rfl<|dk<|sr<|?_;refine s_do (o_bslice (j:=0) (as':=[]) rfl (fun _ => by decide) trivial (.refl _) rfl rfl rfl) ?_;refine s_mov (.own 0 0 0) rfl<|dk<|awp_seq<|sr<|s_mov (.lst 3 (r_14.map encGAtom)) rfl<|s_dof (o_len (enc:=encGAtom) rfl) fun hl16 => s_q (.int .i64 (w64 ((r_14.length:Int) - 1))) rfl rfl rfl<|s_mov (.int .i64 (w64 ((r_14.length:Int) - 1))) rfl<|?_
   refine dk<|?_
   obtain ⟨back_33,hb1,hf⟩:=ob hf
   refine awp_cut ([(5,(.lst 3 (r_14.map encGAtom))),(6,(.own 0 0 back_33.length))],[.row 3 (back_33.map encGAtom)]) ?_ ?_
   ·refine awp_loop (X:={q:(Nat × Int × (List GAtom)) // laws_FnDatum_L1 r_14 q.1 q.2.1 q.2.2 = some back_33}) (fun q => ([(5,(.lst 3 (r_14.map encGAtom))),(6,(.own 0 0 q.1.2.2.length)),(7,(.int .i64 q.1.2.1))],[.row 3 (q.1.2.2.map encGAtom)])) (fun q => q.1.1) ⟨(FUEL,w64 ((r_14.length:Int) - 1),[]),hb1⟩ ⟨[],[0],_,_,rfl,rfl,⟨.refl _,⟨.of_eq (congrArg (AV.own _ 0) (by simp)),⟨.refl _,trivial⟩⟩⟩,(.refl _)⟩ ?_
    rintro ⟨⟨k,i_27,back_28⟩,hc1⟩
    have hc1:laws_FnDatum_L1 r_14 k i_27 back_28 = some back_33:=hc1
    refine (show awp Try.prog false 0 _ (ofL [(5,(.lst 3 (r_14.map encGAtom))),(6,(.own 0 0 back_28.length)),(7,(.int .i64 i_27))]) [.row 3 (back_28.map encGAtom)] _ from ?_)
    rcases k with _ | k
    ·rw [laws_FnDatum_L1.eq_1] at hc1
     cases hc1
    ·rw [laws_FnDatum_L1.eq_2] at hc1;refine awp_seq<|sr<|s_mov (.int .i64 i_27) rfl<|s_q (.bool (decide (i_27 ≥ 0))) rfl rfl rfl<|dk<|?_
     rcases oi hc1 with ⟨c35,hc1⟩ | ⟨c35,hc1⟩
     ·refine w_condt rfl c35<|w_skip<|k_seq<|awp_seq<|w_blk<|w_reg<|?_
      obtain ⟨x_36,ex37,hc1⟩:=ob hc1
      obtain ⟨g38,hc1⟩:=og hc1
      refine s_mov (.own 0 0 back_28.length) rfl<|s_mov (.lst 3 (r_14.map encGAtom)) rfl<|s_mov (.int .i64 i_27) rfl<|s_do (o_iaddr (enc:=encGAtom) rfl rfl (idx0 ex37) (idx1 ex37))<|s_q (encGAtom x_36) rfl nle rfl<|?_;refine s_do (o_bslice (j:=1) (as':=[(encGAtom x_36)]) rfl (fun _ => by decide) ⟨rfl,trivial⟩ (.refl _) rfl rfl rfl) ?_
      refine s_do (o_appendw (j:=2) (L:=((back_28 ++ [x_36]).map encGAtom)) (len:=(back_28 ++ [x_36]).length) rfl rfl (apoc (enc:=encGAtom) back_28 [x_36] _ rfl) (by simp <;> omega) g38 rfl rfl) ?_
      refine s_mov (.own 2 0 ((back_28 ++ [x_36]).length)) rfl<|w_done<|k_blk<|k_seq<|w_reg<|s_mov (.int .i64 i_27) rfl<|s_q (.int .i64 (w64 (i_27 - 1))) rfl rfl rfl<|s_mov (.int .i64 (w64 (i_27 - 1))) rfl<|w_done<|?_;exact k_loopn ⟨(k,w64 (i_27 - 1),back_28 ++ [x_36]),hc1⟩ (Nat.lt_succ_self _) ⟨[],[2],_,_,rfl,rfl,⟨.refl _,⟨.refl _,⟨.refl _,trivial⟩⟩⟩,(.refl _)⟩
     ·refine w_condf rfl (bf c35)<|w_exit<|k_seqx<|k_loopx<|k_blkx<|?_;obtain rfl:=os hc1;exact ⟨[],[0],_,_,rfl,rfl,⟨.refl _,⟨.refl _,trivial⟩⟩,(.refl _)⟩
   ·refine sr<|?_
    obtain ⟨r_39,er40,hf⟩:=ob hf
    refine s_mov (.lst 3 (r_14.map encGAtom)) rfl<|s_do (o_callc rfl (w_impl_DatumOf _ _ er40) rfl (.refl _) rfl)<|s_mov (.tup [(.lst 3 (r_39.1.map encGAtom)),(.int .i64 r_39.2)]) rfl<|s_q (.lst 3 (r_39.1.map encGAtom)) rfl nle rfl<|s_q (.int .i64 r_39.2) rfl nle rfl<|s_mov (.lst 3 (r_39.1.map encGAtom)) rfl<|s_mov (.int .i64 r_39.2) rfl<|dk<|sr<|?_
    obtain ⟨r_41,er42,hf⟩:=ob hf
    refine s_mov (.own 0 0 back_33.length) rfl<|s_do (o_callc rfl (w_impl_DatumOf _ _ er42) rfl (.cons (.of_eq (congrArg (AV.lst _) (tko back_33))) .nil) rfl)<|s_mov (.tup [(.lst 3 (r_41.1.map encGAtom)),(.int .i64 r_41.2)]) rfl<|s_q (.lst 3 (r_41.1.map encGAtom)) rfl nle rfl<|s_q (.int .i64 r_41.2) rfl nle rfl<|s_mov (.lst 3 (r_41.1.map encGAtom)) rfl<|s_mov (.int .i64 r_41.2) rfl<|dk<|sr<|?_
    obtain ⟨r_43,er44,hf⟩:=ob hf
    refine s_mov (.lst 3 (r_39.1.map encGAtom)) rfl<|s_do (o_callc rfl (w_impl_DatumOf _ _ er44) rfl (.refl _) rfl)<|s_mov (.tup [(.lst 3 (r_43.1.map encGAtom)),(.int .i64 r_43.2)]) rfl<|s_q (.lst 3 (r_43.1.map encGAtom)) rfl nle rfl<|s_q (.int .i64 r_43.2) rfl nle rfl<|s_mov (.lst 3 (r_43.1.map encGAtom)) rfl<|s_mov (.int .i64 r_43.2) rfl<|dk<|awp_seq<|awp_seq<|?_
    obtain ⟨s90_54,hb1,hf⟩:=ob hf
    refine awp_cut ([(5,(.lst 3 (r_14.map encGAtom))),(8,(.lst 3 (r_39.1.map encGAtom))),(90,(.bool s90_54))],[]) ?_ ?_
    ·refine w_reg<|s_mov (.int .i64 r_39.2) rfl<|s_q (.bool (r_39.2 != 0)) rfl rfl rfl<|s_mov (.bool (r_39.2 != 0)) rfl<|?_;refine s_g (v:=(r_39.2 != 0)) (.int .i64 r_41.2) rfl (fun hv => by (try simp only [gs_on hv]);exact ⟨rfl,trivial,rfl⟩) ?_;refine s_g (v:=(r_39.2 != 0)) (.bool (r_41.2 != 0)) rfl (fun hv => by (try simp only [gs_on hv]);exact ⟨rfl,rfl,rfl⟩) ?_;refine s_pick (x:=true) (y:=(r_41.2 != 0)) rfl (fun hv => by (try simp only [gs_on hv]);rfl) (fun hv => by (try simp only [gs_on hv]);rfl) ?_;refine s_mov (.bool (bif (r_39.2 != 0) then true else (r_41.2 != 0))) rfl ?_;refine s_g (v:=(bif (r_39.2 != 0) then true else (r_41.2 != 0))) (.int .i64 r_43.2) rfl (fun hv => by (try simp only [gs_on hv]);exact ⟨rfl,trivial,rfl⟩) ?_
     refine s_g (v:=(bif (r_39.2 != 0) then true else (r_41.2 != 0))) (.bool (r_43.2 != 0)) rfl (fun hv => by (try simp only [gs_on hv]);exact ⟨rfl,rfl,rfl⟩) ?_;refine s_pick (x:=true) (y:=(r_43.2 != 0)) rfl (fun hv => by (try simp only [gs_on hv]);rfl) (fun hv => by (try simp only [gs_on hv]);rfl) ?_;refine s_mov (.bool (bif (bif (r_39.2 != 0) then true else (r_41.2 != 0)) then true else (r_43.2 != 0))) rfl ?_
     rcases oi hb1 with ⟨c56,hb1⟩ | ⟨c56,hb1⟩
     ·refine s_lit (s:=74) (b:=true) rfl c56<|s_off rfl rfl<|s_off rfl rfl<|s_off rfl rfl<|s_off rfl rfl<|s_q (.bool true) rfl trivial rfl<|s_mov (.bool true) rfl<|s_off rfl rfl<|s_off rfl rfl<|s_off rfl rfl<|s_off rfl rfl<|s_q (.bool true) rfl trivial rfl<|s_mov (.bool true) rfl<|s_off rfl rfl<|s_off rfl rfl<|s_off rfl rfl<|s_q (.bool true) rfl trivial rfl<|w_done<|?_;obtain rfl:=os hb1;exact ⟨[],[],_,_,rfl,rfl,⟨.refl _,⟨.refl _,⟨.refl _,trivial⟩⟩⟩,(.refl _)⟩
     ·refine s_lit (s:=74) (b:=false) rfl (bf c56)<|s_on rfl<|s_mov (.lst 3 (r_39.1.map encGAtom)) rfl<|s_on rfl<|s_mov (.lst 3 (r_41.1.map encGAtom)) rfl<|s_on rfl<|?_
      obtain ⟨r_57,er58,hb1⟩:=ob hb1
      refine s_do (o_call (w_laws_sameDatum _ _ _ er58) rfl (.refl _) rfl)<|s_on rfl<|s_q (.bool (!r_57)) rfl trivial rfl<|s_q (.bool (!r_57)) rfl trivial rfl<|s_mov (.bool (!r_57)) rfl<|?_
      rcases oi hb1 with ⟨c59,hb1⟩ | ⟨c59,hb1⟩
      ·refine s_lit (s:=80) (b:=true) rfl c59<|s_off rfl rfl<|s_off rfl rfl<|s_off rfl rfl<|s_off rfl rfl<|s_q (.bool true) rfl trivial rfl<|s_mov (.bool true) rfl<|s_off rfl rfl<|s_off rfl rfl<|s_off rfl rfl<|s_q (.bool true) rfl trivial rfl<|w_done<|?_;obtain rfl:=os hb1;exact ⟨[],[],_,_,rfl,rfl,⟨.refl _,⟨.refl _,⟨.refl _,trivial⟩⟩⟩,(.refl _)⟩
      ·refine s_lit (s:=80) (b:=false) rfl (bf c59)<|s_on rfl<|s_mov (.lst 3 (r_39.1.map encGAtom)) rfl<|s_on rfl<|s_mov (.lst 3 (r_43.1.map encGAtom)) rfl<|s_on rfl<|?_
       obtain ⟨r_60,er61,hb1⟩:=ob hb1
       refine s_do (o_call (w_laws_sameDatum _ _ _ er61) rfl (.refl _) rfl)<|s_on rfl<|s_q (.bool (!r_60)) rfl trivial rfl<|s_q (.bool (!r_60)) rfl trivial rfl<|s_mov (.bool (!r_60)) rfl<|?_
       rcases oi hb1 with ⟨c62,hb1⟩ | ⟨c62,hb1⟩
       ·refine s_lit (s:=86) (b:=true) rfl c62<|s_off rfl rfl<|s_off rfl rfl<|s_off rfl rfl<|s_q (.bool true) rfl trivial rfl<|w_done<|?_;obtain rfl:=os hb1;exact ⟨[],[],_,_,rfl,rfl,⟨.refl _,⟨.refl _,⟨.refl _,trivial⟩⟩⟩,(.refl _)⟩
       ·refine s_lit (s:=86) (b:=false) rfl (bf c62)<|s_on rfl<|s_mov (.lst 3 (r_39.1.map encGAtom)) rfl<|s_on rfl<|?_
        obtain ⟨r_63,er64,hb1⟩:=ob hb1
        refine s_do (o_call (w_impl_DatumOK _ _ er64) rfl (.refl _) rfl)<|s_on rfl<|s_q (.bool (!r_63)) rfl trivial rfl<|s_q (.bool (!r_63)) rfl trivial rfl<|w_done<|?_;obtain rfl:=os hb1;exact ⟨[],[],_,_,rfl,rfl,⟨.refl _,⟨.refl _,⟨.refl _,trivial⟩⟩⟩,(.refl _)⟩
    ·rcases oi hf with ⟨c65,hf⟩ | ⟨c65,hf⟩
     ·refine w_condt rfl c65<|sr<|s_mov (.bool false) rfl<|dk<|w_ret<|?_;obtain rfl:=os hf;exact r_flat ⟨trivial,trivial⟩ rfl (.refl _)
     ·refine w_condf rfl (bf c65)<|w_skip<|k_seq<|awp_seq<|sr<|s_mov (.int .i64 0) rfl<|dk<|?_
      obtain ⟨p168,hb1,hf⟩:=ob hf
      refine awp_cutx (X:={q:Unit // p168 = .go q}) (fun q => ([(5,(.lst 3 (r_14.map encGAtom))),(8,(.lst 3 (r_39.1.map encGAtom)))],[])) ?_ ?_
      ·refine awp_loop (X:={q:Nat // laws_FnDatum_L2 r_39 r_14 (r_14.drop q)  = some p168}) (fun q => ([(5,(.lst 3 (r_14.map encGAtom))),(8,(.lst 3 (r_39.1.map encGAtom))),(14,(.int .i64 (q.1:Int)))],[])) (fun q => r_14.length - q.1) ⟨0,hb1⟩ ⟨[],[],_,_,rfl,rfl,⟨.refl _,⟨.refl _,⟨.refl _,trivial⟩⟩⟩,(.refl _)⟩ ?_
       rintro ⟨i_133,hc1⟩
       have hc1:laws_FnDatum_L2 r_39 r_14 (r_14.drop i_133)  = some p168:=hc1
       refine (show awp Try.prog false 0 _ (ofL [(5,(.lst 3 (r_14.map encGAtom))),(8,(.lst 3 (r_39.1.map encGAtom))),(14,(.int .i64 (i_133:Int)))]) [] _ from ?_)
       rcases dropc r_14 i_133 with ⟨hie171,hd174⟩ | ⟨hlt169,x_175,hx170,hd174⟩
       ·rw [hd174,laws_FnDatum_L2.eq_1] at hc1
        have hq173:=dlf hie171
        refine awp_seq<|sr<|s_mov (.int .i64 (i_133:Int)) rfl<|s_mov (.lst 3 (r_14.map encGAtom)) rfl<|s_dof (o_len (enc:=encGAtom) rfl) fun hl176 => s_q (.bool (decide ((i_133:Int) < (r_14.length:Int)))) rfl rfl rfl<|dk<|w_condf rfl hq173<|w_exit<|k_seqx<|k_loopx<|k_blkx<|?_;obtain rfl:=os hc1;exact k_cutn ⟨_,rfl⟩ ⟨[],[],_,_,rfl,rfl,⟨.refl _,⟨.refl _,trivial⟩⟩,(.refl _)⟩
       ·rw [hd174,laws_FnDatum_L2.eq_2] at hc1
        have hq173:=dlt hlt169
        refine awp_seq<|sr<|s_mov (.int .i64 (i_133:Int)) rfl<|s_mov (.lst 3 (r_14.map encGAtom)) rfl<|s_dof (o_len (enc:=encGAtom) rfl) fun hl177 => s_q (.bool (decide ((i_133:Int) < (r_14.length:Int)))) rfl rfl rfl<|dk<|w_condt rfl hq173<|w_skip<|k_seq<|awp_seq<|w_blk<|sr<|?_
        obtain ⟨r_178,er179,hc1⟩:=ob hc1
        refine s_mov (.lst 3 (r_39.1.map encGAtom)) rfl<|s_mov (.lst 3 (r_14.map encGAtom)) rfl<|s_mov (.int .i64 (i_133:Int)) rfl<|s_do (o_iaddrn (enc:=encGAtom) rfl rfl hx170)<|s_q (encGAtom x_175) rfl nle rfl<|s_do (o_call (w_impl_DatumHas _ _ _ er179) rfl (.refl _) rfl)<|s_mov (.tup [(.bool r_178.1),(.int .i64 r_178.2)]) rfl<|s_q (.bool r_178.1) rfl nle rfl<|s_q (.int .i64 r_178.2) rfl nle rfl<|s_mov (.bool r_178.1) rfl<|s_mov (.int .i64 r_178.2) rfl<|dk<|sr<|s_mov (.lst 3 (r_14.map encGAtom)) rfl<|?_
        obtain ⟨x_180,ex181,hc1⟩:=ob hc1
        refine s_do (o_iaddr (enc:=encGAtom) rfl rfl (idx0 ex181) (idx1 ex181))<|s_q (encGAtom x_180) rfl nle rfl<|s_mov (.lst 3 (r_14.map encGAtom)) rfl<|s_mov (.int .i64 (i_133:Int)) rfl<|s_do (o_iaddrn (enc:=encGAtom) rfl rfl hx170)<|s_q (encGAtom x_175) rfl nle rfl<|?_
        obtain ⟨r_182,er183,hc1⟩:=ob hc1
        refine s_dol (o_call (w_impl_OrderAtoms _ _ _ er183) rfl (.refl _) rfl) a_same trivial<|s_mov (.tup [(.int .i64 r_182.1),(.int .i64 r_182.2)]) rfl<|s_q (.int .i64 r_182.1) rfl nle rfl<|s_q (.int .i64 r_182.2) rfl nle rfl<|s_mov (.int .i64 r_182.1) rfl<|s_mov (.int .i64 r_182.2) rfl<|dk<|sr<|s_mov (.lst 3 (r_14.map encGAtom)) rfl<|s_mov (.int .i64 (i_133:Int)) rfl<|s_do (o_iaddrn (enc:=encGAtom) rfl rfl hx170)<|s_q (encGAtom x_175) rfl nle rfl<|s_mov (.lst 3 (r_14.map encGAtom)) rfl<|?_
        obtain ⟨x_184,ex185,hc1⟩:=ob hc1
        refine s_do (o_iaddr (enc:=encGAtom) rfl rfl (idx0 ex185) (idx1 ex185))<|s_q (encGAtom x_184) rfl nle rfl<|?_
        obtain ⟨r_186,er187,hc1⟩:=ob hc1
        refine s_dol (o_call (w_impl_OrderAtoms _ _ _ er187) rfl (.refl _) rfl) a_same trivial<|s_mov (.tup [(.int .i64 r_186.1),(.int .i64 r_186.2)]) rfl<|s_q (.int .i64 r_186.1) rfl nle rfl<|s_q (.int .i64 r_186.2) rfl nle rfl<|s_mov (.int .i64 r_186.1) rfl<|s_mov (.int .i64 r_186.2) rfl<|dk<|awp_seq<|?_
        obtain ⟨s160_192,hb2,hc1⟩:=ob hc1
        refine awp_cut ([(5,(.lst 3 (r_14.map encGAtom))),(8,(.lst 3 (r_39.1.map encGAtom))),(14,(.int .i64 (i_133:Int))),(160,(.bool s160_192))],[]) ?_ ?_
        ·refine w_reg<|s_mov (.int .i64 r_178.2) rfl<|s_q (.bool (r_178.2 != 0)) rfl rfl rfl<|s_mov (.bool (r_178.2 != 0)) rfl<|?_;refine s_g (v:=(r_178.2 != 0)) (.bool r_178.1) rfl (fun hv => by (try simp only [gs_on hv]);exact ⟨rfl,trivial,rfl⟩) ?_;refine s_g (v:=(r_178.2 != 0)) (.bool (!r_178.1)) rfl (fun hv => by (try simp only [gs_on hv]);exact ⟨rfl,trivial,rfl⟩) ?_;refine s_pick (x:=true) (y:=(!r_178.1)) rfl (fun hv => by (try simp only [gs_on hv]);rfl) (fun hv => by (try simp only [gs_on hv]);rfl) ?_;refine s_mov (.bool (bif (r_178.2 != 0) then true else (!r_178.1))) rfl ?_;refine s_g (v:=(bif (r_178.2 != 0) then true else (!r_178.1))) (.int .i64 r_182.2) rfl (fun hv => by (try simp only [gs_on hv]);exact ⟨rfl,trivial,rfl⟩) ?_
         refine s_g (v:=(bif (r_178.2 != 0) then true else (!r_178.1))) (.bool (r_182.2 != 0)) rfl (fun hv => by (try simp only [gs_on hv]);exact ⟨rfl,rfl,rfl⟩) ?_;refine s_pick (x:=true) (y:=(r_182.2 != 0)) rfl (fun hv => by (try simp only [gs_on hv]);rfl) (fun hv => by (try simp only [gs_on hv]);rfl) ?_;refine s_mov (.bool (bif (bif (r_178.2 != 0) then true else (!r_178.1)) then true else (r_182.2 != 0))) rfl ?_;refine s_g (v:=(bif (bif (r_178.2 != 0) then true else (!r_178.1)) then true else (r_182.2 != 0))) (.int .i64 r_186.2) rfl (fun hv => by (try simp only [gs_on hv]);exact ⟨rfl,trivial,rfl⟩) ?_;refine s_g (v:=(bif (bif (r_178.2 != 0) then true else (!r_178.1)) then true else (r_182.2 != 0))) (.bool (r_186.2 != 0)) rfl (fun hv => by (try simp only [gs_on hv]);exact ⟨rfl,rfl,rfl⟩) ?_
         refine s_pick (x:=true) (y:=(r_186.2 != 0)) rfl (fun hv => by (try simp only [gs_on hv]);rfl) (fun hv => by (try simp only [gs_on hv]);rfl) ?_;refine s_mov (.bool (bif (bif (bif (r_178.2 != 0) then true else (!r_178.1)) then true else (r_182.2 != 0)) then true else (r_186.2 != 0))) rfl ?_
         rcases oi hb2 with ⟨c194,hb2⟩ | ⟨c194,hb2⟩
         ·refine s_lit (s:=142) (b:=true) rfl c194<|s_off rfl rfl<|s_off rfl rfl<|s_off rfl rfl<|s_off rfl rfl<|s_q (.bool true) rfl trivial rfl<|s_mov (.bool true) rfl<|s_off rfl rfl<|s_off rfl rfl<|s_off rfl rfl<|s_off rfl rfl<|s_off rfl rfl<|s_off rfl rfl<|s_off rfl rfl<|s_off rfl rfl<|s_off rfl rfl<|s_off rfl rfl<|s_off rfl rfl<|s_q (.bool true) rfl trivial rfl<|w_done<|?_;obtain rfl:=os hb2;exact ⟨[],[],_,_,rfl,rfl,⟨.refl _,⟨.refl _,⟨.refl _,⟨.refl _,trivial⟩⟩⟩⟩,(.refl _)⟩
         ·refine s_lit (s:=142) (b:=false) rfl (bf c194)<|s_on rfl<|s_mov (.int .i64 r_182.1) rfl<|s_on rfl<|s_mov (.int .i64 r_186.1) rfl<|s_on rfl<|s_q (.int .i64 (w64 (0 - r_186.1))) rfl trivial rfl<|s_on rfl<|s_q (.bool (r_182.1 != w64 (0 - r_186.1))) rfl rfl rfl<|s_q (.bool (r_182.1 != w64 (0 - r_186.1))) rfl trivial rfl<|s_mov (.bool (r_182.1 != w64 (0 - r_186.1))) rfl<|?_
          rcases oi hb2 with ⟨c195,hb2⟩ | ⟨c195,hb2⟩
          ·refine s_lit (s:=148) (b:=true) rfl c195<|s_off rfl rfl<|s_off rfl rfl<|s_off rfl rfl<|s_off rfl rfl<|s_off rfl rfl<|s_off rfl rfl<|s_off rfl rfl<|s_off rfl rfl<|s_off rfl rfl<|s_off rfl rfl<|s_off rfl rfl<|s_q (.bool true) rfl trivial rfl<|w_done<|?_;obtain rfl:=os hb2;exact ⟨[],[],_,_,rfl,rfl,⟨.refl _,⟨.refl _,⟨.refl _,⟨.refl _,trivial⟩⟩⟩⟩,(.refl _)⟩
          ·refine s_lit (s:=148) (b:=false) rfl (bf c195)<|s_on rfl<|s_mov (.int .i64 r_182.1) rfl<|s_on rfl<|s_q (.bool (r_182.1 == 0)) rfl rfl rfl<|s_on rfl<|s_mov (.lst 3 (r_14.map encGAtom)) rfl<|s_on rfl<|?_
           obtain ⟨x_196,ex197,hb2⟩:=ob hb2
           refine s_do (o_iaddr (enc:=encGAtom) rfl rfl (idx0 ex197) (idx1 ex197))<|s_on rfl<|s_q (encGAtom x_196) rfl nle rfl<|s_on rfl<|s_mov (.lst 3 (r_14.map encGAtom)) rfl<|s_on rfl<|s_mov (.int .i64 (i_133:Int)) rfl<|s_on rfl<|s_do (o_iaddrn (enc:=encGAtom) rfl rfl hx170)<|s_on rfl<|s_q (encGAtom x_175) rfl nle rfl<|s_on rfl<|s_q (.bool (x_196.Kind == x_175.Kind && (x_196.N == x_175.N && (x_196.T == x_175.T && true)))) rfl ⟨⟨rfl,rfl⟩,⟨⟨rfl,rfl⟩,⟨rfl,trivial⟩⟩⟩ rfl<|s_on rfl<|s_q (.bool (!((r_182.1 == 0) == (x_196.Kind == x_175.Kind && (x_196.N == x_175.N && (x_196.T == x_175.T && true)))))) rfl trivial rfl<|s_q (.bool (!((r_182.1 == 0) == (x_196.Kind == x_175.Kind && (x_196.N == x_175.N && (x_196.T == x_175.T && true)))))) rfl trivial rfl<|?_
           refine w_done ?_;obtain rfl:=os hb2;exact ⟨[],[],_,_,rfl,rfl,⟨.refl _,⟨.refl _,⟨.refl _,⟨.refl _,trivial⟩⟩⟩⟩,(.refl _)⟩
        ·rcases oi hc1 with ⟨c198,hc1⟩ | ⟨c198,hc1⟩
         ·refine w_condt rfl c198<|sr<|s_mov (.bool false) rfl<|dk<|w_ret<|?_;obtain rfl:=os hc1;obtain rfl:=os hf;exact r_flat ⟨trivial,trivial⟩ rfl (.refl _)
         ·refine w_condf rfl (bf c198)<|w_skip<|k_blk<|k_seq<|w_reg<|s_mov (.int .i64 (i_133:Int)) rfl<|s_q (.int .i64 (w64 ((i_133:Int) + 1))) rfl rfl rfl<|s_mov (.int .i64 (w64 ((i_133:Int) + 1))) rfl<|w_done<|?_;exact k_loopn ⟨(i_133 + 1),hc1⟩ (mul hlt169) ⟨[],[],_,_,rfl,rfl,⟨.refl _,⟨.refl _,⟨.of_eq (congrArg (AV.int _) (w64_incr hlt169 hl177)),trivial⟩⟩⟩,(.refl _)⟩
      ·rintro ⟨_,rfl⟩
       refine sr<|s_mov (.lst 3 (r_39.1.map encGAtom)) rfl<|s_dof (o_len (enc:=encGAtom) rfl) fun hl199 => s_mov (.lst 3 (r_14.map encGAtom)) rfl<|s_dof (o_len (enc:=encGAtom) rfl) fun hl200 => s_q (.bool (decide ((r_39.1.length:Int) ≤ (r_14.length:Int)))) rfl rfl rfl<|s_mov (.bool (decide ((r_39.1.length:Int) ≤ (r_14.length:Int)))) rfl<|dk<|w_ret<|?_;obtain rfl:=os hf;exact r_flat ⟨trivial,trivial⟩ rfl (.refl _)

end Go.R
