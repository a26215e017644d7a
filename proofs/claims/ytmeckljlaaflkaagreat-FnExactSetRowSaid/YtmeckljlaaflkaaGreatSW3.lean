/- Walks. -/
import Derived.Test.YtmeckljlaaflkaaGreatSW2
set_option linter.all false
namespace Go.R
open Go Go.Proofs
set_option linter.unusedVariables false
set_option linter.unusedSimpArgs false
set_option maxHeartbeats 8000000
/- impl.setOK -/
def c143:ACode :=
 (.seq (.reg (tq 1 (.box 3 (.t 0)) (tm 2 (.c (.bool false)) .done)))
 (.seq (.seq (.reg (tq 3 (.faddr 0 (.t 1)) (tq 4 (.load 1 false (.t 3)) (tq 5 (.bslice 1 [(.t 4)]) (tq 6 (.call 53 [(.t 5)]) (tq 7 (.not (.t 6)) (tm 8 (.t 7) (tg 9 8 false (.faddr 1 (.t 1)) (tg 10 8 false (.load 1 false (.t 9)) (tg 11 8 false (.call 149 [(.t 10)]) (tg 12 8 false (.not (.t 11)) (tq 13 (.pick (.t 8) (.c (.bool true)) (.t 12)) (tm 14 (.t 13) (tg 15 14 false (.faddr 1 (.t 1)) (tg 16 14 false (.load 1 false (.t 15)) (tg 17 14 false (.len (.t 16)) (tg 18 14 false (.bin .gtr (.t 17) (.c (.int .i64 0))) (tg 19 14 false (.mov (.t 18)) (tg 20 19 true (.faddr 2 (.t 1)) (tg 21 19 true (.load 1 false (.t 20)) (tg 22 19 true (.len (.t 21)) (tg 23 19 true (.bin .gtr (.t 22) (.c (.int .i64 0))) (tg 24 14 false (.pick (.t 19) (.t 23) (.c (.bool false))) (tq 25 (.pick (.t 14) (.c (.bool true)) (.t 24)) (tm 26 (.t 25) (tg 27 26 false (.faddr 2 (.t 1)) (tg 28 26 false (.load 1 false (.t 27)) (tg 29 26 false (.len (.t 28)) (tg 30 26 false (.bin .gtr (.t 29) (.c (.int .i64 8))) (tq 31 (.pick (.t 26) (.c (.bool true)) (.t 30)) .done))))))))))))))))))))))))))))))
 (.cut (.cond (.t 31) (.seq (.reg (tm 2 (.c (.bool false)) .done))
 .ret)
 .skip)))
 (.seq (.reg (tq 32 (.faddr 2 (.t 1)) (tq 33 (.load 1 false (.t 32)) (tq 34 (.call 58 [(.t 33),(.c (.fn 212 []))]) (tq 35 (.not (.t 34)) (tm 2 (.t 35) .done))))))
 .ret)))
theorem fc143:fcomp Tryz.prog Tryz.f143 = some (c143.erase,[.mov (.t 2)],36):=by kernel_rfl
def impl_setOK (x_1:GSet):Option Bool :=
    (((impl_areShort [x_1.Column]).bind fun r_12 =>
    if (!r_12) then
    some true
    else
    (impl_DatumOK x_1.Value).bind fun r_15 =>
    some (bif (bif (!r_15) then true else (bif (decide ((x_1.Value.length:Int) > 0)) then (decide ((x_1.Names.length:Int) > 0)) else false)) then true else (decide ((x_1.Names.length:Int) > 8))):Option Bool)).bind fun s31_10 =>
    if s31_10 then
    some false
    else
    (slices_ContainsFunc_string_string x_1.Names impl_setOK_1).bind fun r_21 =>
    some (!r_21)
theorem w_impl_setOK (x_1:GSet) (r:Bool) (hf:impl_setOK x_1 = some r):CallOK Tryz.prog 143 .flat [(encGSet x_1)] (.bool r):=by
 refine CallOK.of_awp mixed Tryz.func143 fc143 nle ?_;rw [argT_eq];unfold impl_setOK at hf;unfold c143;refine (show awp Tryz.prog false 0 _ (ofL [(0,(encGSet x_1))]) [] _ from ?_);refine sr<|s_do (o_box (j:=0) (c:=(.agg [(.str x_1.Column),(.lst 3 (x_1.Value.map encGAtom)),(.lst 1 (x_1.Names.map AV.str))])) rfl trivial rfl rfl)<|s_mov (.bool false) rfl<|dk<|awp_seq<|awp_seq<|?_
 obtain ⟨s31_10,hb1,hf⟩:=ob hf
 refine awp_cut ([(1,(.ptr 0 0 0)),(31,(.bool s31_10))],[.box 3 (.agg [(.str x_1.Column),(.lst 3 (x_1.Value.map encGAtom)),(.lst 1 (x_1.Names.map AV.str))])]) ?_ ?_
 ·refine w_reg<|s_q (.ptr 0 0 0) rfl trivial rfl<|s_q (.str x_1.Column) rfl nle rfl<|?_;refine s_do (o_bslice (j:=1) (as':=[(.str x_1.Column)]) rfl (fun _ => by decide) ⟨rfl,trivial⟩ (.refl _) rfl rfl rfl) ?_
  obtain ⟨r_12,er13,hb1⟩:=ob hb1
  refine s_do (o_call (w_impl_areShort _ _ er13) rfl (.cons (.of_eq (congrArg (AV.lst _) (tko [x_1.Column]))) .nil) rfl)<|s_q (.bool (!r_12)) rfl trivial rfl<|s_mov (.bool (!r_12)) rfl<|?_
  rcases oi hb1 with ⟨c14,hb1⟩ | ⟨c14,hb1⟩
  ·refine s_lit (s:=8) (b:=true) rfl c14<|s_off rfl rfl<|s_off rfl rfl<|s_off rfl rfl<|s_off rfl rfl<|s_q (.bool true) rfl trivial rfl<|s_mov (.bool true) rfl<|s_off rfl rfl<|s_off rfl rfl<|s_off rfl rfl<|s_off rfl rfl<|s_off rfl rfl<|s_offs rfl<|s_offs rfl<|s_offs rfl<|s_offs rfl<|s_off rfl rfl<|s_q (.bool true) rfl trivial rfl<|s_mov (.bool true) rfl<|s_off rfl rfl<|s_off rfl rfl<|s_off rfl rfl<|s_off rfl rfl<|s_q (.bool true) rfl trivial rfl<|w_done<|?_;obtain rfl:=os hb1;exact ⟨[],[0],_,_,rfl,rfl,⟨.refl _,⟨.refl _,trivial⟩⟩,(.refl _)⟩
  ·refine s_lit (s:=8) (b:=false) rfl (bf c14)<|s_on rfl<|s_q (.ptr 0 0 1) rfl trivial rfl<|s_on rfl<|s_q (.lst 3 (x_1.Value.map encGAtom)) rfl nle rfl<|s_on rfl<|?_
   obtain ⟨r_15,er16,hb1⟩:=ob hb1
   refine s_do (o_call (w_impl_DatumOK _ _ er16) rfl (.refl _) rfl)<|s_on rfl<|s_q (.bool (!r_15)) rfl trivial rfl<|s_q (.bool (!r_15)) rfl trivial rfl<|s_mov (.bool (!r_15)) rfl<|?_;refine s_g (v:=(!r_15)) (.ptr 0 0 1) rfl (fun hv => by (try simp only [gs_on hv]);exact ⟨rfl,trivial,rfl⟩) ?_;refine s_g (v:=(!r_15)) (.lst 3 (x_1.Value.map encGAtom)) rfl (fun hv => by (try simp only [gs_on hv]);exact ⟨rfl,nle,rfl⟩) ?_;refine s_g (v:=(!r_15)) (.int .i64 (x_1.Value.length:Int)) rfl (fun hv => by (try simp only [gs_on hv]);exact ⟨rfl,trivial,lenV _ _⟩) ?_;refine s_g (v:=(!r_15)) (.bool (decide ((x_1.Value.length:Int) > 0))) rfl (fun hv => by (try simp only [gs_on hv]);exact ⟨rfl,rfl,rfl⟩) ?_
   refine s_g (v:=(!r_15)) (.bool (decide ((x_1.Value.length:Int) > 0))) rfl (fun hv => by (try simp only [gs_on hv]);exact ⟨rfl,trivial,rfl⟩) ?_;refine s_gg (v1:=(!r_15)) (b1:=false) (v2:=(decide ((x_1.Value.length:Int) > 0))) (.ptr 0 0 2) rfl (fun hv hw => by (try simp only [gs_on hv,gs_on hw]);exact ⟨rfl,trivial,rfl⟩) ?_;refine s_gg (v1:=(!r_15)) (b1:=false) (v2:=(decide ((x_1.Value.length:Int) > 0))) (.lst 1 (x_1.Names.map AV.str)) rfl (fun hv hw => by (try simp only [gs_on hv,gs_on hw]);exact ⟨rfl,nle,rfl⟩) ?_;refine s_gg (v1:=(!r_15)) (b1:=false) (v2:=(decide ((x_1.Value.length:Int) > 0))) (.int .i64 (x_1.Names.length:Int)) rfl (fun hv hw => by (try simp only [gs_on hv,gs_on hw]);exact ⟨rfl,trivial,lenV _ _⟩) ?_
   refine s_gg (v1:=(!r_15)) (b1:=false) (v2:=(decide ((x_1.Value.length:Int) > 0))) (.bool (decide ((x_1.Names.length:Int) > 0))) rfl (fun hv hw => by (try simp only [gs_on hv,gs_on hw]);exact ⟨rfl,rfl,rfl⟩) ?_;refine s_gp (v1:=(!r_15)) (b1:=false) (v2:=(decide ((x_1.Value.length:Int) > 0))) (x:=(decide ((x_1.Names.length:Int) > 0))) (y:=false) rfl (fun hv => by (try simp only [gs_on hv]);rfl) (fun hv hw => by (try simp only [gs_on hv,gs_on hw]);rfl) (fun hv hw => by (try simp only [gs_on hv,gs_on hw]);rfl) ?_;refine s_pick (x:=true) (y:=(bif (decide ((x_1.Value.length:Int) > 0)) then (decide ((x_1.Names.length:Int) > 0)) else false)) rfl (fun hv => by (try simp only [gs_on hv]);rfl) (fun hv => by (try simp only [gs_on hv]);rfl) ?_
   refine s_mov (.bool (bif (!r_15) then true else (bif (decide ((x_1.Value.length:Int) > 0)) then (decide ((x_1.Names.length:Int) > 0)) else false))) rfl ?_;refine s_g (v:=(bif (!r_15) then true else (bif (decide ((x_1.Value.length:Int) > 0)) then (decide ((x_1.Names.length:Int) > 0)) else false))) (.ptr 0 0 2) rfl (fun hv => by (try simp only [gs_on hv]);exact ⟨rfl,trivial,rfl⟩) ?_;refine s_g (v:=(bif (!r_15) then true else (bif (decide ((x_1.Value.length:Int) > 0)) then (decide ((x_1.Names.length:Int) > 0)) else false))) (.lst 1 (x_1.Names.map AV.str)) rfl (fun hv => by (try simp only [gs_on hv]);exact ⟨rfl,nle,rfl⟩) ?_;refine s_g (v:=(bif (!r_15) then true else (bif (decide ((x_1.Value.length:Int) > 0)) then (decide ((x_1.Names.length:Int) > 0)) else false))) (.int .i64 (x_1.Names.length:Int)) rfl (fun hv => by (try simp only [gs_on hv]);exact ⟨rfl,trivial,lenV _ _⟩) ?_
   refine s_g (v:=(bif (!r_15) then true else (bif (decide ((x_1.Value.length:Int) > 0)) then (decide ((x_1.Names.length:Int) > 0)) else false))) (.bool (decide ((x_1.Names.length:Int) > 8))) rfl (fun hv => by (try simp only [gs_on hv]);exact ⟨rfl,rfl,rfl⟩) ?_;refine s_pick (x:=true) (y:=(decide ((x_1.Names.length:Int) > 8))) rfl (fun hv => by (try simp only [gs_on hv]);rfl) (fun hv => by (try simp only [gs_on hv]);rfl) ?_;refine w_done ?_;obtain rfl:=os hb1;exact ⟨[],[0],_,_,rfl,rfl,⟨.refl _,⟨.refl _,trivial⟩⟩,(.refl _)⟩
 ·rcases oi hf with ⟨c20,hf⟩ | ⟨c20,hf⟩
  ·refine w_condt rfl c20<|sr<|s_mov (.bool false) rfl<|dk<|w_ret<|?_;obtain rfl:=os hf;exact r_flat ⟨trivial,trivial⟩ rfl (.refl _)
  ·refine w_condf rfl (bf c20)<|w_skip<|k_seq<|sr<|?_
   obtain ⟨r_21,er22,hf⟩:=ob hf
   refine s_q (.ptr 0 0 2) rfl trivial rfl<|s_q (.lst 1 (x_1.Names.map AV.str)) rfl nle rfl<|?_;refine s_do (o_call (w_slices_ContainsFunc_string_string _ _ _ er22 212 [] (by kernel_rfl) (fun _ _ => rfl) (fun _ => rfl) (fun a0 r h => w_impl_setOK_1 a0 r h)) rfl (.refl _) rfl) ?_;refine s_q (.bool (!r_21)) rfl trivial rfl<|s_mov (.bool (!r_21)) rfl<|dk<|w_ret<|?_;obtain rfl:=os hf;exact r_flat ⟨trivial,trivial⟩ rfl (.refl _)

/- impl.setsOK$1 -/
def c142:ACode :=
 (.seq (.reg (tq 1 (.box 3 (.t 0)) (tm 2 (.c (.bool false)) .done)))
 (.seq (.reg (tq 3 (.load 3 true (.t 1)) (tq 4 (.call 143 [(.t 3)]) (tq 5 (.not (.t 4)) (tm 2 (.t 5) .done)))))
 .ret))
theorem fc142:fcomp Tryz.prog Tryz.f142 = some (c142.erase,[.mov (.t 2)],6):=by kernel_rfl
def impl_setsOK_1 (x_1:GSet):Option Bool :=
    (impl_setOK x_1).bind fun r_2 =>
    some (!r_2)
theorem w_impl_setsOK_1 (x_1:GSet) (r:Bool) (hf:impl_setsOK_1 x_1 = some r):CallOK Tryz.prog 142 .flat [(encGSet x_1)] (.bool r):=by
  refine CallOK.of_awp mixed Tryz.func142 fc142 nle ?_
  rw [argT_eq]
  unfold impl_setsOK_1 at hf
  unfold c142
  refine (show awp Tryz.prog false 0 _ (ofL [(0,(encGSet x_1))]) [] _ from ?_)
  refine awp_seq ?_
  refine w_reg ?_
  refine s_do (o_box (j:=0) (c:=(.agg [(.str x_1.Column),(.lst 3 (x_1.Value.map encGAtom)),(.lst 1 (x_1.Names.map AV.str))])) rfl trivial rfl rfl) ?_
  refine s_do (o_mov (.bool false) rfl) ?_
  refine w_done ?_
  refine k_seq ?_
  refine awp_seq ?_
  refine w_reg ?_
  obtain ⟨r_2,er3,hf⟩:=ob hf
  refine s_do (o_q (.agg [(.str x_1.Column),(.lst 3 (x_1.Value.map encGAtom)),(.lst 1 (x_1.Names.map AV.str))]) rfl nle rfl) ?_
  refine s_do (o_call (w_impl_setOK _ _ er3) rfl (.refl _) rfl) ?_
  refine s_do (o_q (.bool (!r_2)) rfl trivial rfl) ?_
  refine s_do (o_mov (.bool (!r_2)) rfl) ?_
  refine w_done ?_
  refine k_seq ?_
  refine w_ret ?_
  obtain rfl:=os hf
  exact r_flat ⟨trivial,trivial⟩ rfl (.refl _)

/- impl.setsOK -/
def c56:ACode :=
 (.seq (.reg (tm 2 (.c (.bool false)) .done))
 (.seq (.reg (tm 3 (.t 0) (tq 4 (.len (.t 3)) (tq 5 (.bin .leq (.t 4) (.c (.int .i64 6))) (tm 6 (.t 5) (tg 7 6 true (.mov (.t 0)) (tg 8 6 true (.call 90 [(.t 7),(.c (.fn 142 []))]) (tg 9 6 true (.not (.t 8)) (tq 10 (.pick (.t 6) (.t 9) (.c (.bool false))) (tm 2 (.t 10) .done))))))))))
 .ret))
theorem fc56:fcomp Tryz.prog Tryz.f56 = some (c56.erase,[.mov (.t 2)],11):=by kernel_rfl
def impl_setsOK (list_1:(List GSet)):Option Bool :=
    if (decide ((list_1.length:Int) ≤ 6)) then
    (slices_ContainsFunc_impl_Set_impl_Set list_1 impl_setsOK_1).bind fun r_4 =>
    some (!r_4)
    else
    some false
theorem w_impl_setsOK (list_1:(List GSet)) (r:Bool) (hf:impl_setsOK list_1 = some r):CallOK Tryz.prog 56 .flat [(.lst 3 (list_1.map encGSet))] (.bool r):=by
 refine CallOK.of_awp mixed Tryz.func56 fc56 nle ?_;rw [argT_eq];unfold impl_setsOK at hf;unfold c56;refine (show awp Tryz.prog false 0 _ (ofL [(0,(.lst 3 (list_1.map encGSet)))]) [] _ from ?_);refine sr<|s_mov (.bool false) rfl<|dk<|sr<|?_
 rcases oi hf with ⟨c3,hf⟩ | ⟨c3,hf⟩
 ·obtain ⟨r_4,er5,hf⟩:=ob hf
  refine s_mov (.lst 3 (list_1.map encGSet)) rfl<|s_dof (o_len (enc:=encGSet) rfl) fun hl2 => s_q (.bool (decide ((list_1.length:Int) ≤ 6))) rfl rfl rfl<|s_mov (.bool (decide ((list_1.length:Int) ≤ 6))) rfl<|s_lit (s:=6) (b:=true) rfl c3<|s_on rfl<|s_mov (.lst 3 (list_1.map encGSet)) rfl<|s_on rfl<|?_;refine s_do (o_call (w_slices_ContainsFunc_impl_Set_impl_Set _ _ _ er5 142 [] (by kernel_rfl) (fun _ _ => rfl) (fun _ => rfl) (fun a0 r h => w_impl_setsOK_1 a0 r h)) rfl (.refl _) rfl) ?_;refine s_on rfl<|s_q (.bool (!r_4)) rfl trivial rfl<|s_q (.bool (!r_4)) rfl trivial rfl<|s_mov (.bool (!r_4)) rfl<|dk<|w_ret<|?_;obtain rfl:=os hf;exact r_flat ⟨trivial,trivial⟩ rfl (.refl _)
 ·refine s_mov (.lst 3 (list_1.map encGSet)) rfl<|s_dof (o_len (enc:=encGSet) rfl) fun hl2 => s_q (.bool (decide ((list_1.length:Int) ≤ 6))) rfl rfl rfl<|s_mov (.bool (decide ((list_1.length:Int) ≤ 6))) rfl<|s_lit (s:=6) (b:=false) rfl (bf c3)<|s_off rfl rfl<|s_off rfl rfl<|s_off rfl rfl<|s_q (.bool false) rfl trivial rfl<|s_mov (.bool false) rfl<|dk<|w_ret<|?_;obtain rfl:=os hf;exact r_flat ⟨trivial,trivial⟩ rfl (.refl _)

/- impl.ColumnOK -/
def c197:ACode :=
 (.seq (.reg (tq 1 (.box 8 (.t 0)) (tm 2 (.c (.bool false)) .done)))
 (.seq (.seq (.reg (tq 3 (.faddr 0 (.t 1)) (tq 4 (.load 1 false (.t 3)) (tq 5 (.call 60 [(.t 4)]) (tq 6 (.not (.t 5)) (tm 7 (.t 6) (tg 8 7 false (.faddr 2 (.t 1)) (tg 9 7 false (.load 1 false (.t 8)) (tg 10 7 false (.call 57 [(.t 9),(.c (.int .i64 0)),(.c (.int .i64 1))]) (tg 11 7 false (.not (.t 10)) (tq 12 (.pick (.t 7) (.c (.bool true)) (.t 11)) (tm 13 (.t 12) (tg 14 13 false (.faddr 3 (.t 1)) (tg 15 13 false (.load 1 false (.t 14)) (tg 16 13 false (.call 57 [(.t 15),(.c (.int .i64 1)),(.c (.int .i64 8))]) (tg 17 13 false (.not (.t 16)) (tq 18 (.pick (.t 13) (.c (.bool true)) (.t 17)) .done)))))))))))))))))
 (.cut (.cond (.t 18) (.seq (.reg (tm 2 (.c (.bool false)) .done))
 .ret)
 .skip)))
 (.seq (.seq (.reg (tq 19 (.faddr 1 (.t 1)) (tq 20 (.load 1 false (.t 19)) .done)))
 (.block 0 (.seq (.reg (tq 22 (.bin .eql (.t 20) (.c (.int .i64 1))) (tm 21 (.t 22) .done)))
 (.cond (.t 21) (.seq (.reg (tq 23 (.faddr 4 (.t 1)) (tq 24 (.load 1 false (.t 23)) (tq 25 (.call 240 [(.t 24)]) (tm 26 (.t 25) (tg 27 26 true (.faddr 5 (.t 1)) (tg 28 26 true (.load 1 false (.t 27)) (tg 29 26 true (.call 240 [(.t 28)]) (tq 30 (.pick (.t 26) (.t 29) (.c (.bool false))) (tm 31 (.t 30) (tg 32 31 true (.faddr 4 (.t 1)) (tg 33 31 true (.load 1 false (.t 32)) (tg 34 31 true (.faddr 5 (.t 1)) (tg 35 31 true (.load 1 false (.t 34)) (tg 36 31 true (.bin .leq (.t 33) (.t 35)) (tq 37 (.pick (.t 31) (.t 36) (.c (.bool false))) (tm 38 (.t 37) (tg 39 38 true (.faddr 6 (.t 1)) (tg 40 38 true (.load 1 false (.t 39)) (tg 41 38 true (.bin .eql (.t 40) (.c (.str []))) (tq 42 (.pick (.t 38) (.t 41) (.c (.bool false))) (tm 43 (.t 42) (tg 44 43 true (.faddr 7 (.t 1)) (tg 45 43 true (.load 1 false (.t 44)) (tg 46 43 true (.not (.t 45)) (tq 47 (.pick (.t 43) (.t 46) (.c (.bool false))) (tm 2 (.t 47) .done)))))))))))))))))))))))))))
 .ret)
 (.seq (.seq (.reg (tq 49 (.bin .eql (.t 20) (.c (.int .i64 2))) (tm 48 (.t 49) .done)))
 (.cond (.t 48) .skip
 (.reg (tq 50 (.bin .eql (.t 20) (.c (.int .i64 3))) (tm 48 (.t 50) .done)))))
 (.cut (.cond (.t 48) (.seq (.reg (tq 51 (.faddr 4 (.t 1)) (tq 52 (.load 1 false (.t 51)) (tq 53 (.bin .eql (.t 52) (.c (.int .i64 0))) (tm 54 (.t 53) (tg 55 54 true (.faddr 5 (.t 1)) (tg 56 54 true (.load 1 false (.t 55)) (tg 57 54 true (.bin .eql (.t 56) (.c (.int .i64 0))) (tq 58 (.pick (.t 54) (.t 57) (.c (.bool false))) (tm 59 (.t 58) (tg 60 59 true (.faddr 6 (.t 1)) (tg 61 59 true (.load 1 false (.t 60)) (tg 62 59 true (.bin .eql (.t 61) (.c (.str []))) (tq 63 (.pick (.t 59) (.t 62) (.c (.bool false))) (tm 64 (.t 63) (tg 65 64 true (.faddr 7 (.t 1)) (tg 66 64 true (.load 1 false (.t 65)) (tg 67 64 true (.not (.t 66)) (tq 68 (.pick (.t 64) (.t 67) (.c (.bool false))) (tm 2 (.t 68) .done))))))))))))))))))))
 .ret)
 (.seq (.reg (tq 70 (.bin .eql (.t 20) (.c (.int .i64 4))) (tm 69 (.t 70) .done)))
 (.cond (.t 69) (.seq (.reg (tq 71 (.faddr 4 (.t 1)) (tq 72 (.load 1 false (.t 71)) (tq 73 (.bin .eql (.t 72) (.c (.int .i64 0))) (tm 74 (.t 73) (tg 75 74 true (.faddr 5 (.t 1)) (tg 76 74 true (.load 1 false (.t 75)) (tg 77 74 true (.bin .eql (.t 76) (.c (.int .i64 0))) (tq 78 (.pick (.t 74) (.t 77) (.c (.bool false))) (tm 79 (.t 78) (tg 80 79 true (.faddr 6 (.t 1)) (tg 81 79 true (.load 1 false (.t 80)) (tg 82 79 true (.call 60 [(.t 81)]) (tq 83 (.pick (.t 79) (.t 82) (.c (.bool false))) (tm 84 (.t 83) (tg 85 84 true (.faddr 2 (.t 1)) (tg 86 84 true (.load 1 false (.t 85)) (tg 87 84 true (.bin .eql (.t 86) (.c (.int .i64 0))) (tq 88 (.pick (.t 84) (.t 87) (.c (.bool false))) (tm 2 (.t 88) .done))))))))))))))))))))
 .ret)
 .skip)))))))))
 (.seq (.reg (tm 2 (.c (.bool false)) .done))
 .ret))))
theorem fc197:fcomp Tryz.prog Tryz.f197 = some (c197.erase,[.mov (.t 2)],89):=by kernel_rfl
def impl_ColumnOK (c_1:GColumn):Option Bool :=
    (((impl_NameOK c_1.Name).bind fun r_12 =>
    if (!r_12) then
    some true
    else
    (impl_within c_1.Min 0 1).bind fun r_15 =>
    if (!r_15) then
    some true
    else
    (impl_within c_1.Max 1 8).bind fun r_18 =>
    some (!r_18):Option Bool)).bind fun s18_10 =>
    if s18_10 then
    some false
    else
    if (c_1.Kind == 1) then
    (impl_isNumber c_1.Low).bind fun r_22 =>
    if r_22 then
    (impl_isNumber c_1.High).bind fun r_25 =>
    some (bif (bif (bif r_25 then (decide (c_1.Low ≤ c_1.High)) else false) then (c_1.Ref == []) else false) then (!c_1.Strong) else false)
    else
    some false
    else
    ((if (c_1.Kind == 2) then
    some true
    else
    some (c_1.Kind == 3):Option Bool)).bind fun s48_28 =>
    if s48_28 then
    some (bif (bif (bif (c_1.Low == 0) then (c_1.High == 0) else false) then (c_1.Ref == []) else false) then (!c_1.Strong) else false)
    else
    if (c_1.Kind == 4) then
    if (bif (c_1.Low == 0) then (c_1.High == 0) else false) then
    (impl_NameOK c_1.Ref).bind fun r_34 =>
    some (bif r_34 then (c_1.Min == 0) else false)
    else
    some false
    else
    some false
theorem w_impl_ColumnOK (c_1:GColumn) (r:Bool) (hf:impl_ColumnOK c_1 = some r):CallOK Tryz.prog 197 .flat [(encGColumn c_1)] (.bool r):=by
 refine CallOK.of_awp mixed Tryz.func197 fc197 nle ?_;rw [argT_eq];unfold impl_ColumnOK at hf;unfold c197;refine (show awp Tryz.prog false 0 _ (ofL [(0,(encGColumn c_1))]) [] _ from ?_);refine sr<|s_do (o_box (j:=0) (c:=(.agg [(.str c_1.Name),(.int .i64 c_1.Kind),(.int .i64 c_1.Min),(.int .i64 c_1.Max),(.int .i64 c_1.Low),(.int .i64 c_1.High),(.str c_1.Ref),(.bool c_1.Strong)])) rfl trivial rfl rfl)<|s_mov (.bool false) rfl<|dk<|awp_seq<|awp_seq<|?_
 obtain ⟨s18_10,hb1,hf⟩:=ob hf
 refine awp_cut ([(1,(.ptr 0 0 0)),(18,(.bool s18_10))],[.box 8 (.agg [(.str c_1.Name),(.int .i64 c_1.Kind),(.int .i64 c_1.Min),(.int .i64 c_1.Max),(.int .i64 c_1.Low),(.int .i64 c_1.High),(.str c_1.Ref),(.bool c_1.Strong)])]) ?_ ?_
 ·refine w_reg<|s_q (.ptr 0 0 0) rfl trivial rfl<|s_q (.str c_1.Name) rfl nle rfl<|?_
  obtain ⟨r_12,er13,hb1⟩:=ob hb1
  refine s_do (o_call (w_impl_NameOK _ _ er13) rfl (.refl _) rfl)<|s_q (.bool (!r_12)) rfl trivial rfl<|s_mov (.bool (!r_12)) rfl<|?_
  rcases oi hb1 with ⟨c14,hb1⟩ | ⟨c14,hb1⟩
  ·refine s_lit (s:=7) (b:=true) rfl c14<|s_off rfl rfl<|s_off rfl rfl<|s_off rfl rfl<|s_off rfl rfl<|s_q (.bool true) rfl trivial rfl<|s_mov (.bool true) rfl<|s_off rfl rfl<|s_off rfl rfl<|s_off rfl rfl<|s_off rfl rfl<|s_q (.bool true) rfl trivial rfl<|w_done<|?_;obtain rfl:=os hb1;exact ⟨[],[0],_,_,rfl,rfl,⟨.refl _,⟨.refl _,trivial⟩⟩,(.refl _)⟩
  ·refine s_lit (s:=7) (b:=false) rfl (bf c14)<|s_on rfl<|s_q (.ptr 0 0 2) rfl trivial rfl<|s_on rfl<|s_q (.int .i64 c_1.Min) rfl nle rfl<|s_on rfl<|?_
   obtain ⟨r_15,er16,hb1⟩:=ob hb1
   refine s_do (o_call (w_impl_within _ _ _ _ er16) rfl (.refl _) rfl)<|s_on rfl<|s_q (.bool (!r_15)) rfl trivial rfl<|s_q (.bool (!r_15)) rfl trivial rfl<|s_mov (.bool (!r_15)) rfl<|?_
   rcases oi hb1 with ⟨c17,hb1⟩ | ⟨c17,hb1⟩
   ·refine s_lit (s:=13) (b:=true) rfl c17<|s_off rfl rfl<|s_off rfl rfl<|s_off rfl rfl<|s_off rfl rfl<|s_q (.bool true) rfl trivial rfl<|w_done<|?_;obtain rfl:=os hb1;exact ⟨[],[0],_,_,rfl,rfl,⟨.refl _,⟨.refl _,trivial⟩⟩,(.refl _)⟩
   ·refine s_lit (s:=13) (b:=false) rfl (bf c17)<|s_on rfl<|s_q (.ptr 0 0 3) rfl trivial rfl<|s_on rfl<|s_q (.int .i64 c_1.Max) rfl nle rfl<|s_on rfl<|?_
    obtain ⟨r_18,er19,hb1⟩:=ob hb1
    refine s_do (o_call (w_impl_within _ _ _ _ er19) rfl (.refl _) rfl)<|s_on rfl<|s_q (.bool (!r_18)) rfl trivial rfl<|s_q (.bool (!r_18)) rfl trivial rfl<|w_done<|?_;obtain rfl:=os hb1;exact ⟨[],[0],_,_,rfl,rfl,⟨.refl _,⟨.refl _,trivial⟩⟩,(.refl _)⟩
 ·rcases oi hf with ⟨c20,hf⟩ | ⟨c20,hf⟩
  ·refine w_condt rfl c20<|sr<|s_mov (.bool false) rfl<|dk<|w_ret<|?_;obtain rfl:=os hf;exact r_flat ⟨trivial,trivial⟩ rfl (.refl _)
  ·refine w_condf rfl (bf c20)<|w_skip<|k_seq<|awp_seq<|sr<|s_q (.ptr 0 0 1) rfl trivial rfl<|s_q (.int .i64 c_1.Kind) rfl nle rfl<|dk<|w_blk<|sr<|s_q (.bool (c_1.Kind == 1)) rfl rfl rfl<|s_mov (.bool (c_1.Kind == 1)) rfl<|dk<|?_
   rcases oi hf with ⟨c21,hf⟩ | ⟨c21,hf⟩
   ·refine w_condt rfl c21<|sr<|s_q (.ptr 0 0 4) rfl trivial rfl<|s_q (.int .i64 c_1.Low) rfl nle rfl<|?_
    obtain ⟨r_22,er23,hf⟩:=ob hf
    refine s_do (o_call (w_impl_isNumber _ _ er23) rfl (.refl _) rfl)<|s_mov (.bool r_22) rfl<|?_
    rcases oi hf with ⟨c24,hf⟩ | ⟨c24,hf⟩
    ·refine s_lit (s:=26) (b:=true) rfl c24<|s_on rfl<|s_q (.ptr 0 0 5) rfl trivial rfl<|s_on rfl<|s_q (.int .i64 c_1.High) rfl nle rfl<|s_on rfl<|?_
     obtain ⟨r_25,er26,hf⟩:=ob hf
     refine s_do (o_call (w_impl_isNumber _ _ er26) rfl (.refl _) rfl)<|s_q (.bool r_25) rfl trivial rfl<|s_mov (.bool r_25) rfl<|?_;refine s_g (v:=r_25) (.ptr 0 0 4) rfl (fun hv => by (try simp only [gs_on hv]);exact ⟨rfl,trivial,rfl⟩) ?_;refine s_g (v:=r_25) (.int .i64 c_1.Low) rfl (fun hv => by (try simp only [gs_on hv]);exact ⟨rfl,nle,rfl⟩) ?_;refine s_g (v:=r_25) (.ptr 0 0 5) rfl (fun hv => by (try simp only [gs_on hv]);exact ⟨rfl,trivial,rfl⟩) ?_;refine s_g (v:=r_25) (.int .i64 c_1.High) rfl (fun hv => by (try simp only [gs_on hv]);exact ⟨rfl,nle,rfl⟩) ?_;refine s_g (v:=r_25) (.bool (decide (c_1.Low ≤ c_1.High))) rfl (fun hv => by (try simp only [gs_on hv]);exact ⟨rfl,rfl,rfl⟩) ?_
     refine s_pick (x:=(decide (c_1.Low ≤ c_1.High))) (y:=false) rfl (fun hv => by (try simp only [gs_on hv]);rfl) (fun hv => by (try simp only [gs_on hv]);rfl) ?_;refine s_mov (.bool (bif r_25 then (decide (c_1.Low ≤ c_1.High)) else false)) rfl ?_;refine s_g (v:=(bif r_25 then (decide (c_1.Low ≤ c_1.High)) else false)) (.ptr 0 0 6) rfl (fun hv => by (try simp only [gs_on hv]);exact ⟨rfl,trivial,rfl⟩) ?_;refine s_g (v:=(bif r_25 then (decide (c_1.Low ≤ c_1.High)) else false)) (.str c_1.Ref) rfl (fun hv => by (try simp only [gs_on hv]);exact ⟨rfl,nle,rfl⟩) ?_;refine s_g (v:=(bif r_25 then (decide (c_1.Low ≤ c_1.High)) else false)) (.bool (c_1.Ref == [])) rfl (fun hv => by (try simp only [gs_on hv]);exact ⟨rfl,trivial,rfl⟩) ?_
     refine s_pick (x:=(c_1.Ref == [])) (y:=false) rfl (fun hv => by (try simp only [gs_on hv]);rfl) (fun hv => by (try simp only [gs_on hv]);rfl) ?_;refine s_mov (.bool (bif (bif r_25 then (decide (c_1.Low ≤ c_1.High)) else false) then (c_1.Ref == []) else false)) rfl ?_;refine s_g (v:=(bif (bif r_25 then (decide (c_1.Low ≤ c_1.High)) else false) then (c_1.Ref == []) else false)) (.ptr 0 0 7) rfl (fun hv => by (try simp only [gs_on hv]);exact ⟨rfl,trivial,rfl⟩) ?_;refine s_g (v:=(bif (bif r_25 then (decide (c_1.Low ≤ c_1.High)) else false) then (c_1.Ref == []) else false)) (.bool c_1.Strong) rfl (fun hv => by (try simp only [gs_on hv]);exact ⟨rfl,nle,rfl⟩) ?_;refine s_g (v:=(bif (bif r_25 then (decide (c_1.Low ≤ c_1.High)) else false) then (c_1.Ref == []) else false)) (.bool (!c_1.Strong)) rfl (fun hv => by (try simp only [gs_on hv]);exact ⟨rfl,trivial,rfl⟩) ?_
     refine s_pick (x:=(!c_1.Strong)) (y:=false) rfl (fun hv => by (try simp only [gs_on hv]);rfl) (fun hv => by (try simp only [gs_on hv]);rfl) ?_;refine s_mov (.bool (bif (bif (bif r_25 then (decide (c_1.Low ≤ c_1.High)) else false) then (c_1.Ref == []) else false) then (!c_1.Strong) else false)) rfl<|dk<|w_ret<|?_;obtain rfl:=os hf;exact r_flat ⟨trivial,trivial⟩ rfl (.refl _)
    ·refine s_lit (s:=26) (b:=false) rfl (bf c24)<|s_off rfl rfl<|s_off rfl rfl<|s_off rfl rfl<|s_q (.bool false) rfl trivial rfl<|s_mov (.bool false) rfl<|s_off rfl rfl<|s_off rfl rfl<|s_off rfl rfl<|s_off rfl rfl<|s_off rfl rfl<|s_q (.bool false) rfl trivial rfl<|s_mov (.bool false) rfl<|s_off rfl rfl<|s_off rfl rfl<|s_off rfl rfl<|s_q (.bool false) rfl trivial rfl<|s_mov (.bool false) rfl<|s_off rfl rfl<|s_off rfl rfl<|s_off rfl rfl<|s_q (.bool false) rfl trivial rfl<|s_mov (.bool false) rfl<|dk<|w_ret<|?_;obtain rfl:=os hf;exact r_flat ⟨trivial,trivial⟩ rfl (.refl _)
   ·refine w_condf rfl (bf c21)<|awp_seq<|?_
    obtain ⟨s48_28,hb1,hf⟩:=ob hf
    refine awp_cut ([(1,(.ptr 0 0 0)),(20,(.int .i64 c_1.Kind)),(48,(.bool s48_28))],[.box 8 (.agg [(.str c_1.Name),(.int .i64 c_1.Kind),(.int .i64 c_1.Min),(.int .i64 c_1.Max),(.int .i64 c_1.Low),(.int .i64 c_1.High),(.str c_1.Ref),(.bool c_1.Strong)])]) ?_ ?_
    ·refine sr<|s_q (.bool (c_1.Kind == 2)) rfl rfl rfl<|s_mov (.bool (c_1.Kind == 2)) rfl<|dk<|?_
     rcases oi hb1 with ⟨c30,hb1⟩ | ⟨c30,hb1⟩
     ·refine w_condt rfl c30<|w_skip<|?_;obtain rfl:=os hb1;exact ⟨[],[0],_,_,rfl,rfl,⟨.refl _,⟨.refl _,⟨.refl _,trivial⟩⟩⟩,(.refl _)⟩
     ·refine w_condf rfl (bf c30)<|w_reg<|s_q (.bool (c_1.Kind == 3)) rfl rfl rfl<|s_mov (.bool (c_1.Kind == 3)) rfl<|w_done<|?_;obtain rfl:=os hb1;exact ⟨[],[0],_,_,rfl,rfl,⟨.refl _,⟨.refl _,⟨.refl _,trivial⟩⟩⟩,(.refl _)⟩
    ·rcases oi hf with ⟨c31,hf⟩ | ⟨c31,hf⟩
     ·refine w_condt rfl c31<|sr<|s_q (.ptr 0 0 4) rfl trivial rfl<|s_q (.int .i64 c_1.Low) rfl nle rfl<|s_q (.bool (c_1.Low == 0)) rfl rfl rfl<|s_mov (.bool (c_1.Low == 0)) rfl<|?_;refine s_g (v:=(c_1.Low == 0)) (.ptr 0 0 5) rfl (fun hv => by (try simp only [gs_on hv]);exact ⟨rfl,trivial,rfl⟩) ?_;refine s_g (v:=(c_1.Low == 0)) (.int .i64 c_1.High) rfl (fun hv => by (try simp only [gs_on hv]);exact ⟨rfl,nle,rfl⟩) ?_;refine s_g (v:=(c_1.Low == 0)) (.bool (c_1.High == 0)) rfl (fun hv => by (try simp only [gs_on hv]);exact ⟨rfl,rfl,rfl⟩) ?_;refine s_pick (x:=(c_1.High == 0)) (y:=false) rfl (fun hv => by (try simp only [gs_on hv]);rfl) (fun hv => by (try simp only [gs_on hv]);rfl) ?_
      refine s_mov (.bool (bif (c_1.Low == 0) then (c_1.High == 0) else false)) rfl ?_;refine s_g (v:=(bif (c_1.Low == 0) then (c_1.High == 0) else false)) (.ptr 0 0 6) rfl (fun hv => by (try simp only [gs_on hv]);exact ⟨rfl,trivial,rfl⟩) ?_;refine s_g (v:=(bif (c_1.Low == 0) then (c_1.High == 0) else false)) (.str c_1.Ref) rfl (fun hv => by (try simp only [gs_on hv]);exact ⟨rfl,nle,rfl⟩) ?_;refine s_g (v:=(bif (c_1.Low == 0) then (c_1.High == 0) else false)) (.bool (c_1.Ref == [])) rfl (fun hv => by (try simp only [gs_on hv]);exact ⟨rfl,trivial,rfl⟩) ?_;refine s_pick (x:=(c_1.Ref == [])) (y:=false) rfl (fun hv => by (try simp only [gs_on hv]);rfl) (fun hv => by (try simp only [gs_on hv]);rfl) ?_
      refine s_mov (.bool (bif (bif (c_1.Low == 0) then (c_1.High == 0) else false) then (c_1.Ref == []) else false)) rfl ?_;refine s_g (v:=(bif (bif (c_1.Low == 0) then (c_1.High == 0) else false) then (c_1.Ref == []) else false)) (.ptr 0 0 7) rfl (fun hv => by (try simp only [gs_on hv]);exact ⟨rfl,trivial,rfl⟩) ?_;refine s_g (v:=(bif (bif (c_1.Low == 0) then (c_1.High == 0) else false) then (c_1.Ref == []) else false)) (.bool c_1.Strong) rfl (fun hv => by (try simp only [gs_on hv]);exact ⟨rfl,nle,rfl⟩) ?_;refine s_g (v:=(bif (bif (c_1.Low == 0) then (c_1.High == 0) else false) then (c_1.Ref == []) else false)) (.bool (!c_1.Strong)) rfl (fun hv => by (try simp only [gs_on hv]);exact ⟨rfl,trivial,rfl⟩) ?_
      refine s_pick (x:=(!c_1.Strong)) (y:=false) rfl (fun hv => by (try simp only [gs_on hv]);rfl) (fun hv => by (try simp only [gs_on hv]);rfl) ?_;refine s_mov (.bool (bif (bif (bif (c_1.Low == 0) then (c_1.High == 0) else false) then (c_1.Ref == []) else false) then (!c_1.Strong) else false)) rfl<|dk<|w_ret<|?_;obtain rfl:=os hf;exact r_flat ⟨trivial,trivial⟩ rfl (.refl _)
     ·refine w_condf rfl (bf c31)<|sr<|s_q (.bool (c_1.Kind == 4)) rfl rfl rfl<|s_mov (.bool (c_1.Kind == 4)) rfl<|dk<|?_
      rcases oi hf with ⟨c32,hf⟩ | ⟨c32,hf⟩
      ·refine w_condt rfl c32<|sr<|s_q (.ptr 0 0 4) rfl trivial rfl<|s_q (.int .i64 c_1.Low) rfl nle rfl<|s_q (.bool (c_1.Low == 0)) rfl rfl rfl<|s_mov (.bool (c_1.Low == 0)) rfl<|?_;refine s_g (v:=(c_1.Low == 0)) (.ptr 0 0 5) rfl (fun hv => by (try simp only [gs_on hv]);exact ⟨rfl,trivial,rfl⟩) ?_;refine s_g (v:=(c_1.Low == 0)) (.int .i64 c_1.High) rfl (fun hv => by (try simp only [gs_on hv]);exact ⟨rfl,nle,rfl⟩) ?_;refine s_g (v:=(c_1.Low == 0)) (.bool (c_1.High == 0)) rfl (fun hv => by (try simp only [gs_on hv]);exact ⟨rfl,rfl,rfl⟩) ?_;refine s_pick (x:=(c_1.High == 0)) (y:=false) rfl (fun hv => by (try simp only [gs_on hv]);rfl) (fun hv => by (try simp only [gs_on hv]);rfl) ?_
       refine s_mov (.bool (bif (c_1.Low == 0) then (c_1.High == 0) else false)) rfl ?_
       rcases oi hf with ⟨c33,hf⟩ | ⟨c33,hf⟩
       ·refine s_lit (s:=79) (b:=true) rfl c33<|s_on rfl<|s_q (.ptr 0 0 6) rfl trivial rfl<|s_on rfl<|s_q (.str c_1.Ref) rfl nle rfl<|s_on rfl<|?_
        obtain ⟨r_34,er35,hf⟩:=ob hf
        refine s_do (o_call (w_impl_NameOK _ _ er35) rfl (.refl _) rfl)<|s_q (.bool r_34) rfl trivial rfl<|s_mov (.bool r_34) rfl<|?_;refine s_g (v:=r_34) (.ptr 0 0 2) rfl (fun hv => by (try simp only [gs_on hv]);exact ⟨rfl,trivial,rfl⟩) ?_;refine s_g (v:=r_34) (.int .i64 c_1.Min) rfl (fun hv => by (try simp only [gs_on hv]);exact ⟨rfl,nle,rfl⟩) ?_;refine s_g (v:=r_34) (.bool (c_1.Min == 0)) rfl (fun hv => by (try simp only [gs_on hv]);exact ⟨rfl,rfl,rfl⟩) ?_;refine s_pick (x:=(c_1.Min == 0)) (y:=false) rfl (fun hv => by (try simp only [gs_on hv]);rfl) (fun hv => by (try simp only [gs_on hv]);rfl) ?_;refine s_mov (.bool (bif r_34 then (c_1.Min == 0) else false)) rfl<|dk<|w_ret<|?_;obtain rfl:=os hf
        exact r_flat ⟨trivial,trivial⟩ rfl (.refl _)
       ·refine s_lit (s:=79) (b:=false) rfl (bf c33)<|s_off rfl rfl<|s_off rfl rfl<|s_off rfl rfl<|s_q (.bool false) rfl trivial rfl<|s_mov (.bool false) rfl<|s_off rfl rfl<|s_off rfl rfl<|s_off rfl rfl<|s_q (.bool false) rfl trivial rfl<|s_mov (.bool false) rfl<|dk<|w_ret<|?_;obtain rfl:=os hf;exact r_flat ⟨trivial,trivial⟩ rfl (.refl _)
      ·refine w_condf rfl (bf c32)<|w_skip<|k_blk<|k_seq<|sr<|s_mov (.bool false) rfl<|dk<|w_ret<|?_;obtain rfl:=os hf;exact r_flat ⟨trivial,trivial⟩ rfl (.refl _)

/- slices.IndexFunc[[]impl.Column,impl.Column] -/
def c199:ACode :=
 (.seq (.reg (tm 4 (.c (.int .i64 0)) .done))
 (.seq (.seq (.reg (tm 6 (.t 0) (tq 7 (.len (.t 6)) (tm 8 (.c (.int .i64 0)) .done))))
 (.block 0 (.loop (.seq (.reg (tq 9 (.bin .lss (.t 8) (.t 7)) .done))
 (.seq (.cond (.t 9) .skip
 (.exit 0))
 (.seq (.block 1 (.seq (.reg (tm 10 (.t 8) (tm 5 (.t 10) .done)))
 (.seq (.reg (tm 11 (.t 1) (tm 12 (.t 0) (tm 13 (.t 5) (tq 14 (.iaddr 8 (.t 12) (.t 13)) (tq 15 (.load 8 true (.t 14)) (tq 16 (.calv (.t 11) [(.t 15)]) .done)))))))
 (.cond (.t 16) (.seq (.reg (tm 17 (.t 5) (tm 4 (.t 17) .done)))
 .ret)
 .skip))))
 (.reg (tq 18 (.bin .add (.t 8) (.c (.int .i64 1))) (tm 8 (.t 18) .done)))))))))
 (.cut (.seq (.reg (tq 4 (.mov (.c (.int .i64 (-1)))) .done))
 .ret))))
theorem fc199:fcomp Tryz.prog Tryz.f199 = some (c199.erase,[.mov (.t 4)],19):=by kernel_rfl
def slices_IndexFunc_impl_Column_impl_Column_L1 (f_2:(GColumn → Option Bool)):List GColumn → Nat → Option (Fl Int Unit)
  | [],s8_17 =>
    some (.go ())
  | x_31 :: xs,s8_17 =>
    (f_2 x_31).bind fun r_32 =>
    if r_32 then
    some (.ret (s8_17:Int))
    else
    slices_IndexFunc_impl_Column_impl_Column_L1 f_2 xs (s8_17 + 1)

def slices_IndexFunc_impl_Column_impl_Column (s_1:(List GColumn)) (f_2:(GColumn → Option Bool)):Option Int :=
    (slices_IndexFunc_impl_Column_impl_Column_L1 f_2 s_1 0).bind fun q => (match q with
    | .ret r => some r
    | .go _ =>
    some (-1))
theorem w_slices_IndexFunc_impl_Column_impl_Column (s_1:(List GColumn)) (f_2:(GColumn → Option Bool)) (r:Int) (hf:slices_IndexFunc_impl_Column_impl_Column s_1 f_2 = some r) (kf_f_2:Nat) (cf_f_2:List AV) (okf_f_2:okFn Tryz.prog kf_f_2 = true) (hcf_f_2:∀ h p,closeWs h p cf_f_2 = some cf_f_2) (hrf_f_2:∀ f,rens f cf_f_2 = cf_f_2) (hpf_f_2:∀ a0 r,f_2 a0 = some r → CallOK Tryz.prog kf_f_2 .flat ([(encGColumn a0)] ++ cf_f_2) (.bool r)):CallOK Tryz.prog 199 .flat [(.lst 8 (s_1.map encGColumn)),(.fn kf_f_2 cf_f_2)] (.int .i64 r):=by
 refine CallOK.of_awp mixed Tryz.func199 fc199 nle ?_;rw [argT_eq];unfold slices_IndexFunc_impl_Column_impl_Column at hf;unfold c199;refine (show awp Tryz.prog false 0 _ (ofL [(0,(.lst 8 (s_1.map encGColumn))),(1,(.fn kf_f_2 cf_f_2))]) [] _ from ?_);refine sr<|s_mov (.int .i64 0) rfl<|dk<|awp_seq<|sr<|s_mov (.lst 8 (s_1.map encGColumn)) rfl<|s_dof (o_len (enc:=encGColumn) rfl) fun hl3 => s_mov (.int .i64 0) rfl<|dk<|?_
 obtain ⟨p24,hb1,hf⟩:=ob hf
 refine awp_cutx (X:={q:Unit // p24 = .go q}) (fun q => ([],[])) ?_ ?_
 ·refine awp_loop (X:={q:Nat // slices_IndexFunc_impl_Column_impl_Column_L1 f_2 (s_1.drop q) q = some p24}) (fun q => ([(0,(.lst 8 (s_1.map encGColumn))),(1,(.fn kf_f_2 cf_f_2)),(7,(.int .i64 (s_1.length:Int))),(8,(.int .i64 (q.1:Int)))],[])) (fun q => s_1.length - q.1) ⟨0,hb1⟩ ⟨[],[],_,_,rfl,rfl,⟨.refl _,⟨.of_eq (congrArg (AV.fn _) (hrf_f_2 _)),⟨.refl _,⟨.refl _,trivial⟩⟩⟩⟩,(.refl _)⟩ ?_
  rintro ⟨s8_17,hc1⟩
  have hc1:slices_IndexFunc_impl_Column_impl_Column_L1 f_2 (s_1.drop s8_17) s8_17 = some p24:=hc1
  refine (show awp Tryz.prog false 0 _ (ofL [(0,(.lst 8 (s_1.map encGColumn))),(1,(.fn kf_f_2 cf_f_2)),(7,(.int .i64 (s_1.length:Int))),(8,(.int .i64 (s8_17:Int)))]) [] _ from ?_)
  rcases dropc s_1 s8_17 with ⟨hie27,hd30⟩ | ⟨hlt25,x_31,hx26,hd30⟩
  ·rw [hd30,slices_IndexFunc_impl_Column_impl_Column_L1.eq_1] at hc1
   have hq29:=dlf hie27
   refine sr<|s_q (.bool (decide ((s8_17:Int) < (s_1.length:Int)))) rfl rfl rfl<|dk<|awp_seq<|w_condf rfl hq29<|w_exit<|k_seqx<|k_loopx<|k_blkx<|?_;obtain rfl:=os hc1;exact k_cutn ⟨_,rfl⟩ ⟨[],[],_,_,rfl,rfl,trivial,(.refl _)⟩
  ·rw [hd30,slices_IndexFunc_impl_Column_impl_Column_L1.eq_2] at hc1
   have hq29:=dlt hlt25
   refine sr<|s_q (.bool (decide ((s8_17:Int) < (s_1.length:Int)))) rfl rfl rfl<|dk<|awp_seq<|w_condt rfl hq29<|w_skip<|k_seq<|awp_seq<|w_blk<|sr<|s_mov (.int .i64 (s8_17:Int)) rfl<|s_mov (.int .i64 (s8_17:Int)) rfl<|dk<|sr<|?_
   obtain ⟨r_32,er33,hc1⟩:=ob hc1
   refine s_mov (.fn kf_f_2 cf_f_2) rfl<|s_mov (.lst 8 (s_1.map encGColumn)) rfl<|s_mov (.int .i64 (s8_17:Int)) rfl<|s_do (o_iaddrn (enc:=encGColumn) rfl rfl hx26)<|s_q (encGColumn x_31) rfl nle rfl<|s_do (o_calvp (v:=(.bool r_32)) rfl okf_f_2 hcf_f_2 (hpf_f_2 _ _ er33) rfl (.refl _) rfl)<|dk<|?_
   rcases oi hc1 with ⟨c34,hc1⟩ | ⟨c34,hc1⟩
   ·refine w_condt rfl c34<|sr<|s_mov (.int .i64 (s8_17:Int)) rfl<|s_mov (.int .i64 (s8_17:Int)) rfl<|dk<|w_ret<|?_;obtain rfl:=os hc1;obtain rfl:=os hf;exact r_flat ⟨trivial,trivial⟩ rfl (.refl _)
   ·refine w_condf rfl (bf c34)<|w_skip<|k_blk<|k_seq<|w_reg<|s_q (.int .i64 (w64 ((s8_17:Int) + 1))) rfl rfl rfl<|s_mov (.int .i64 (w64 ((s8_17:Int) + 1))) rfl<|w_done<|?_;exact k_loopn ⟨(s8_17 + 1),hc1⟩ (mul hlt25) ⟨[],[],_,_,rfl,rfl,⟨.refl _,⟨.of_eq (congrArg (AV.fn _) (hrf_f_2 _)),⟨.refl _,⟨.of_eq (congrArg (AV.int _) (w64_incr hlt25 hl3)),trivial⟩⟩⟩⟩,(.refl _)⟩
 ·rintro ⟨_,rfl⟩
  refine sr<|s_mov (.int .i64 (-1)) rfl<|dk<|w_ret<|?_;obtain rfl:=os hf;exact r_flat ⟨trivial,trivial⟩ rfl (.refl _)

/- (impl.Table).columnAt$1 -/
def c227:ACode :=
 (.seq (.reg (tq 2 (.box 8 (.t 0)) (tm 3 (.c (.bool false)) .done)))
 (.seq (.reg (tq 4 (.faddr 0 (.t 2)) (tq 5 (.load 1 false (.t 4)) (tq 6 (.load 1 false (.t 1)) (tq 7 (.bin .eql (.t 5) (.t 6)) (tm 3 (.t 7) .done))))))
 .ret))
theorem fc227:fcomp Tryz.prog Tryz.f227 = some (c227.erase,[.mov (.t 3)],8):=by kernel_rfl
def impl_Table_columnAt_1 (c_1:GColumn) (cap_2:Str):Option Bool :=
    some (c_1.Name == cap_2)
theorem w_impl_Table_columnAt_1 (c_1:GColumn) (cap_2:Str) (r:Bool) (hf:impl_Table_columnAt_1 c_1 cap_2 = some r):CallOK Tryz.prog 227 .flat [(encGColumn c_1),(.iptr (.str cap_2) 0)] (.bool r):=by
  refine CallOK.of_awp mixed Tryz.func227 fc227 nle ?_
  rw [argT_eq]
  unfold impl_Table_columnAt_1 at hf
  unfold c227
  refine (show awp Tryz.prog false 0 _ (ofL [(0,(encGColumn c_1)),(1,(.iptr (.str cap_2) 0))]) [] _ from ?_)
  refine awp_seq ?_
  refine w_reg ?_
  refine s_do (o_box (j:=0) (c:=(.agg [(.str c_1.Name),(.int .i64 c_1.Kind),(.int .i64 c_1.Min),(.int .i64 c_1.Max),(.int .i64 c_1.Low),(.int .i64 c_1.High),(.str c_1.Ref),(.bool c_1.Strong)])) rfl trivial rfl rfl) ?_
  refine s_do (o_mov (.bool false) rfl) ?_
  refine w_done ?_
  refine k_seq ?_
  refine awp_seq ?_
  refine w_reg ?_
  refine s_do (o_q (.ptr 0 0 0) rfl trivial rfl) ?_
  refine s_do (o_q (.str c_1.Name) rfl nle rfl) ?_
  refine s_do (o_q (.str cap_2) rfl ⟨rfl,rfl⟩ rfl) ?_
  refine s_do (o_q (.bool (c_1.Name == cap_2)) rfl trivial rfl) ?_
  refine s_do (o_mov (.bool (c_1.Name == cap_2)) rfl) ?_
  refine w_done ?_
  refine k_seq ?_
  refine w_ret ?_
  obtain rfl:=os hf
  exact r_flat ⟨trivial,trivial⟩ rfl (.refl _)

/- (impl.Table).columnAt -/
def c172:ACode :=
 (.seq (.reg (tq 2 (.box 4 (.t 0)) (tq 3 (.box 1 (.t 1)) (tm 4 (.c (.int .i64 0)) .done))))
 (.seq (.reg (tq 5 (.faddr 1 (.t 2)) (tq 6 (.load 1 false (.t 5)) (tq 7 (.mkfn 227 [(.t 3)]) (tq 8 (.call 199 [(.t 6),(.t 7)]) (tm 4 (.t 8) .done))))))
 .ret))
theorem fc172:fcomp Tryz.prog Tryz.f172 = some (c172.erase,[.mov (.t 4)],9):=by kernel_rfl
def impl_Table_columnAt (t_1:GTable) (name_2:Str):Option Int :=
    (slices_IndexFunc_impl_Column_impl_Column t_1.Columns (fun a0 => impl_Table_columnAt_1 a0 name_2)).bind fun r_3 =>
    some r_3
theorem w_impl_Table_columnAt (t_1:GTable) (name_2:Str) (r:Int) (hf:impl_Table_columnAt t_1 name_2 = some r):CallOK Tryz.prog 172 .flat [(encGTable t_1),(.str name_2)] (.int .i64 r):=by
  refine CallOK.of_awp mixed Tryz.func172 fc172 nle ?_
  rw [argT_eq]
  unfold impl_Table_columnAt at hf
  unfold c172
  refine (show awp Tryz.prog false 0 _ (ofL [(0,(encGTable t_1)),(1,(.str name_2))]) [] _ from ?_)
  refine awp_seq ?_
  refine w_reg ?_
  refine s_do (o_box (j:=0) (c:=(.agg [(.str t_1.Name),(.lst 8 (t_1.Columns.map encGColumn)),(.lst 1 (t_1.Unique.map encI)),(.bool t_1.Root)])) rfl trivial rfl rfl) ?_
  refine s_do (o_box (j:=1) (c:=(.str name_2)) rfl trivial rfl rfl) ?_
  refine s_do (o_mov (.int .i64 0) rfl) ?_
  refine w_done ?_
  refine k_seq ?_
  refine awp_seq ?_
  refine w_reg ?_
  obtain ⟨r_3,er4,hf⟩:=ob hf
  refine s_do (o_q (.ptr 0 0 1) rfl trivial rfl) ?_
  refine s_do (o_q (.lst 8 (t_1.Columns.map encGColumn)) rfl nle rfl) ?_
  refine s_do (o_q (.fn 227 [(.ptr 1 0 0)]) rfl trivial rfl) ?_
  refine s_do (o_call (w_slices_IndexFunc_impl_Column_impl_Column _ _ _ er4 227 [(.iptr (.str name_2) 0)] (by kernel_rfl) (fun _ _ => rfl) (fun _ => rfl) (fun a0 r h => w_impl_Table_columnAt_1 a0 name_2 r h)) rfl (.refl _) rfl) ?_
  refine s_do (o_mov (.int .i64 r_3) rfl) ?_
  refine w_done ?_
  refine k_seq ?_
  refine w_ret ?_
  obtain rfl:=os hf
  exact r_flat ⟨trivial,trivial⟩ rfl (.refl _)

/- impl.isTable -/
def c117:ACode :=
 (.seq (.reg (tq 1 (.box 4 (.t 0)) (tm 2 (.c (.bool false)) .done)))
 (.seq (.seq (.reg (tq 7 (.faddr 0 (.t 1)) (tq 8 (.load 1 false (.t 7)) (tq 9 (.call 60 [(.t 8)]) (tq 10 (.not (.t 9)) (tm 11 (.t 10) (tg 12 11 false (.faddr 1 (.t 1)) (tg 13 11 false (.load 1 false (.t 12)) (tg 14 11 false (.len (.t 13)) (tg 15 11 false (.call 57 [(.t 14),(.c (.int .i64 1)),(.c (.int .i64 6))]) (tg 16 11 false (.not (.t 15)) (tq 17 (.pick (.t 11) (.c (.bool true)) (.t 16)) (tm 18 (.t 17) (tg 19 18 false (.faddr 2 (.t 1)) (tg 20 18 false (.load 1 false (.t 19)) (tg 21 18 false (.len (.t 20)) (tg 22 18 false (.faddr 1 (.t 1)) (tg 23 18 false (.load 1 false (.t 22)) (tg 24 18 false (.len (.t 23)) (tg 25 18 false (.bin .gtr (.t 21) (.t 24)) (tq 26 (.pick (.t 18) (.c (.bool true)) (.t 25)) .done)))))))))))))))))))))
 (.cut (.cond (.t 26) (.seq (.reg (tm 2 (.c (.bool false)) .done))
 .ret)
 .skip)))
 (.seq (.seq (.reg (tq 27 (.faddr 1 (.t 1)) (tq 28 (.load 1 false (.t 27)) (tq 29 (.len (.t 28)) (tm 30 (.c (.int .i64 0)) .done)))))
 (.block 0 (.loop (.seq (.reg (tq 31 (.bin .lss (.t 30) (.t 29)) .done))
 (.seq (.cond (.t 31) .skip
 (.exit 0))
 (.seq (.block 1 (.seq (.reg (tm 32 (.t 30) (tq 33 (.iaddr 8 (.t 28) (.t 30)) (tq 34 (.load 8 true (.t 33)) (tq 4 (.box 8 (.c (.agg [(.str []),(.int .i64 0),(.int .i64 0),(.int .i64 0),(.int .i64 0),(.int .i64 0),(.str []),(.bool false)]))) (tm 3 (.t 32) (.q ⟨none,none,.store 8 (.t 4) (.t 34)⟩
 .done)))))))
 (.seq (.reg (tq 35 (.load 8 true (.t 4)) (tq 36 (.call 197 [(.t 35)]) (tq 37 (.not (.t 36)) (tm 38 (.t 37) (tg 39 38 false (.load 4 true (.t 1)) (tg 40 38 false (.faddr 0 (.t 4)) (tg 41 38 false (.load 1 false (.t 40)) (tg 42 38 false (.call 172 [(.t 39),(.t 41)]) (tg 43 38 false (.mov (.t 3)) (tg 44 38 false (.bin .neq (.t 42) (.t 43)) (tq 45 (.pick (.t 38) (.c (.bool true)) (.t 44)) .done))))))))))))
 (.cut (.cond (.t 45) (.seq (.reg (tm 2 (.c (.bool false)) .done))
 .ret)
 .skip)))))
 (.reg (tq 46 (.bin .add (.t 30) (.c (.int .i64 1))) (tm 30 (.t 46) .done)))))))))
 (.cut (.seq (.seq (.reg (tq 47 (.faddr 2 (.t 1)) (tq 48 (.load 1 false (.t 47)) (tq 49 (.len (.t 48)) (tm 50 (.c (.int .i64 0)) .done)))))
 (.block 2 (.loop (.seq (.reg (tq 51 (.bin .lss (.t 50) (.t 49)) .done))
 (.seq (.cond (.t 51) .skip
 (.exit 2))
 (.seq (.block 3 (.seq (.reg (tm 52 (.t 50) (tq 53 (.iaddr 1 (.t 48) (.t 50)) (tq 54 (.load 1 false (.t 53)) (tm 5 (.t 52) (tm 6 (.t 54) .done))))))
 (.seq (.reg (tm 55 (.t 6) (tq 56 (.faddr 1 (.t 1)) (tq 57 (.load 1 false (.t 56)) (tq 58 (.len (.t 57)) (tq 59 (.bin .sub (.t 58) (.c (.int .i64 1))) (tq 60 (.call 57 [(.t 55),(.c (.int .i64 0)),(.t 59)]) (tq 61 (.not (.t 60)) (tm 62 (.t 61) (tg 63 62 false (.mov (.t 5)) (tg 64 62 false (.bin .gtr (.t 63) (.c (.int .i64 0))) (tg 65 62 false (.mov (.t 64)) (tg 66 65 true (.faddr 2 (.t 1)) (tg 67 65 true (.load 1 false (.t 66)) (tg 68 65 true (.mov (.t 5)) (tg 69 65 true (.bin .sub (.t 68) (.c (.int .i64 1))) (tg 70 65 true (.iaddr 1 (.t 67) (.t 69)) (tg 71 65 true (.load 1 false (.t 70)) (tg 72 65 true (.mov (.t 6)) (tg 73 65 true (.bin .geq (.t 71) (.t 72)) (tg 74 62 false (.pick (.t 65) (.t 73) (.c (.bool false))) (tq 75 (.pick (.t 62) (.c (.bool true)) (.t 74)) .done))))))))))))))))))))))
 (.cut (.cond (.t 75) (.seq (.reg (tm 2 (.c (.bool false)) .done))
 .ret)
 .skip)))))
 (.reg (tq 76 (.bin .add (.t 50) (.c (.int .i64 1))) (tm 50 (.t 76) .done)))))))))
 (.cut (.seq (.reg (tm 2 (.c (.bool true)) .done))
 .ret)))))))
theorem fc117:fcomp Tryz.prog Tryz.f117 = some (c117.erase,[.mov (.t 2)],77):=by kernel_rfl
def impl_isTable_L1 (t_1:GTable):List GColumn → Nat → Option (Fl Bool Unit)
  | [],s30_57 =>
    some (.go ())
  | x_81 :: xs,s30_57 =>
    (((impl_ColumnOK x_81).bind fun r_89 =>
    if (!r_89) then
    some true
    else
    (impl_Table_columnAt t_1 x_81.Name).bind fun r_92 =>
    some (r_92 != (s30_57:Int)):Option Bool)).bind fun s45_87 =>
    if s45_87 then
    some (.ret false)
    else
    impl_isTable_L1 t_1 xs (s30_57 + 1)

def impl_isTable_L2 (t_1:GTable):List Int → Nat → Option (Fl Bool Unit)
  | [],s50_137 =>
    some (.go ())
  | x_165 :: xs,s50_137 =>
    (((impl_within x_165 0 (w64 ((t_1.Columns.length:Int) - 1))).bind fun r_176 =>
    if (!r_176) then
    some true
    else
    if (decide ((s50_137:Int) > 0)) then
    (idx t_1.Unique (w64 ((s50_137:Int) - 1))).bind fun x_180 =>
    some (decide (x_180 ≥ x_165))
    else
    some false:Option Bool)).bind fun s75_173 =>
    if s75_173 then
    some (.ret false)
    else
    impl_isTable_L2 t_1 xs (s50_137 + 1)

def impl_isTable (t_1:GTable):Option Bool :=
    (((impl_NameOK t_1.Name).bind fun r_13 =>
    if (!r_13) then
    some true
    else
    (impl_within (t_1.Columns.length:Int) 1 6).bind fun r_18 =>
    some (bif (!r_18) then true else (decide ((t_1.Unique.length:Int) > (t_1.Columns.length:Int)))):Option Bool)).bind fun s26_11 =>
    if s26_11 then
    some false
    else
    (impl_isTable_L1 t_1 t_1.Columns 0).bind fun q => (match q with
    | .ret r => some r
    | .go _ =>
    (impl_isTable_L2 t_1 t_1.Unique 0).bind fun q => (match q with
    | .ret r => some r
    | .go _ =>
    some true))
theorem w_impl_isTable (t_1:GTable) (r:Bool) (hf:impl_isTable t_1 = some r):CallOK Tryz.prog 117 .flat [(encGTable t_1)] (.bool r):=by
 refine CallOK.of_awp mixed Tryz.func117 fc117 nle ?_;rw [argT_eq];unfold impl_isTable at hf;unfold c117;refine (show awp Tryz.prog false 0 _ (ofL [(0,(encGTable t_1))]) [] _ from ?_);refine sr<|s_do (o_box (j:=0) (c:=(.agg [(.str t_1.Name),(.lst 8 (t_1.Columns.map encGColumn)),(.lst 1 (t_1.Unique.map encI)),(.bool t_1.Root)])) rfl trivial rfl rfl)<|s_mov (.bool false) rfl<|dk<|awp_seq<|awp_seq<|?_
 obtain ⟨s26_11,hb1,hf⟩:=ob hf
 refine awp_cut ([(1,(.ptr 0 0 0)),(26,(.bool s26_11))],[.box 4 (.agg [(.str t_1.Name),(.lst 8 (t_1.Columns.map encGColumn)),(.lst 1 (t_1.Unique.map encI)),(.bool t_1.Root)])]) ?_ ?_
 ·refine w_reg<|s_q (.ptr 0 0 0) rfl trivial rfl<|s_q (.str t_1.Name) rfl nle rfl<|?_
  obtain ⟨r_13,er14,hb1⟩:=ob hb1
  refine s_do (o_call (w_impl_NameOK _ _ er14) rfl (.refl _) rfl)<|s_q (.bool (!r_13)) rfl trivial rfl<|s_mov (.bool (!r_13)) rfl<|?_
  rcases oi hb1 with ⟨c16,hb1⟩ | ⟨c16,hb1⟩
  ·refine s_lit (s:=11) (b:=true) rfl c16<|s_off rfl rfl<|s_off rfl rfl<|s_off rfl rfl<|s_off rfl rfl<|s_off rfl rfl<|s_q (.bool true) rfl trivial rfl<|s_mov (.bool true) rfl<|s_off rfl rfl<|s_off rfl rfl<|s_off rfl rfl<|s_off rfl rfl<|s_off rfl rfl<|s_off rfl rfl<|s_off rfl rfl<|s_q (.bool true) rfl trivial rfl<|w_done<|?_;obtain rfl:=os hb1;exact ⟨[],[0],_,_,rfl,rfl,⟨.refl _,⟨.refl _,trivial⟩⟩,(.refl _)⟩
  ·refine s_lit (s:=11) (b:=false) rfl (bf c16)<|s_on rfl<|s_q (.ptr 0 0 1) rfl trivial rfl<|s_on rfl<|s_q (.lst 8 (t_1.Columns.map encGColumn)) rfl nle rfl<|s_on rfl<|s_dof (o_len (enc:=encGColumn) rfl) fun hl17 => s_on rfl<|?_
   obtain ⟨r_18,er19,hb1⟩:=ob hb1
   refine s_do (o_call (w_impl_within _ _ _ _ er19) rfl (.refl _) rfl)<|s_on rfl<|s_q (.bool (!r_18)) rfl trivial rfl<|s_q (.bool (!r_18)) rfl trivial rfl<|s_mov (.bool (!r_18)) rfl<|?_;refine s_g (v:=(!r_18)) (.ptr 0 0 2) rfl (fun hv => by (try simp only [gs_on hv]);exact ⟨rfl,trivial,rfl⟩) ?_;refine s_g (v:=(!r_18)) (.lst 1 (t_1.Unique.map encI)) rfl (fun hv => by (try simp only [gs_on hv]);exact ⟨rfl,nle,rfl⟩) ?_;refine s_g (v:=(!r_18)) (.int .i64 (t_1.Unique.length:Int)) rfl (fun hv => by (try simp only [gs_on hv]);exact ⟨rfl,trivial,lenV _ _⟩) ?_;refine s_g (v:=(!r_18)) (.ptr 0 0 1) rfl (fun hv => by (try simp only [gs_on hv]);exact ⟨rfl,trivial,rfl⟩) ?_;refine s_g (v:=(!r_18)) (.lst 8 (t_1.Columns.map encGColumn)) rfl (fun hv => by (try simp only [gs_on hv]);exact ⟨rfl,nle,rfl⟩) ?_
   refine s_g (v:=(!r_18)) (.int .i64 (t_1.Columns.length:Int)) rfl (fun hv => by (try simp only [gs_on hv]);exact ⟨rfl,trivial,lenV _ _⟩) ?_;refine s_g (v:=(!r_18)) (.bool (decide ((t_1.Unique.length:Int) > (t_1.Columns.length:Int)))) rfl (fun hv => by (try simp only [gs_on hv]);exact ⟨rfl,rfl,rfl⟩) ?_;refine s_pick (x:=true) (y:=(decide ((t_1.Unique.length:Int) > (t_1.Columns.length:Int)))) rfl (fun hv => by (try simp only [gs_on hv]);rfl) (fun hv => by (try simp only [gs_on hv]);rfl) ?_;refine w_done ?_;obtain rfl:=os hb1;exact ⟨[],[0],_,_,rfl,rfl,⟨.refl _,⟨.refl _,trivial⟩⟩,(.refl _)⟩
 ·rcases oi hf with ⟨c22,hf⟩ | ⟨c22,hf⟩
  ·refine w_condt rfl c22<|sr<|s_mov (.bool false) rfl<|dk<|w_ret<|?_;obtain rfl:=os hf;exact r_flat ⟨trivial,trivial⟩ rfl (.refl _)
  ·refine w_condf rfl (bf c22)<|w_skip<|k_seq<|awp_seq<|sr<|s_q (.ptr 0 0 1) rfl trivial rfl<|s_q (.lst 8 (t_1.Columns.map encGColumn)) rfl nle rfl<|s_dof (o_len (enc:=encGColumn) rfl) fun hl23 => s_mov (.int .i64 0) rfl<|dk<|?_
   obtain ⟨p74,hb1,hf⟩:=ob hf
   refine awp_cutx (X:={q:Unit // p74 = .go q}) (fun q => ([(1,(.ptr 0 0 0))],[.box 4 (.agg [(.str t_1.Name),(.lst 8 (t_1.Columns.map encGColumn)),(.lst 1 (t_1.Unique.map encI)),(.bool t_1.Root)])])) ?_ ?_
   ·refine awp_loop (X:={q:Nat // impl_isTable_L1 t_1 (t_1.Columns.drop q) q = some p74}) (fun q => ([(1,(.ptr 0 0 0)),(28,(.lst 8 (t_1.Columns.map encGColumn))),(29,(.int .i64 (t_1.Columns.length:Int))),(30,(.int .i64 (q.1:Int)))],[.box 4 (.agg [(.str t_1.Name),(.lst 8 (t_1.Columns.map encGColumn)),(.lst 1 (t_1.Unique.map encI)),(.bool t_1.Root)])])) (fun q => t_1.Columns.length - q.1) ⟨0,hb1⟩ ⟨[],[0],_,_,rfl,rfl,⟨.refl _,⟨.refl _,⟨.refl _,⟨.refl _,trivial⟩⟩⟩⟩,(.refl _)⟩ ?_
    rintro ⟨s30_57,hc1⟩
    have hc1:impl_isTable_L1 t_1 (t_1.Columns.drop s30_57) s30_57 = some p74:=hc1
    refine (show awp Tryz.prog false 0 _ (ofL [(1,(.ptr 0 0 0)),(28,(.lst 8 (t_1.Columns.map encGColumn))),(29,(.int .i64 (t_1.Columns.length:Int))),(30,(.int .i64 (s30_57:Int)))]) [.box 4 (.agg [(.str t_1.Name),(.lst 8 (t_1.Columns.map encGColumn)),(.lst 1 (t_1.Unique.map encI)),(.bool t_1.Root)])] _ from ?_)
    rcases dropc t_1.Columns s30_57 with ⟨hie77,hd80⟩ | ⟨hlt75,x_81,hx76,hd80⟩
    ·rw [hd80,impl_isTable_L1.eq_1] at hc1
     have hq79:=dlf hie77
     refine sr<|s_q (.bool (decide ((s30_57:Int) < (t_1.Columns.length:Int)))) rfl rfl rfl<|dk<|awp_seq<|w_condf rfl hq79<|w_exit<|k_seqx<|k_loopx<|k_blkx<|?_;obtain rfl:=os hc1;exact k_cutn ⟨_,rfl⟩ ⟨[],[0],_,_,rfl,rfl,⟨.refl _,trivial⟩,(.refl _)⟩
    ·rw [hd80,impl_isTable_L1.eq_2] at hc1
     have hq79:=dlt hlt75
     refine sr<|s_q (.bool (decide ((s30_57:Int) < (t_1.Columns.length:Int)))) rfl rfl rfl<|dk<|awp_seq<|w_condt rfl hq79<|w_skip<|k_seq<|awp_seq<|w_blk<|sr<|s_mov (.int .i64 (s30_57:Int)) rfl<|s_do (o_iaddrn (enc:=encGColumn) rfl rfl hx76)<|s_q (encGColumn x_81) rfl nle rfl<|s_do (o_box (j:=1) (c:=(.agg [(.str []),(.int .i64 0),(.int .i64 0),(.int .i64 0),(.int .i64 0),(.int .i64 0),(.str []),(.bool false)])) rfl trivial rfl rfl)<|s_mov (.int .i64 (s30_57:Int)) rfl<|s_do0 (o_storebox (v:=(.agg [(.str x_81.Name),(.int .i64 x_81.Kind),(.int .i64 x_81.Min),(.int .i64 x_81.Max),(.int .i64 x_81.Low),(.int .i64 x_81.High),(.str x_81.Ref),(.bool x_81.Strong)])) (y':=(.agg [(.str x_81.Name),(.int .i64 x_81.Kind),(.int .i64 x_81.Min),(.int .i64 x_81.Max),(.int .i64 x_81.Low),(.int .i64 x_81.High),(.str x_81.Ref),(.bool x_81.Strong)])) rfl rfl rfl trivial ⟨rfl,nle⟩ ⟨⟨rfl,trivial⟩,⟨⟨rfl,trivial⟩,⟨⟨rfl,trivial⟩,⟨⟨rfl,trivial⟩,⟨⟨rfl,trivial⟩,⟨⟨rfl,trivial⟩,⟨⟨rfl,trivial⟩,⟨⟨rfl,trivial⟩,trivial⟩⟩⟩⟩⟩⟩⟩⟩ rfl)<|?_
     refine dk<|awp_seq<|?_
     obtain ⟨s45_87,hb2,hc1⟩:=ob hc1
     refine awp_cut ([(1,(.ptr 0 0 0)),(28,(.lst 8 (t_1.Columns.map encGColumn))),(29,(.int .i64 (t_1.Columns.length:Int))),(30,(.int .i64 (s30_57:Int))),(45,(.bool s45_87))],[.box 4 (.agg [(.str t_1.Name),(.lst 8 (t_1.Columns.map encGColumn)),(.lst 1 (t_1.Unique.map encI)),(.bool t_1.Root)])]) ?_ ?_
     ·refine w_reg ?_
      obtain ⟨r_89,er90,hb2⟩:=ob hb2
      rcases oi hb2 with ⟨c91,hb2⟩ | ⟨c91,hb2⟩
      ·refine s_q (.agg [(.str x_81.Name),(.int .i64 x_81.Kind),(.int .i64 x_81.Min),(.int .i64 x_81.Max),(.int .i64 x_81.Low),(.int .i64 x_81.High),(.str x_81.Ref),(.bool x_81.Strong)]) rfl nle rfl<|s_do (o_call (w_impl_ColumnOK _ _ er90) rfl (.refl _) rfl)<|s_q (.bool (!r_89)) rfl trivial rfl<|s_mov (.bool (!r_89)) rfl<|s_lit (s:=38) (b:=true) rfl c91<|s_off rfl rfl<|s_off rfl rfl<|s_off rfl rfl<|s_off rfl rfl<|s_off rfl rfl<|s_off rfl rfl<|s_q (.bool true) rfl trivial rfl<|w_done<|?_;obtain rfl:=os hb2;exact ⟨[],[0],_,_,rfl,rfl,⟨.refl _,⟨.refl _,⟨.refl _,⟨.refl _,⟨.refl _,trivial⟩⟩⟩⟩⟩,(.refl _)⟩
      ·obtain ⟨r_92,er93,hb2⟩:=ob hb2
       refine s_q (.agg [(.str x_81.Name),(.int .i64 x_81.Kind),(.int .i64 x_81.Min),(.int .i64 x_81.Max),(.int .i64 x_81.Low),(.int .i64 x_81.High),(.str x_81.Ref),(.bool x_81.Strong)]) rfl nle rfl<|s_do (o_call (w_impl_ColumnOK _ _ er90) rfl (.refl _) rfl)<|s_q (.bool (!r_89)) rfl trivial rfl<|s_mov (.bool (!r_89)) rfl<|s_lit (s:=38) (b:=false) rfl (bf c91)<|s_on rfl<|s_q (.agg [(.str t_1.Name),(.lst 8 (t_1.Columns.map encGColumn)),(.lst 1 (t_1.Unique.map encI)),(.bool t_1.Root)]) rfl nle rfl<|s_on rfl<|s_q (.ptr 1 0 0) rfl trivial rfl<|s_on rfl<|s_q (.str x_81.Name) rfl nle rfl<|s_on rfl<|s_do (o_call (w_impl_Table_columnAt _ _ _ er93) rfl (.refl _) rfl)<|s_on rfl<|?_
       refine s_mov (.int .i64 (s30_57:Int)) rfl<|s_on rfl<|s_q (.bool (r_92 != (s30_57:Int))) rfl rfl rfl<|s_q (.bool (r_92 != (s30_57:Int))) rfl trivial rfl<|w_done<|?_;obtain rfl:=os hb2;exact ⟨[],[0],_,_,rfl,rfl,⟨.refl _,⟨.refl _,⟨.refl _,⟨.refl _,⟨.refl _,trivial⟩⟩⟩⟩⟩,(.refl _)⟩
     ·rcases oi hc1 with ⟨c94,hc1⟩ | ⟨c94,hc1⟩
      ·refine w_condt rfl c94<|sr<|s_mov (.bool false) rfl<|dk<|w_ret<|?_;obtain rfl:=os hc1;obtain rfl:=os hf;exact r_flat ⟨trivial,trivial⟩ rfl (.refl _)
      ·refine w_condf rfl (bf c94)<|w_skip<|k_blk<|k_seq<|w_reg<|s_q (.int .i64 (w64 ((s30_57:Int) + 1))) rfl rfl rfl<|s_mov (.int .i64 (w64 ((s30_57:Int) + 1))) rfl<|w_done<|?_;exact k_loopn ⟨(s30_57 + 1),hc1⟩ (mul hlt75) ⟨[],[0],_,_,rfl,rfl,⟨.refl _,⟨.refl _,⟨.refl _,⟨.of_eq (congrArg (AV.int _) (w64_incr hlt75 hl23)),trivial⟩⟩⟩⟩,(.refl _)⟩
   ·rintro ⟨_,rfl⟩
    refine awp_seq<|sr<|s_q (.ptr 0 0 2) rfl trivial rfl<|s_q (.lst 1 (t_1.Unique.map encI)) rfl nle rfl<|s_dof (o_len (enc:=encI) rfl) fun hl95 => s_mov (.int .i64 0) rfl<|dk<|?_
    obtain ⟨p158,hb1,hf⟩:=ob hf
    refine awp_cutx (X:={q:Unit // p158 = .go q}) (fun q => ([],[])) ?_ ?_
    ·refine awp_loop (X:={q:Nat // impl_isTable_L2 t_1 (t_1.Unique.drop q) q = some p158}) (fun q => ([(1,(.ptr 0 0 0)),(48,(.lst 1 (t_1.Unique.map encI))),(49,(.int .i64 (t_1.Unique.length:Int))),(50,(.int .i64 (q.1:Int)))],[.box 4 (.agg [(.str t_1.Name),(.lst 8 (t_1.Columns.map encGColumn)),(.lst 1 (t_1.Unique.map encI)),(.bool t_1.Root)])])) (fun q => t_1.Unique.length - q.1) ⟨0,hb1⟩ ⟨[],[0],_,_,rfl,rfl,⟨.refl _,⟨.refl _,⟨.refl _,⟨.refl _,trivial⟩⟩⟩⟩,(.refl _)⟩ ?_
     rintro ⟨s50_137,hc1⟩
     have hc1:impl_isTable_L2 t_1 (t_1.Unique.drop s50_137) s50_137 = some p158:=hc1
     refine (show awp Tryz.prog false 0 _ (ofL [(1,(.ptr 0 0 0)),(48,(.lst 1 (t_1.Unique.map encI))),(49,(.int .i64 (t_1.Unique.length:Int))),(50,(.int .i64 (s50_137:Int)))]) [.box 4 (.agg [(.str t_1.Name),(.lst 8 (t_1.Columns.map encGColumn)),(.lst 1 (t_1.Unique.map encI)),(.bool t_1.Root)])] _ from ?_)
     rcases dropc t_1.Unique s50_137 with ⟨hie161,hd164⟩ | ⟨hlt159,x_165,hx160,hd164⟩
     ·rw [hd164,impl_isTable_L2.eq_1] at hc1
      have hq163:=dlf hie161
      refine sr<|s_q (.bool (decide ((s50_137:Int) < (t_1.Unique.length:Int)))) rfl rfl rfl<|dk<|awp_seq<|w_condf rfl hq163<|w_exit<|k_seqx<|k_loopx<|k_blkx<|?_;obtain rfl:=os hc1;exact k_cutn ⟨_,rfl⟩ ⟨[],[],_,_,rfl,rfl,trivial,(.refl _)⟩
     ·rw [hd164,impl_isTable_L2.eq_2] at hc1
      have hq163:=dlt hlt159
      refine sr<|s_q (.bool (decide ((s50_137:Int) < (t_1.Unique.length:Int)))) rfl rfl rfl<|dk<|awp_seq<|w_condt rfl hq163<|w_skip<|k_seq<|awp_seq<|w_blk<|sr<|s_mov (.int .i64 (s50_137:Int)) rfl<|s_do (o_iaddrn (enc:=encI) rfl rfl hx160)<|s_q (.int .i64 x_165) rfl ⟨rfl,rfl⟩ rfl<|s_mov (.int .i64 (s50_137:Int)) rfl<|s_mov (.int .i64 x_165) rfl<|dk<|awp_seq<|?_
      obtain ⟨s75_173,hb2,hc1⟩:=ob hc1
      refine awp_cut ([(1,(.ptr 0 0 0)),(48,(.lst 1 (t_1.Unique.map encI))),(49,(.int .i64 (t_1.Unique.length:Int))),(50,(.int .i64 (s50_137:Int))),(75,(.bool s75_173))],[.box 4 (.agg [(.str t_1.Name),(.lst 8 (t_1.Columns.map encGColumn)),(.lst 1 (t_1.Unique.map encI)),(.bool t_1.Root)])]) ?_ ?_
      ·refine w_reg<|s_mov (.int .i64 x_165) rfl<|s_q (.ptr 0 0 1) rfl trivial rfl<|s_q (.lst 8 (t_1.Columns.map encGColumn)) rfl nle rfl<|s_dof (o_len (enc:=encGColumn) rfl) fun hl175 => s_q (.int .i64 (w64 ((t_1.Columns.length:Int) - 1))) rfl rfl rfl<|?_
       obtain ⟨r_176,er177,hb2⟩:=ob hb2
       refine s_do (o_call (w_impl_within _ _ _ _ er177) rfl (.refl _) rfl)<|s_q (.bool (!r_176)) rfl trivial rfl<|s_mov (.bool (!r_176)) rfl<|?_
       rcases oi hb2 with ⟨c178,hb2⟩ | ⟨c178,hb2⟩
       ·refine s_lit (s:=62) (b:=true) rfl c178<|s_off rfl rfl<|s_off rfl rfl<|s_off rfl rfl<|s_offs rfl<|s_offs rfl<|s_offs rfl<|s_offs rfl<|s_offs rfl<|s_offs rfl<|s_offs rfl<|s_offs rfl<|s_off rfl rfl<|s_q (.bool true) rfl trivial rfl<|w_done<|?_;obtain rfl:=os hb2;exact ⟨[],[0],_,_,rfl,rfl,⟨.refl _,⟨.refl _,⟨.refl _,⟨.refl _,⟨.refl _,trivial⟩⟩⟩⟩⟩,(.refl _)⟩
       ·refine s_lit (s:=62) (b:=false) rfl (bf c178)<|s_on rfl<|s_mov (.int .i64 (s50_137:Int)) rfl<|s_on rfl<|s_q (.bool (decide ((s50_137:Int) > 0))) rfl rfl rfl<|s_on rfl<|s_mov (.bool (decide ((s50_137:Int) > 0))) rfl<|?_
        rcases oi hb2 with ⟨c179,hb2⟩ | ⟨c179,hb2⟩
        ·refine s_lit (s:=65) (b:=true) rfl c179<|s_on rfl<|s_q (.ptr 0 0 2) rfl trivial rfl<|s_on rfl<|s_q (.lst 1 (t_1.Unique.map encI)) rfl nle rfl<|s_on rfl<|s_mov (.int .i64 (s50_137:Int)) rfl<|s_on rfl<|s_q (.int .i64 (w64 ((s50_137:Int) - 1))) rfl rfl rfl<|s_on rfl<|?_
         obtain ⟨x_180,ex181,hb2⟩:=ob hb2
         refine s_do (o_iaddr (enc:=encI) rfl rfl (idx0 ex181) (idx1 ex181))<|s_on rfl<|s_q (.int .i64 x_180) rfl ⟨rfl,rfl⟩ rfl<|s_on rfl<|s_mov (.int .i64 x_165) rfl<|s_on rfl<|s_q (.bool (decide (x_180 ≥ x_165))) rfl rfl rfl<|s_on rfl<|s_q (.bool (decide (x_180 ≥ x_165))) rfl trivial rfl<|s_q (.bool (decide (x_180 ≥ x_165))) rfl trivial rfl<|w_done<|?_;obtain rfl:=os hb2;exact ⟨[],[0],_,_,rfl,rfl,⟨.refl _,⟨.refl _,⟨.refl _,⟨.refl _,⟨.refl _,trivial⟩⟩⟩⟩⟩,(.refl _)⟩
        ·refine s_lit (s:=65) (b:=false) rfl (bf c179)<|s_off rfl rfl<|s_off rfl rfl<|s_off rfl rfl<|s_off rfl rfl<|s_off rfl rfl<|s_off rfl rfl<|s_off rfl rfl<|s_off rfl rfl<|s_on rfl<|s_q (.bool false) rfl trivial rfl<|s_q (.bool false) rfl trivial rfl<|w_done<|?_;obtain rfl:=os hb2;exact ⟨[],[0],_,_,rfl,rfl,⟨.refl _,⟨.refl _,⟨.refl _,⟨.refl _,⟨.refl _,trivial⟩⟩⟩⟩⟩,(.refl _)⟩
      ·rcases oi hc1 with ⟨c182,hc1⟩ | ⟨c182,hc1⟩
       ·refine w_condt rfl c182<|sr<|s_mov (.bool false) rfl<|dk<|w_ret<|?_;obtain rfl:=os hc1;obtain rfl:=os hf;exact r_flat ⟨trivial,trivial⟩ rfl (.refl _)
       ·refine w_condf rfl (bf c182)<|w_skip<|k_blk<|k_seq<|w_reg<|s_q (.int .i64 (w64 ((s50_137:Int) + 1))) rfl rfl rfl<|s_mov (.int .i64 (w64 ((s50_137:Int) + 1))) rfl<|w_done<|?_;exact k_loopn ⟨(s50_137 + 1),hc1⟩ (mul hlt159) ⟨[],[0],_,_,rfl,rfl,⟨.refl _,⟨.refl _,⟨.refl _,⟨.of_eq (congrArg (AV.int _) (w64_incr hlt159 hl95)),trivial⟩⟩⟩⟩,(.refl _)⟩
    ·rintro ⟨_,rfl⟩
     refine sr<|s_mov (.bool true) rfl<|dk<|w_ret<|?_;obtain rfl:=os hf;exact r_flat ⟨trivial,trivial⟩ rfl (.refl _)

/- slices.IndexFunc[[]impl.Atom,impl.Atom] -/
def c250:ACode :=
 (.seq (.reg (tm 4 (.c (.int .i64 0)) .done))
 (.seq (.seq (.reg (tm 6 (.t 0) (tq 7 (.len (.t 6)) (tm 8 (.c (.int .i64 0)) .done))))
 (.block 0 (.loop (.seq (.reg (tq 9 (.bin .lss (.t 8) (.t 7)) .done))
 (.seq (.cond (.t 9) .skip
 (.exit 0))
 (.seq (.block 1 (.seq (.reg (tm 10 (.t 8) (tm 5 (.t 10) .done)))
 (.seq (.reg (tm 11 (.t 1) (tm 12 (.t 0) (tm 13 (.t 5) (tq 14 (.iaddr 3 (.t 12) (.t 13)) (tq 15 (.load 3 true (.t 14)) (tq 16 (.calv (.t 11) [(.t 15)]) .done)))))))
 (.cond (.t 16) (.seq (.reg (tm 17 (.t 5) (tm 4 (.t 17) .done)))
 .ret)
 .skip))))
 (.reg (tq 18 (.bin .add (.t 8) (.c (.int .i64 1))) (tm 8 (.t 18) .done)))))))))
 (.cut (.seq (.reg (tq 4 (.mov (.c (.int .i64 (-1)))) .done))
 .ret))))
theorem fc250:fcomp Tryz.prog Tryz.f250 = some (c250.erase,[.mov (.t 4)],19):=by kernel_rfl
def slices_IndexFunc_impl_Atom_impl_Atom_L1 (f_2:(GAtom → Option Bool)):List GAtom → Nat → Option (Fl Int Unit)
  | [],s8_17 =>
    some (.go ())
  | x_31 :: xs,s8_17 =>
    (f_2 x_31).bind fun r_32 =>
    if r_32 then
    some (.ret (s8_17:Int))
    else
    slices_IndexFunc_impl_Atom_impl_Atom_L1 f_2 xs (s8_17 + 1)

def slices_IndexFunc_impl_Atom_impl_Atom (s_1:(List GAtom)) (f_2:(GAtom → Option Bool)):Option Int :=
    (slices_IndexFunc_impl_Atom_impl_Atom_L1 f_2 s_1 0).bind fun q => (match q with
    | .ret r => some r
    | .go _ =>
    some (-1))
theorem w_slices_IndexFunc_impl_Atom_impl_Atom (s_1:(List GAtom)) (f_2:(GAtom → Option Bool)) (r:Int) (hf:slices_IndexFunc_impl_Atom_impl_Atom s_1 f_2 = some r) (kf_f_2:Nat) (cf_f_2:List AV) (okf_f_2:okFn Tryz.prog kf_f_2 = true) (hcf_f_2:∀ h p,closeWs h p cf_f_2 = some cf_f_2) (hrf_f_2:∀ f,rens f cf_f_2 = cf_f_2) (hpf_f_2:∀ a0 r,f_2 a0 = some r → CallOK Tryz.prog kf_f_2 .flat ([(encGAtom a0)] ++ cf_f_2) (.bool r)):CallOK Tryz.prog 250 .flat [(.lst 3 (s_1.map encGAtom)),(.fn kf_f_2 cf_f_2)] (.int .i64 r):=by
 refine CallOK.of_awp mixed Tryz.func250 fc250 nle ?_;rw [argT_eq];unfold slices_IndexFunc_impl_Atom_impl_Atom at hf;unfold c250;refine (show awp Tryz.prog false 0 _ (ofL [(0,(.lst 3 (s_1.map encGAtom))),(1,(.fn kf_f_2 cf_f_2))]) [] _ from ?_);refine sr<|s_mov (.int .i64 0) rfl<|dk<|awp_seq<|sr<|s_mov (.lst 3 (s_1.map encGAtom)) rfl<|s_dof (o_len (enc:=encGAtom) rfl) fun hl3 => s_mov (.int .i64 0) rfl<|dk<|?_
 obtain ⟨p24,hb1,hf⟩:=ob hf
 refine awp_cutx (X:={q:Unit // p24 = .go q}) (fun q => ([],[])) ?_ ?_
 ·refine awp_loop (X:={q:Nat // slices_IndexFunc_impl_Atom_impl_Atom_L1 f_2 (s_1.drop q) q = some p24}) (fun q => ([(0,(.lst 3 (s_1.map encGAtom))),(1,(.fn kf_f_2 cf_f_2)),(7,(.int .i64 (s_1.length:Int))),(8,(.int .i64 (q.1:Int)))],[])) (fun q => s_1.length - q.1) ⟨0,hb1⟩ ⟨[],[],_,_,rfl,rfl,⟨.refl _,⟨.of_eq (congrArg (AV.fn _) (hrf_f_2 _)),⟨.refl _,⟨.refl _,trivial⟩⟩⟩⟩,(.refl _)⟩ ?_
  rintro ⟨s8_17,hc1⟩
  have hc1:slices_IndexFunc_impl_Atom_impl_Atom_L1 f_2 (s_1.drop s8_17) s8_17 = some p24:=hc1
  refine (show awp Tryz.prog false 0 _ (ofL [(0,(.lst 3 (s_1.map encGAtom))),(1,(.fn kf_f_2 cf_f_2)),(7,(.int .i64 (s_1.length:Int))),(8,(.int .i64 (s8_17:Int)))]) [] _ from ?_)
  rcases dropc s_1 s8_17 with ⟨hie27,hd30⟩ | ⟨hlt25,x_31,hx26,hd30⟩
  ·rw [hd30,slices_IndexFunc_impl_Atom_impl_Atom_L1.eq_1] at hc1
   have hq29:=dlf hie27
   refine sr<|s_q (.bool (decide ((s8_17:Int) < (s_1.length:Int)))) rfl rfl rfl<|dk<|awp_seq<|w_condf rfl hq29<|w_exit<|k_seqx<|k_loopx<|k_blkx<|?_;obtain rfl:=os hc1;exact k_cutn ⟨_,rfl⟩ ⟨[],[],_,_,rfl,rfl,trivial,(.refl _)⟩
  ·rw [hd30,slices_IndexFunc_impl_Atom_impl_Atom_L1.eq_2] at hc1
   have hq29:=dlt hlt25
   refine sr<|s_q (.bool (decide ((s8_17:Int) < (s_1.length:Int)))) rfl rfl rfl<|dk<|awp_seq<|w_condt rfl hq29<|w_skip<|k_seq<|awp_seq<|w_blk<|sr<|s_mov (.int .i64 (s8_17:Int)) rfl<|s_mov (.int .i64 (s8_17:Int)) rfl<|dk<|sr<|?_
   obtain ⟨r_32,er33,hc1⟩:=ob hc1
   refine s_mov (.fn kf_f_2 cf_f_2) rfl<|s_mov (.lst 3 (s_1.map encGAtom)) rfl<|s_mov (.int .i64 (s8_17:Int)) rfl<|s_do (o_iaddrn (enc:=encGAtom) rfl rfl hx26)<|s_q (encGAtom x_31) rfl nle rfl<|s_do (o_calvp (v:=(.bool r_32)) rfl okf_f_2 hcf_f_2 (hpf_f_2 _ _ er33) rfl (.refl _) rfl)<|dk<|?_
   rcases oi hc1 with ⟨c34,hc1⟩ | ⟨c34,hc1⟩
   ·refine w_condt rfl c34<|sr<|s_mov (.int .i64 (s8_17:Int)) rfl<|s_mov (.int .i64 (s8_17:Int)) rfl<|dk<|w_ret<|?_;obtain rfl:=os hc1;obtain rfl:=os hf;exact r_flat ⟨trivial,trivial⟩ rfl (.refl _)
   ·refine w_condf rfl (bf c34)<|w_skip<|k_blk<|k_seq<|w_reg<|s_q (.int .i64 (w64 ((s8_17:Int) + 1))) rfl rfl rfl<|s_mov (.int .i64 (w64 ((s8_17:Int) + 1))) rfl<|w_done<|?_;exact k_loopn ⟨(s8_17 + 1),hc1⟩ (mul hlt25) ⟨[],[],_,_,rfl,rfl,⟨.refl _,⟨.of_eq (congrArg (AV.fn _) (hrf_f_2 _)),⟨.refl _,⟨.of_eq (congrArg (AV.int _) (w64_incr hlt25 hl3)),trivial⟩⟩⟩⟩,(.refl _)⟩
 ·rintro ⟨_,rfl⟩
  refine sr<|s_mov (.int .i64 (-1)) rfl<|dk<|w_ret<|?_;obtain rfl:=os hf;exact r_flat ⟨trivial,trivial⟩ rfl (.refl _)

/- slices.ContainsFunc[[]impl.Atom,impl.Atom] -/
def c228:ACode :=
 (.seq (.reg (tm 4 (.c (.bool false)) .done))
 (.seq (.reg (tm 5 (.t 0) (tm 6 (.t 1) (tq 7 (.call 250 [(.t 5),(.t 6)]) (tq 8 (.bin .geq (.t 7) (.c (.int .i64 0))) (tm 4 (.t 8) .done))))))
 .ret))
theorem fc228:fcomp Tryz.prog Tryz.f228 = some (c228.erase,[.mov (.t 4)],9):=by kernel_rfl
def slices_ContainsFunc_impl_Atom_impl_Atom (s_1:(List GAtom)) (f_2:(GAtom → Option Bool)):Option Bool :=
    (slices_IndexFunc_impl_Atom_impl_Atom s_1 f_2).bind fun r_3 =>
    some (decide (r_3 ≥ 0))
theorem w_slices_ContainsFunc_impl_Atom_impl_Atom (s_1:(List GAtom)) (f_2:(GAtom → Option Bool)) (r:Bool) (hf:slices_ContainsFunc_impl_Atom_impl_Atom s_1 f_2 = some r) (kf_f_2:Nat) (cf_f_2:List AV) (okf_f_2:okFn Tryz.prog kf_f_2 = true) (hcf_f_2:∀ h p,closeWs h p cf_f_2 = some cf_f_2) (hrf_f_2:∀ f,rens f cf_f_2 = cf_f_2) (hpf_f_2:∀ a0 r,f_2 a0 = some r → CallOK Tryz.prog kf_f_2 .flat ([(encGAtom a0)] ++ cf_f_2) (.bool r)):CallOK Tryz.prog 228 .flat [(.lst 3 (s_1.map encGAtom)),(.fn kf_f_2 cf_f_2)] (.bool r):=by
 refine CallOK.of_awp mixed Tryz.func228 fc228 nle ?_;rw [argT_eq];unfold slices_ContainsFunc_impl_Atom_impl_Atom at hf;unfold c228;refine (show awp Tryz.prog false 0 _ (ofL [(0,(.lst 3 (s_1.map encGAtom))),(1,(.fn kf_f_2 cf_f_2))]) [] _ from ?_);refine sr<|s_mov (.bool false) rfl<|dk<|sr<|?_
 obtain ⟨r_3,er4,hf⟩:=ob hf
 refine s_mov (.lst 3 (s_1.map encGAtom)) rfl<|s_mov (.fn kf_f_2 cf_f_2) rfl<|s_do (o_call (w_slices_IndexFunc_impl_Atom_impl_Atom _ _ _ er4 kf_f_2 cf_f_2 okf_f_2 hcf_f_2 hrf_f_2 hpf_f_2) (cls_cons rfl (cls_cons (cls_fn hcf_f_2) rfl)) (.refl _) rfl)<|s_q (.bool (decide (r_3 ≥ 0))) rfl rfl rfl<|s_mov (.bool (decide (r_3 ≥ 0))) rfl<|dk<|w_ret<|?_;obtain rfl:=os hf;exact r_flat ⟨trivial,trivial⟩ rfl (.refl _)

/- (impl.Column).fits$1 -/
def c229:ACode :=
 (.seq (.reg (tq 2 (.box 3 (.t 0)) (tm 3 (.c (.bool false)) .done)))
 (.seq (.reg (tq 4 (.faddr 1 (.t 2)) (tq 5 (.load 1 false (.t 4)) (tq 6 (.faddr 4 (.t 1)) (tq 7 (.load 1 false (.t 6)) (tq 8 (.faddr 5 (.t 1)) (tq 9 (.load 1 false (.t 8)) (tq 10 (.call 57 [(.t 5),(.t 7),(.t 9)]) (tq 11 (.not (.t 10)) (tm 3 (.t 11) .done))))))))))
 .ret))
theorem fc229:fcomp Tryz.prog Tryz.f229 = some (c229.erase,[.mov (.t 3)],12):=by kernel_rfl
def impl_Column_fits_1 (a_1:GAtom) (cap_2:GColumn):Option Bool :=
    (impl_within a_1.N cap_2.Low cap_2.High).bind fun r_3 =>
    some (!r_3)
theorem w_impl_Column_fits_1 (a_1:GAtom) (cap_2:GColumn) (r:Bool) (hf:impl_Column_fits_1 a_1 cap_2 = some r):CallOK Tryz.prog 229 .flat [(encGAtom a_1),(.iptr (encGColumn cap_2) 0)] (.bool r):=by
  refine CallOK.of_awp mixed Tryz.func229 fc229 nle ?_
  rw [argT_eq]
  unfold impl_Column_fits_1 at hf
  unfold c229
  refine (show awp Tryz.prog false 0 _ (ofL [(0,(encGAtom a_1)),(1,(.iptr (encGColumn cap_2) 0))]) [] _ from ?_)
  refine awp_seq ?_
  refine w_reg ?_
  refine s_do (o_box (j:=0) (c:=(.agg [(.int .i64 a_1.Kind),(.int .i64 a_1.N),(.str a_1.T)])) rfl trivial rfl rfl) ?_
  refine s_do (o_mov (.bool false) rfl) ?_
  refine w_done ?_
  refine k_seq ?_
  refine awp_seq ?_
  refine w_reg ?_
  obtain ⟨r_3,er4,hf⟩:=ob hf
  refine s_do (o_q (.ptr 0 0 1) rfl trivial rfl) ?_
  refine s_do (o_q (.int .i64 a_1.N) rfl nle rfl) ?_
  refine s_do (o_q (.iptr (encGColumn cap_2) 4) rfl trivial rfl) ?_
  refine s_do (o_q (.int .i64 cap_2.Low) rfl nle rfl) ?_
  refine s_do (o_q (.iptr (encGColumn cap_2) 5) rfl trivial rfl) ?_
  refine s_do (o_q (.int .i64 cap_2.High) rfl nle rfl) ?_
  refine s_do (o_call (w_impl_within _ _ _ _ er4) rfl (.refl _) rfl) ?_
  refine s_do (o_q (.bool (!r_3)) rfl trivial rfl) ?_
  refine s_do (o_mov (.bool (!r_3)) rfl) ?_
  refine w_done ?_
  refine k_seq ?_
  refine w_ret ?_
  obtain rfl:=os hf
  exact r_flat ⟨trivial,trivial⟩ rfl (.refl _)

/- (impl.Column).fits -/
def c175:ACode :=
 (.seq (.reg (tq 2 (.box 8 (.t 0)) (tm 4 (.c (.int .i64 0)) .done)))
 (.seq (.block 0 (.seq (.reg (tm 6 (.t 1) (tq 7 (.len (.t 6)) (tq 8 (.bin .gtr (.t 7) (.c (.int .i64 0))) (tm 9 (.t 8) (tg 10 9 true (.mov (.t 1)) (tg 11 9 true (.iaddr 3 (.t 10) (.c (.int .i64 0))) (tg 12 9 true (.faddr 0 (.t 11)) (tg 13 9 true (.load 1 false (.t 12)) (tg 14 9 true (.faddr 1 (.t 2)) (tg 15 9 true (.load 1 false (.t 14)) (tg 16 9 true (.bin .neq (.t 13) (.t 15)) (tq 17 (.pick (.t 9) (.t 16) (.c (.bool false))) (tm 5 (.t 17) .done))))))))))))))
 (.cut (.cond (.t 5) (.seq (.reg (tm 4 (.c (.int .i64 9)) .done))
 .ret)
 (.seq (.reg (tm 19 (.t 1) (tq 20 (.len (.t 19)) (tq 21 (.faddr 2 (.t 2)) (tq 22 (.load 1 false (.t 21)) (tq 23 (.faddr 3 (.t 2)) (tq 24 (.load 1 false (.t 23)) (tq 25 (.call 57 [(.t 20),(.t 22),(.t 24)]) (tq 26 (.not (.t 25)) (tm 18 (.t 26) .done))))))))))
 (.cond (.t 18) (.seq (.reg (tm 4 (.c (.int .i64 6)) .done))
 .ret)
 (.seq (.reg (tq 28 (.faddr 1 (.t 2)) (tq 29 (.load 1 false (.t 28)) (tq 30 (.bin .eql (.t 29) (.c (.int .i64 1))) (tm 31 (.t 30) (tg 32 31 true (.mov (.t 1)) (tg 33 31 true (.mkfn 229 [(.t 2)]) (tg 34 31 true (.call 228 [(.t 32),(.t 33)]) (tq 35 (.pick (.t 31) (.t 34) (.c (.bool false))) (tm 27 (.t 35) .done))))))))))
 (.cut (.cond (.t 27) (.seq (.reg (tm 4 (.c (.int .i64 4)) .done))
 .ret)
 .skip)))))))))
 (.seq (.reg (tm 4 (.c (.int .i64 0)) .done))
 .ret)))
theorem fc175:fcomp Tryz.prog Tryz.f175 = some (c175.erase,[.mov (.t 4)],36):=by kernel_rfl
def impl_Column_fits (c_1:GColumn) (d_2:(List GAtom)):Option Int :=
    ((if (decide ((d_2.length:Int) > 0)) then
    (idx d_2 0).bind fun x_11 =>
    some (x_11.Kind != c_1.Kind)
    else
    some false:Option Bool)).bind fun s5_7 =>
    if s5_7 then
    some 9
    else
    (impl_within (d_2.length:Int) c_1.Min c_1.Max).bind fun r_15 =>
    if (!r_15) then
    some 6
    else
    ((if (c_1.Kind == 1) then
    (slices_ContainsFunc_impl_Atom_impl_Atom d_2 (fun a0 => impl_Column_fits_1 a0 c_1)).bind fun r_24 =>
    some r_24
    else
    some false:Option Bool)).bind fun s27_21 =>
    if s27_21 then
    some 4
    else
    some 0
theorem w_impl_Column_fits (c_1:GColumn) (d_2:(List GAtom)) (r:Int) (hf:impl_Column_fits c_1 d_2 = some r):CallOK Tryz.prog 175 .flat [(encGColumn c_1),(.lst 3 (d_2.map encGAtom))] (.int .i64 r):=by
 refine CallOK.of_awp mixed Tryz.func175 fc175 nle ?_;rw [argT_eq];unfold impl_Column_fits at hf;unfold c175;refine (show awp Tryz.prog false 0 _ (ofL [(0,(encGColumn c_1)),(1,(.lst 3 (d_2.map encGAtom)))]) [] _ from ?_);refine sr<|s_do (o_box (j:=0) (c:=(.agg [(.str c_1.Name),(.int .i64 c_1.Kind),(.int .i64 c_1.Min),(.int .i64 c_1.Max),(.int .i64 c_1.Low),(.int .i64 c_1.High),(.str c_1.Ref),(.bool c_1.Strong)])) rfl trivial rfl rfl)<|s_mov (.int .i64 0) rfl<|dk<|awp_seq<|w_blk<|awp_seq<|?_
 obtain ⟨s5_7,hb1,hf⟩:=ob hf
 refine awp_cut ([(1,(.lst 3 (d_2.map encGAtom))),(2,(.ptr 0 0 0)),(5,(.bool s5_7))],[.box 8 (.agg [(.str c_1.Name),(.int .i64 c_1.Kind),(.int .i64 c_1.Min),(.int .i64 c_1.Max),(.int .i64 c_1.Low),(.int .i64 c_1.High),(.str c_1.Ref),(.bool c_1.Strong)])]) ?_ ?_
 ·refine w_reg<|s_mov (.lst 3 (d_2.map encGAtom)) rfl<|s_dof (o_len (enc:=encGAtom) rfl) fun hl9 => s_q (.bool (decide ((d_2.length:Int) > 0))) rfl rfl rfl<|s_mov (.bool (decide ((d_2.length:Int) > 0))) rfl<|?_
  rcases oi hb1 with ⟨c10,hb1⟩ | ⟨c10,hb1⟩
  ·refine s_lit (s:=9) (b:=true) rfl c10<|s_on rfl<|s_mov (.lst 3 (d_2.map encGAtom)) rfl<|s_on rfl<|?_
   obtain ⟨x_11,ex12,hb1⟩:=ob hb1
   refine s_do (o_iaddr (enc:=encGAtom) rfl rfl (idx0 ex12) (idx1 ex12))<|s_on rfl<|s_q (.iptr (encGAtom x_11) 0) rfl trivial rfl<|s_on rfl<|s_q (.int .i64 x_11.Kind) rfl nle rfl<|s_on rfl<|s_q (.ptr 0 0 1) rfl trivial rfl<|s_on rfl<|s_q (.int .i64 c_1.Kind) rfl nle rfl<|s_on rfl<|s_q (.bool (x_11.Kind != c_1.Kind)) rfl rfl rfl<|s_q (.bool (x_11.Kind != c_1.Kind)) rfl trivial rfl<|s_mov (.bool (x_11.Kind != c_1.Kind)) rfl<|w_done<|?_;obtain rfl:=os hb1;exact ⟨[],[0],_,_,rfl,rfl,⟨.refl _,⟨.refl _,⟨.refl _,trivial⟩⟩⟩,(.refl _)⟩
  ·refine s_lit (s:=9) (b:=false) rfl (bf c10)<|s_off rfl rfl<|s_off rfl rfl<|s_off rfl rfl<|s_off rfl rfl<|s_off rfl rfl<|s_off rfl rfl<|s_off rfl rfl<|s_q (.bool false) rfl trivial rfl<|s_mov (.bool false) rfl<|w_done<|?_;obtain rfl:=os hb1;exact ⟨[],[0],_,_,rfl,rfl,⟨.refl _,⟨.refl _,⟨.refl _,trivial⟩⟩⟩,(.refl _)⟩
 ·rcases oi hf with ⟨c13,hf⟩ | ⟨c13,hf⟩
  ·refine w_condt rfl c13<|sr<|s_mov (.int .i64 9) rfl<|dk<|w_ret<|?_;obtain rfl:=os hf;exact r_flat ⟨trivial,trivial⟩ rfl (.refl _)
  ·refine w_condf rfl (bf c13)<|sr<|?_
   obtain ⟨r_15,er16,hf⟩:=ob hf
   refine s_mov (.lst 3 (d_2.map encGAtom)) rfl<|s_dof (o_len (enc:=encGAtom) rfl) fun hl14 => s_q (.ptr 0 0 2) rfl trivial rfl<|s_q (.int .i64 c_1.Min) rfl nle rfl<|s_q (.ptr 0 0 3) rfl trivial rfl<|s_q (.int .i64 c_1.Max) rfl nle rfl<|s_do (o_call (w_impl_within _ _ _ _ er16) rfl (.refl _) rfl)<|s_q (.bool (!r_15)) rfl trivial rfl<|s_mov (.bool (!r_15)) rfl<|dk<|?_
   rcases oi hf with ⟨c17,hf⟩ | ⟨c17,hf⟩
   ·refine w_condt rfl c17<|sr<|s_mov (.int .i64 6) rfl<|dk<|w_ret<|?_;obtain rfl:=os hf;exact r_flat ⟨trivial,trivial⟩ rfl (.refl _)
   ·refine w_condf rfl (bf c17)<|awp_seq<|?_
    obtain ⟨s27_21,hb1,hf⟩:=ob hf
    refine awp_cut ([(27,(.bool s27_21))],[]) ?_ ?_
    ·refine w_reg ?_
     rcases oi hb1 with ⟨c23,hb1⟩ | ⟨c23,hb1⟩
     ·obtain ⟨r_24,er25,hb1⟩:=ob hb1
      refine s_q (.ptr 0 0 1) rfl trivial rfl<|s_q (.int .i64 c_1.Kind) rfl nle rfl<|s_q (.bool (c_1.Kind == 1)) rfl rfl rfl<|s_mov (.bool (c_1.Kind == 1)) rfl<|s_lit (s:=31) (b:=true) rfl c23<|s_on rfl<|s_mov (.lst 3 (d_2.map encGAtom)) rfl<|s_on rfl<|s_q (.fn 229 [(.ptr 0 0 0)]) rfl trivial rfl<|s_on rfl<|?_;refine s_do (o_call (w_slices_ContainsFunc_impl_Atom_impl_Atom _ _ _ er25 229 [(.iptr (encGColumn c_1) 0)] (by kernel_rfl) (fun _ _ => rfl) (fun _ => rfl) (fun a0 r h => w_impl_Column_fits_1 a0 c_1 r h)) rfl (.refl _) rfl) ?_;refine s_q (.bool r_24) rfl trivial rfl<|s_mov (.bool r_24) rfl<|w_done<|?_;obtain rfl:=os hb1;exact ⟨[],[],_,_,rfl,rfl,⟨.refl _,trivial⟩,(.refl _)⟩
     ·refine s_q (.ptr 0 0 1) rfl trivial rfl<|s_q (.int .i64 c_1.Kind) rfl nle rfl<|s_q (.bool (c_1.Kind == 1)) rfl rfl rfl<|s_mov (.bool (c_1.Kind == 1)) rfl<|s_lit (s:=31) (b:=false) rfl (bf c23)<|s_off rfl rfl<|s_off rfl rfl<|s_off rfl rfl<|s_q (.bool false) rfl trivial rfl<|s_mov (.bool false) rfl<|w_done<|?_;obtain rfl:=os hb1;exact ⟨[],[],_,_,rfl,rfl,⟨.refl _,trivial⟩,(.refl _)⟩
    ·rcases oi hf with ⟨c26,hf⟩ | ⟨c26,hf⟩
     ·refine w_condt rfl c26<|sr<|s_mov (.int .i64 4) rfl<|dk<|w_ret<|?_;obtain rfl:=os hf;exact r_flat ⟨trivial,trivial⟩ rfl (.refl _)
     ·refine w_condf rfl (bf c26)<|w_skip<|k_blk<|k_seq<|sr<|s_mov (.int .i64 0) rfl<|dk<|w_ret<|?_;obtain rfl:=os hf;exact r_flat ⟨trivial,trivial⟩ rfl (.refl _)

/- impl.cellsOK -/
def c171:ACode :=
 (.seq (.reg (tq 2 (.box 4 (.t 0)) (tq 3 (.box 2 (.t 1)) (tm 4 (.c (.bool false)) .done))))
 (.seq (.seq (.reg (tq 7 (.faddr 1 (.t 3)) (tq 8 (.load 1 false (.t 7)) (tq 9 (.len (.t 8)) (tq 10 (.faddr 1 (.t 2)) (tq 11 (.load 1 false (.t 10)) (tq 12 (.len (.t 11)) (tq 13 (.bin .neq (.t 9) (.t 12)) .done))))))))
 (.cond (.t 13) (.seq (.reg (tm 4 (.c (.bool false)) .done))
 .ret)
 .skip))
 (.seq (.seq (.reg (tq 14 (.faddr 1 (.t 3)) (tq 15 (.load 1 false (.t 14)) (tq 16 (.len (.t 15)) (tm 17 (.c (.int .i64 0)) .done)))))
 (.block 0 (.loop (.seq (.reg (tq 18 (.bin .lss (.t 17) (.t 16)) .done))
 (.seq (.cond (.t 18) .skip
 (.exit 0))
 (.seq (.block 1 (.seq (.reg (tm 19 (.t 17) (tq 20 (.iaddr 1 (.t 15) (.t 17)) (tq 21 (.load 1 false (.t 20)) (tm 5 (.t 19) (tm 6 (.t 21) .done))))))
 (.seq (.reg (tm 22 (.t 6) (tq 23 (.call 149 [(.t 22)]) (tq 24 (.not (.t 23)) (tm 25 (.t 24) (tg 26 25 false (.faddr 1 (.t 2)) (tg 27 25 false (.load 1 false (.t 26)) (tg 28 25 false (.mov (.t 5)) (tg 29 25 false (.iaddr 8 (.t 27) (.t 28)) (tg 30 25 false (.load 8 true (.t 29)) (tg 31 25 false (.mov (.t 6)) (tg 32 25 false (.call 175 [(.t 30),(.t 31)]) (tg 33 25 false (.bin .neq (.t 32) (.c (.int .i64 0))) (tq 34 (.pick (.t 25) (.c (.bool true)) (.t 33)) .done))))))))))))))
 (.cut (.cond (.t 34) (.seq (.reg (tm 4 (.c (.bool false)) .done))
 .ret)
 .skip)))))
 (.reg (tq 35 (.bin .add (.t 17) (.c (.int .i64 1))) (tm 17 (.t 35) .done)))))))))
 (.cut (.seq (.reg (tm 4 (.c (.bool true)) .done))
 .ret)))))
theorem fc171:fcomp Tryz.prog Tryz.f171 = some (c171.erase,[.mov (.t 4)],36):=by kernel_rfl
def impl_cellsOK_L1 (t_1:GTable):List (List GAtom) → Nat → Option (Fl Bool Unit)
  | [],s17_48 =>
    some (.go ())
  | x_76 :: xs,s17_48 =>
    (((impl_DatumOK x_76).bind fun r_86 =>
    if (!r_86) then
    some true
    else
    (idx t_1.Columns (s17_48:Int)).bind fun x_89 =>
    (impl_Column_fits x_89 x_76).bind fun r_91 =>
    some (r_91 != 0):Option Bool)).bind fun s34_84 =>
    if s34_84 then
    some (.ret false)
    else
    impl_cellsOK_L1 t_1 xs (s17_48 + 1)

def impl_cellsOK (t_1:GTable) (r_2:GRow):Option Bool :=
    if ((r_2.Cells.length:Int) != (t_1.Columns.length:Int)) then
    some false
    else
    (impl_cellsOK_L1 t_1 r_2.Cells 0).bind fun q => (match q with
    | .ret r => some r
    | .go _ =>
    some true)
theorem w_impl_cellsOK (t_1:GTable) (r_2:GRow) (r:Bool) (hf:impl_cellsOK t_1 r_2 = some r):CallOK Tryz.prog 171 .flat [(encGTable t_1),(encGRow r_2)] (.bool r):=by
 refine CallOK.of_awp mixed Tryz.func171 fc171 nle ?_;rw [argT_eq];unfold impl_cellsOK at hf;unfold c171;refine (show awp Tryz.prog false 0 _ (ofL [(0,(encGTable t_1)),(1,(encGRow r_2))]) [] _ from ?_);refine sr<|s_do (o_box (j:=0) (c:=(.agg [(.str t_1.Name),(.lst 8 (t_1.Columns.map encGColumn)),(.lst 1 (t_1.Unique.map encI)),(.bool t_1.Root)])) rfl trivial rfl rfl)<|s_do (o_box (j:=1) (c:=(.agg [(.int .i64 r_2.Id),(.lst 1 (r_2.Cells.map (encL 3 encGAtom)))])) rfl trivial rfl rfl)<|s_mov (.bool false) rfl<|dk<|awp_seq<|sr<|s_q (.ptr 1 0 1) rfl trivial rfl<|s_q (.lst 1 (r_2.Cells.map (encL 3 encGAtom))) rfl nle rfl<|s_dof (o_len (enc:=(encL 3 encGAtom)) rfl) fun hl3 => ?_
 refine s_q (.ptr 0 0 1) rfl trivial rfl<|s_q (.lst 8 (t_1.Columns.map encGColumn)) rfl nle rfl<|s_dof (o_len (enc:=encGColumn) rfl) fun hl4 => s_q (.bool ((r_2.Cells.length:Int) != (t_1.Columns.length:Int))) rfl rfl rfl<|dk<|?_
 rcases oi hf with ⟨c5,hf⟩ | ⟨c5,hf⟩
 ·refine w_condt rfl c5<|sr<|s_mov (.bool false) rfl<|dk<|w_ret<|?_;obtain rfl:=os hf;exact r_flat ⟨trivial,trivial⟩ rfl (.refl _)
 ·refine w_condf rfl (bf c5)<|w_skip<|k_seq<|awp_seq<|sr<|s_q (.ptr 1 0 1) rfl trivial rfl<|s_q (.lst 1 (r_2.Cells.map (encL 3 encGAtom))) rfl nle rfl<|s_dof (o_len (enc:=(encL 3 encGAtom)) rfl) fun hl6 => s_mov (.int .i64 0) rfl<|dk<|?_
  obtain ⟨p69,hb1,hf⟩:=ob hf
  refine awp_cutx (X:={q:Unit // p69 = .go q}) (fun q => ([],[])) ?_ ?_
  ·refine awp_loop (X:={q:Nat // impl_cellsOK_L1 t_1 (r_2.Cells.drop q) q = some p69}) (fun q => ([(2,(.ptr 0 0 0)),(15,(.lst 1 (r_2.Cells.map (encL 3 encGAtom)))),(16,(.int .i64 (r_2.Cells.length:Int))),(17,(.int .i64 (q.1:Int)))],[.box 4 (.agg [(.str t_1.Name),(.lst 8 (t_1.Columns.map encGColumn)),(.lst 1 (t_1.Unique.map encI)),(.bool t_1.Root)])])) (fun q => r_2.Cells.length - q.1) ⟨0,hb1⟩ ⟨[],[0],_,_,rfl,rfl,⟨.refl _,⟨.refl _,⟨.refl _,⟨.refl _,trivial⟩⟩⟩⟩,(.refl _)⟩ ?_
   rintro ⟨s17_48,hc1⟩
   have hc1:impl_cellsOK_L1 t_1 (r_2.Cells.drop s17_48) s17_48 = some p69:=hc1
   refine (show awp Tryz.prog false 0 _ (ofL [(2,(.ptr 0 0 0)),(15,(.lst 1 (r_2.Cells.map (encL 3 encGAtom)))),(16,(.int .i64 (r_2.Cells.length:Int))),(17,(.int .i64 (s17_48:Int)))]) [.box 4 (.agg [(.str t_1.Name),(.lst 8 (t_1.Columns.map encGColumn)),(.lst 1 (t_1.Unique.map encI)),(.bool t_1.Root)])] _ from ?_)
   rcases dropc r_2.Cells s17_48 with ⟨hie72,hd75⟩ | ⟨hlt70,x_76,hx71,hd75⟩
   ·rw [hd75,impl_cellsOK_L1.eq_1] at hc1
    have hq74:=dlf hie72
    refine sr<|s_q (.bool (decide ((s17_48:Int) < (r_2.Cells.length:Int)))) rfl rfl rfl<|dk<|awp_seq<|w_condf rfl hq74<|w_exit<|k_seqx<|k_loopx<|k_blkx<|?_;obtain rfl:=os hc1;exact k_cutn ⟨_,rfl⟩ ⟨[],[],_,_,rfl,rfl,trivial,(.refl _)⟩
   ·rw [hd75,impl_cellsOK_L1.eq_2] at hc1
    have hq74:=dlt hlt70
    refine sr<|s_q (.bool (decide ((s17_48:Int) < (r_2.Cells.length:Int)))) rfl rfl rfl<|dk<|awp_seq<|w_condt rfl hq74<|w_skip<|k_seq<|awp_seq<|w_blk<|sr<|s_mov (.int .i64 (s17_48:Int)) rfl<|s_do (o_iaddrn (enc:=(encL 3 encGAtom)) rfl rfl hx71)<|s_q (.lst 3 (x_76.map encGAtom)) rfl ⟨rfl,rfl⟩ rfl<|s_mov (.int .i64 (s17_48:Int)) rfl<|s_mov (.lst 3 (x_76.map encGAtom)) rfl<|dk<|awp_seq<|?_
    obtain ⟨s34_84,hb2,hc1⟩:=ob hc1
    refine awp_cut ([(2,(.ptr 0 0 0)),(15,(.lst 1 (r_2.Cells.map (encL 3 encGAtom)))),(16,(.int .i64 (r_2.Cells.length:Int))),(17,(.int .i64 (s17_48:Int))),(34,(.bool s34_84))],[.box 4 (.agg [(.str t_1.Name),(.lst 8 (t_1.Columns.map encGColumn)),(.lst 1 (t_1.Unique.map encI)),(.bool t_1.Root)])]) ?_ ?_
    ·refine w_reg<|s_mov (.lst 3 (x_76.map encGAtom)) rfl<|?_
     obtain ⟨r_86,er87,hb2⟩:=ob hb2
     refine s_do (o_call (w_impl_DatumOK _ _ er87) rfl (.refl _) rfl)<|s_q (.bool (!r_86)) rfl trivial rfl<|s_mov (.bool (!r_86)) rfl<|?_
     rcases oi hb2 with ⟨c88,hb2⟩ | ⟨c88,hb2⟩
     ·refine s_lit (s:=25) (b:=true) rfl c88<|s_off rfl rfl<|s_off rfl rfl<|s_off rfl rfl<|s_off rfl rfl<|s_off rfl rfl<|s_off rfl rfl<|s_off rfl rfl<|s_off rfl rfl<|s_q (.bool true) rfl trivial rfl<|w_done<|?_;obtain rfl:=os hb2;exact ⟨[],[0],_,_,rfl,rfl,⟨.refl _,⟨.refl _,⟨.refl _,⟨.refl _,⟨.refl _,trivial⟩⟩⟩⟩⟩,(.refl _)⟩
     ·refine s_lit (s:=25) (b:=false) rfl (bf c88)<|s_on rfl<|s_q (.ptr 0 0 1) rfl trivial rfl<|s_on rfl<|s_q (.lst 8 (t_1.Columns.map encGColumn)) rfl nle rfl<|s_on rfl<|s_mov (.int .i64 (s17_48:Int)) rfl<|s_on rfl<|?_
      obtain ⟨x_89,ex90,hb2⟩:=ob hb2
      refine s_do (o_iaddr (enc:=encGColumn) rfl rfl (idx0 ex90) (idx1 ex90))<|s_on rfl<|s_q (encGColumn x_89) rfl nle rfl<|s_on rfl<|s_mov (.lst 3 (x_76.map encGAtom)) rfl<|s_on rfl<|?_
      obtain ⟨r_91,er92,hb2⟩:=ob hb2
      refine s_do (o_call (w_impl_Column_fits _ _ _ er92) rfl (.refl _) rfl)<|s_on rfl<|s_q (.bool (r_91 != 0)) rfl rfl rfl<|s_q (.bool (r_91 != 0)) rfl trivial rfl<|w_done<|?_;obtain rfl:=os hb2;exact ⟨[],[0],_,_,rfl,rfl,⟨.refl _,⟨.refl _,⟨.refl _,⟨.refl _,⟨.refl _,trivial⟩⟩⟩⟩⟩,(.refl _)⟩
    ·rcases oi hc1 with ⟨c93,hc1⟩ | ⟨c93,hc1⟩
     ·refine w_condt rfl c93<|sr<|s_mov (.bool false) rfl<|dk<|w_ret<|?_;obtain rfl:=os hc1;obtain rfl:=os hf;exact r_flat ⟨trivial,trivial⟩ rfl (.refl _)
     ·refine w_condf rfl (bf c93)<|w_skip<|k_blk<|k_seq<|w_reg<|s_q (.int .i64 (w64 ((s17_48:Int) + 1))) rfl rfl rfl<|s_mov (.int .i64 (w64 ((s17_48:Int) + 1))) rfl<|w_done<|?_;exact k_loopn ⟨(s17_48 + 1),hc1⟩ (mul hlt70) ⟨[],[0],_,_,rfl,rfl,⟨.refl _,⟨.refl _,⟨.refl _,⟨.of_eq (congrArg (AV.int _) (w64_incr hlt70 hl6)),trivial⟩⟩⟩⟩,(.refl _)⟩
  ·rintro ⟨_,rfl⟩
   refine sr<|s_mov (.bool true) rfl<|dk<|w_ret<|?_;obtain rfl:=os hf;exact r_flat ⟨trivial,trivial⟩ rfl (.refl _)

/- impl.RowOK -/
def c93:ACode :=
 (.seq (.reg (tq 2 (.box 4 (.t 0)) (tq 3 (.box 2 (.t 1)) (tm 4 (.c (.bool false)) .done))))
 (.seq (.reg (tq 5 (.load 4 true (.t 2)) (tq 6 (.call 117 [(.t 5)]) (tm 7 (.t 6) (tg 8 7 true (.faddr 0 (.t 3)) (tg 9 7 true (.load 1 false (.t 8)) (tg 10 7 true (.call 71 [(.t 9)]) (tq 11 (.pick (.t 7) (.t 10) (.c (.bool false))) (tm 12 (.t 11) (tg 13 12 true (.load 4 true (.t 2)) (tg 14 12 true (.load 2 true (.t 3)) (tg 15 12 true (.call 171 [(.t 13),(.t 14)]) (tq 16 (.pick (.t 12) (.t 15) (.c (.bool false))) (tm 4 (.t 16) .done))))))))))))))
 .ret))
theorem fc93:fcomp Tryz.prog Tryz.f93 = some (c93.erase,[.mov (.t 4)],17):=by kernel_rfl
def impl_RowOK (t_1:GTable) (r_2:GRow):Option Bool :=
    (impl_isTable t_1).bind fun r_3 =>
    if r_3 then
    (impl_isId r_2.Id).bind fun r_6 =>
    if r_6 then
    (impl_cellsOK t_1 r_2).bind fun r_9 =>
    some r_9
    else
    some false
    else
    some false
theorem w_impl_RowOK (t_1:GTable) (r_2:GRow) (r:Bool) (hf:impl_RowOK t_1 r_2 = some r):CallOK Tryz.prog 93 .flat [(encGTable t_1),(encGRow r_2)] (.bool r):=by
 refine CallOK.of_awp mixed Tryz.func93 fc93 nle ?_;rw [argT_eq];unfold impl_RowOK at hf;unfold c93;refine (show awp Tryz.prog false 0 _ (ofL [(0,(encGTable t_1)),(1,(encGRow r_2))]) [] _ from ?_);refine sr<|s_do (o_box (j:=0) (c:=(.agg [(.str t_1.Name),(.lst 8 (t_1.Columns.map encGColumn)),(.lst 1 (t_1.Unique.map encI)),(.bool t_1.Root)])) rfl trivial rfl rfl)<|s_do (o_box (j:=1) (c:=(.agg [(.int .i64 r_2.Id),(.lst 1 (r_2.Cells.map (encL 3 encGAtom)))])) rfl trivial rfl rfl)<|s_mov (.bool false) rfl<|dk<|sr<|s_q (.agg [(.str t_1.Name),(.lst 8 (t_1.Columns.map encGColumn)),(.lst 1 (t_1.Unique.map encI)),(.bool t_1.Root)]) rfl nle rfl<|?_
 obtain ⟨r_3,er4,hf⟩:=ob hf
 refine s_do (o_call (w_impl_isTable _ _ er4) rfl (.refl _) rfl)<|s_mov (.bool r_3) rfl<|?_
 rcases oi hf with ⟨c5,hf⟩ | ⟨c5,hf⟩
 ·refine s_lit (s:=7) (b:=true) rfl c5<|s_on rfl<|s_q (.ptr 1 0 0) rfl trivial rfl<|s_on rfl<|s_q (.int .i64 r_2.Id) rfl nle rfl<|s_on rfl<|?_
  obtain ⟨r_6,er7,hf⟩:=ob hf
  refine s_do (o_call (w_impl_isId _ _ er7) rfl (.refl _) rfl)<|s_q (.bool r_6) rfl trivial rfl<|s_mov (.bool r_6) rfl<|?_
  rcases oi hf with ⟨c8,hf⟩ | ⟨c8,hf⟩
  ·refine s_lit (s:=12) (b:=true) rfl c8<|s_on rfl<|s_q (.agg [(.str t_1.Name),(.lst 8 (t_1.Columns.map encGColumn)),(.lst 1 (t_1.Unique.map encI)),(.bool t_1.Root)]) rfl nle rfl<|s_on rfl<|s_q (.agg [(.int .i64 r_2.Id),(.lst 1 (r_2.Cells.map (encL 3 encGAtom)))]) rfl nle rfl<|s_on rfl<|?_
   obtain ⟨r_9,er10,hf⟩:=ob hf
   refine s_do (o_call (w_impl_cellsOK _ _ _ er10) rfl (.refl _) rfl)<|s_q (.bool r_9) rfl trivial rfl<|s_mov (.bool r_9) rfl<|dk<|w_ret<|?_;obtain rfl:=os hf;exact r_flat ⟨trivial,trivial⟩ rfl (.refl _)
  ·refine s_lit (s:=12) (b:=false) rfl (bf c8)<|s_off rfl rfl<|s_off rfl rfl<|s_off rfl rfl<|s_q (.bool false) rfl trivial rfl<|s_mov (.bool false) rfl<|dk<|w_ret<|?_;obtain rfl:=os hf;exact r_flat ⟨trivial,trivial⟩ rfl (.refl _)
 ·refine s_lit (s:=7) (b:=false) rfl (bf c5)<|s_off rfl rfl<|s_off rfl rfl<|s_off rfl rfl<|s_q (.bool false) rfl trivial rfl<|s_mov (.bool false) rfl<|s_off rfl rfl<|s_off rfl rfl<|s_off rfl rfl<|s_q (.bool false) rfl trivial rfl<|s_mov (.bool false) rfl<|dk<|w_ret<|?_;obtain rfl:=os hf;exact r_flat ⟨trivial,trivial⟩ rfl (.refl _)

/- impl.setsCode$1 -/
def c173:ACode :=
 (.seq (.reg (tq 2 (.box 3 (.t 0)) (tm 3 (.c (.bool false)) .done)))
 (.seq (.reg (tq 4 (.faddr 0 (.t 2)) (tq 5 (.load 1 false (.t 4)) (tq 6 (.faddr 0 (.t 1)) (tq 7 (.load 1 false (.t 6)) (tq 8 (.bin .eql (.t 5) (.t 7)) (tm 3 (.t 8) .done)))))))
 .ret))
theorem fc173:fcomp Tryz.prog Tryz.f173 = some (c173.erase,[.mov (.t 3)],9):=by kernel_rfl
def impl_setsCode_1 (own_1:GSet) (cap_2:GSet):Option Bool :=
    some (own_1.Column == cap_2.Column)
theorem w_impl_setsCode_1 (own_1:GSet) (cap_2:GSet) (r:Bool) (hf:impl_setsCode_1 own_1 cap_2 = some r):CallOK Tryz.prog 173 .flat [(encGSet own_1),(.iptr (encGSet cap_2) 0)] (.bool r):=by
  refine CallOK.of_awp mixed Tryz.func173 fc173 nle ?_
  rw [argT_eq]
  unfold impl_setsCode_1 at hf
  unfold c173
  refine (show awp Tryz.prog false 0 _ (ofL [(0,(encGSet own_1)),(1,(.iptr (encGSet cap_2) 0))]) [] _ from ?_)
  refine awp_seq ?_
  refine w_reg ?_
  refine s_do (o_box (j:=0) (c:=(.agg [(.str own_1.Column),(.lst 3 (own_1.Value.map encGAtom)),(.lst 1 (own_1.Names.map AV.str))])) rfl trivial rfl rfl) ?_
  refine s_do (o_mov (.bool false) rfl) ?_
  refine w_done ?_
  refine k_seq ?_
  refine awp_seq ?_
  refine w_reg ?_
  refine s_do (o_q (.ptr 0 0 0) rfl trivial rfl) ?_
  refine s_do (o_q (.str own_1.Column) rfl nle rfl) ?_
  refine s_do (o_q (.iptr (encGSet cap_2) 0) rfl trivial rfl) ?_
  refine s_do (o_q (.str cap_2.Column) rfl nle rfl) ?_
  refine s_do (o_q (.bool (own_1.Column == cap_2.Column)) rfl trivial rfl) ?_
  refine s_do (o_mov (.bool (own_1.Column == cap_2.Column)) rfl) ?_
  refine w_done ?_
  refine k_seq ?_
  refine w_ret ?_
  obtain rfl:=os hf
  exact r_flat ⟨trivial,trivial⟩ rfl (.refl _)

/- impl.setsCode -/
def c94:ACode :=
 (.seq (.reg (tq 2 (.box 4 (.t 0)) (tm 4 (.c (.int .i64 0)) .done)))
 (.seq (.seq (.reg (tm 8 (.t 1) (tq 9 (.len (.t 8)) (tm 10 (.c (.int .i64 0)) .done))))
 (.block 0 (.loop (.seq (.reg (tq 11 (.bin .lss (.t 10) (.t 9)) .done))
 (.seq (.cond (.t 11) .skip
 (.exit 0))
 (.seq (.block 1 (.seq (.reg (tm 12 (.t 10) (tq 13 (.iaddr 3 (.t 8) (.t 10)) (tq 14 (.load 3 true (.t 13)) (tq 6 (.box 3 (.c (.agg [(.str []),.nil,.nil]))) (tm 5 (.t 12) (.q ⟨none,none,.store 3 (.t 6) (.t 14)⟩
 .done)))))))
 (.seq (.reg (tq 15 (.load 4 true (.t 2)) (tq 16 (.faddr 0 (.t 6)) (tq 17 (.load 1 false (.t 16)) (tq 18 (.call 172 [(.t 15),(.t 17)]) (tm 7 (.t 18) .done))))))
 (.block 2 (.seq (.reg (tm 20 (.t 7) (tq 21 (.bin .lss (.t 20) (.c (.int .i64 0))) (tm 19 (.t 21) .done))))
 (.cond (.t 19) (.seq (.reg (tm 4 (.c (.int .i64 11)) .done))
 .ret)
 (.seq (.reg (tm 23 (.t 1) (tm 24 (.t 5) (tq 25 (.slice 3 (.t 23) none (some (.t 24))) (tq 26 (.mkfn 173 [(.t 6)]) (tq 27 (.call 90 [(.t 25),(.t 26)]) (tm 22 (.t 27) .done)))))))
 (.cond (.t 22) (.seq (.reg (tm 4 (.c (.int .i64 8)) .done))
 .ret)
 (.seq (.reg (tq 29 (.faddr 1 (.t 6)) (tq 30 (.load 1 false (.t 29)) (tq 31 (.len (.t 30)) (tq 32 (.bin .gtr (.t 31) (.c (.int .i64 0))) (tm 33 (.t 32) (tg 34 33 true (.faddr 1 (.t 6)) (tg 35 33 true (.load 1 false (.t 34)) (tg 36 33 true (.iaddr 3 (.t 35) (.c (.int .i64 0))) (tg 37 33 true (.faddr 0 (.t 36)) (tg 38 33 true (.load 1 false (.t 37)) (tg 39 33 true (.faddr 1 (.t 2)) (tg 40 33 true (.load 1 false (.t 39)) (tg 41 33 true (.mov (.t 7)) (tg 42 33 true (.iaddr 8 (.t 40) (.t 41)) (tg 43 33 true (.faddr 1 (.t 42)) (tg 44 33 true (.load 1 false (.t 43)) (tg 45 33 true (.bin .neq (.t 38) (.t 44)) (tq 46 (.pick (.t 33) (.t 45) (.c (.bool false))) (tm 47 (.t 46) (tg 48 47 false (.faddr 2 (.t 6)) (tg 49 47 false (.load 1 false (.t 48)) (tg 50 47 false (.len (.t 49)) (tg 51 47 false (.bin .gtr (.t 50) (.c (.int .i64 0))) (tg 52 47 false (.mov (.t 51)) (tg 53 52 true (.faddr 1 (.t 2)) (tg 54 52 true (.load 1 false (.t 53)) (tg 55 52 true (.mov (.t 7)) (tg 56 52 true (.iaddr 8 (.t 54) (.t 55)) (tg 57 52 true (.faddr 1 (.t 56)) (tg 58 52 true (.load 1 false (.t 57)) (tg 59 52 true (.bin .neq (.t 58) (.c (.int .i64 4))) (tg 60 47 false (.pick (.t 52) (.t 59) (.c (.bool false))) (tq 61 (.pick (.t 47) (.c (.bool true)) (.t 60)) (tm 28 (.t 61) .done)))))))))))))))))))))))))))))))))))
 (.cut (.cond (.t 28) (.seq (.reg (tm 4 (.c (.int .i64 9)) .done))
 .ret)
 .skip)))))))))))
 (.reg (tq 62 (.bin .add (.t 10) (.c (.int .i64 1))) (tm 10 (.t 62) .done)))))))))
 (.cut (.seq (.reg (tm 4 (.c (.int .i64 0)) .done))
 .ret))))
theorem fc94:fcomp Tryz.prog Tryz.f94 = some (c94.erase,[.mov (.t 4)],63):=by kernel_rfl
def impl_setsCode_L1 (t_1:GTable) (list_2:(List GSet)):List GSet → Nat → Option (Fl Int Unit)
  | [],s10_95 =>
    some (.go ())
  | x_148 :: xs,s10_95 =>
    (impl_Table_columnAt t_1 x_148.Column).bind fun r_149 =>
    if (decide (r_149 < 0)) then
    some (.ret 11)
    else
    if 0 ≤ (s10_95:Int) ∧ (s10_95:Int) ≤ (list_2.length:Int) then
    (slices_ContainsFunc_impl_Set_impl_Set (list_2.take s10_95) (fun a0 => impl_setsCode_1 a0 x_148)).bind fun r_153 =>
    if r_153 then
    some (.ret 8)
    else
    ((if (decide ((x_148.Value.length:Int) > 0)) then
    (idx x_148.Value 0).bind fun x_176 =>
    (idx t_1.Columns r_149).bind fun x_178 =>
    if (x_176.Kind != x_178.Kind) then
    some true
    else
    if (decide ((x_148.Names.length:Int) > 0)) then
    (idx t_1.Columns r_149).bind fun x_184 =>
    some (x_184.Kind != 4)
    else
    some false
    else
    if (decide ((x_148.Names.length:Int) > 0)) then
    (idx t_1.Columns r_149).bind fun x_188 =>
    some (x_188.Kind != 4)
    else
    some false:Option Bool)).bind fun s28_172 =>
    if s28_172 then
    some (.ret 9)
    else
    impl_setsCode_L1 t_1 list_2 xs (s10_95 + 1)
    else none

def impl_setsCode (t_1:GTable) (list_2:(List GSet)):Option Int :=
    (impl_setsCode_L1 t_1 list_2 list_2 0).bind fun q => (match q with
    | .ret r => some r
    | .go _ =>
    some 0)
theorem w_impl_setsCode (t_1:GTable) (list_2:(List GSet)) (r:Int) (hf:impl_setsCode t_1 list_2 = some r):CallOK Tryz.prog 94 .flat [(encGTable t_1),(.lst 3 (list_2.map encGSet))] (.int .i64 r):=by
 refine CallOK.of_awp mixed Tryz.func94 fc94 nle ?_;rw [argT_eq];unfold impl_setsCode at hf;unfold c94;refine (show awp Tryz.prog false 0 _ (ofL [(0,(encGTable t_1)),(1,(.lst 3 (list_2.map encGSet)))]) [] _ from ?_);refine sr<|s_do (o_box (j:=0) (c:=(.agg [(.str t_1.Name),(.lst 8 (t_1.Columns.map encGColumn)),(.lst 1 (t_1.Unique.map encI)),(.bool t_1.Root)])) rfl trivial rfl rfl)<|s_mov (.int .i64 0) rfl<|dk<|awp_seq<|sr<|s_mov (.lst 3 (list_2.map encGSet)) rfl<|s_dof (o_len (enc:=encGSet) rfl) fun hl3 => s_mov (.int .i64 0) rfl<|dk<|?_
 obtain ⟨p141,hb1,hf⟩:=ob hf
 refine awp_cutx (X:={q:Unit // p141 = .go q}) (fun q => ([],[])) ?_ ?_
 ·refine awp_loop (X:={q:Nat // impl_setsCode_L1 t_1 list_2 (list_2.drop q) q = some p141}) (fun q => ([(1,(.lst 3 (list_2.map encGSet))),(2,(.ptr 0 0 0)),(8,(.lst 3 (list_2.map encGSet))),(9,(.int .i64 (list_2.length:Int))),(10,(.int .i64 (q.1:Int)))],[.box 4 (.agg [(.str t_1.Name),(.lst 8 (t_1.Columns.map encGColumn)),(.lst 1 (t_1.Unique.map encI)),(.bool t_1.Root)])])) (fun q => list_2.length - q.1) ⟨0,hb1⟩ ⟨[],[0],_,_,rfl,rfl,⟨.refl _,⟨.refl _,⟨.refl _,⟨.refl _,⟨.refl _,trivial⟩⟩⟩⟩⟩,(.refl _)⟩ ?_
  rintro ⟨s10_95,hc1⟩
  have hc1:impl_setsCode_L1 t_1 list_2 (list_2.drop s10_95) s10_95 = some p141:=hc1
  refine (show awp Tryz.prog false 0 _ (ofL [(1,(.lst 3 (list_2.map encGSet))),(2,(.ptr 0 0 0)),(8,(.lst 3 (list_2.map encGSet))),(9,(.int .i64 (list_2.length:Int))),(10,(.int .i64 (s10_95:Int)))]) [.box 4 (.agg [(.str t_1.Name),(.lst 8 (t_1.Columns.map encGColumn)),(.lst 1 (t_1.Unique.map encI)),(.bool t_1.Root)])] _ from ?_)
  rcases dropc list_2 s10_95 with ⟨hie144,hd147⟩ | ⟨hlt142,x_148,hx143,hd147⟩
  ·rw [hd147,impl_setsCode_L1.eq_1] at hc1
   have hq146:=dlf hie144
   refine sr<|s_q (.bool (decide ((s10_95:Int) < (list_2.length:Int)))) rfl rfl rfl<|dk<|awp_seq<|w_condf rfl hq146<|w_exit<|k_seqx<|k_loopx<|k_blkx<|?_;obtain rfl:=os hc1;exact k_cutn ⟨_,rfl⟩ ⟨[],[],_,_,rfl,rfl,trivial,(.refl _)⟩
  ·rw [hd147,impl_setsCode_L1.eq_2] at hc1
   have hq146:=dlt hlt142
   refine sr<|s_q (.bool (decide ((s10_95:Int) < (list_2.length:Int)))) rfl rfl rfl<|dk<|awp_seq<|w_condt rfl hq146<|w_skip<|k_seq<|awp_seq<|w_blk<|sr<|s_mov (.int .i64 (s10_95:Int)) rfl<|s_do (o_iaddrn (enc:=encGSet) rfl rfl hx143)<|s_q (encGSet x_148) rfl nle rfl<|s_do (o_box (j:=1) (c:=(.agg [(.str []),.nil,.nil])) rfl trivial rfl rfl)<|s_mov (.int .i64 (s10_95:Int)) rfl<|s_do0 (o_storebox (v:=(.agg [(.str x_148.Column),(.lst 3 (x_148.Value.map encGAtom)),(.lst 1 (x_148.Names.map AV.str))])) (y':=(.agg [(.str x_148.Column),(.lst 3 (x_148.Value.map encGAtom)),(.lst 1 (x_148.Names.map AV.str))])) rfl rfl rfl trivial ⟨rfl,nle⟩ ⟨⟨rfl,trivial⟩,⟨⟨rfl,trivial⟩,⟨⟨rfl,trivial⟩,trivial⟩⟩⟩ rfl)<|?_
   refine dk<|sr<|?_
   obtain ⟨r_149,er150,hc1⟩:=ob hc1
   refine s_q (.agg [(.str t_1.Name),(.lst 8 (t_1.Columns.map encGColumn)),(.lst 1 (t_1.Unique.map encI)),(.bool t_1.Root)]) rfl nle rfl<|s_q (.ptr 1 0 0) rfl trivial rfl<|s_q (.str x_148.Column) rfl nle rfl<|s_do (o_call (w_impl_Table_columnAt _ _ _ er150) rfl (.refl _) rfl)<|s_mov (.int .i64 r_149) rfl<|dk<|w_blk<|sr<|s_mov (.int .i64 r_149) rfl<|s_q (.bool (decide (r_149 < 0))) rfl rfl rfl<|s_mov (.bool (decide (r_149 < 0))) rfl<|dk<|?_
   rcases oi hc1 with ⟨c151,hc1⟩ | ⟨c151,hc1⟩
   ·refine w_condt rfl c151<|sr<|s_mov (.int .i64 11) rfl<|dk<|w_ret<|?_;obtain rfl:=os hc1;obtain rfl:=os hf;exact r_flat ⟨trivial,trivial⟩ rfl (.refl _)
   ·refine w_condf rfl (bf c151)<|sr<|?_
    obtain ⟨g152,hc1⟩:=og hc1
    obtain ⟨r_153,er154,hc1⟩:=ob hc1
    refine s_mov (.lst 3 (list_2.map encGSet)) rfl<|s_mov (.int .i64 (s10_95:Int)) rfl<|s_do (o_slt (enc:=encGSet) rfl rfl g152.1 g152.2)<|s_q (.fn 173 [(.ptr 1 0 0)]) rfl trivial rfl<|?_;refine s_do (o_call (w_slices_ContainsFunc_impl_Set_impl_Set _ _ _ er154 173 [(.iptr (encGSet x_148) 0)] (by kernel_rfl) (fun _ _ => rfl) (fun _ => rfl) (fun a0 r h => w_impl_setsCode_1 a0 x_148 r h)) rfl (.refl _) rfl) ?_;refine s_mov (.bool r_153) rfl<|dk<|?_
    rcases oi hc1 with ⟨c155,hc1⟩ | ⟨c155,hc1⟩
    ·refine w_condt rfl c155<|sr<|s_mov (.int .i64 8) rfl<|dk<|w_ret<|?_;obtain rfl:=os hc1;obtain rfl:=os hf;exact r_flat ⟨trivial,trivial⟩ rfl (.refl _)
    ·refine w_condf rfl (bf c155)<|awp_seq<|?_
     obtain ⟨s28_172,hb2,hc1⟩:=ob hc1
     refine awp_cut ([(1,(.lst 3 (list_2.map encGSet))),(2,(.ptr 0 0 0)),(8,(.lst 3 (list_2.map encGSet))),(9,(.int .i64 (list_2.length:Int))),(10,(.int .i64 (s10_95:Int))),(28,(.bool s28_172))],[.box 4 (.agg [(.str t_1.Name),(.lst 8 (t_1.Columns.map encGColumn)),(.lst 1 (t_1.Unique.map encI)),(.bool t_1.Root)])]) ?_ ?_
     ·refine w_reg<|s_q (.ptr 1 0 1) rfl trivial rfl<|s_q (.lst 3 (x_148.Value.map encGAtom)) rfl nle rfl<|s_dof (o_len (enc:=encGAtom) rfl) fun hl174 => s_q (.bool (decide ((x_148.Value.length:Int) > 0))) rfl rfl rfl<|s_mov (.bool (decide ((x_148.Value.length:Int) > 0))) rfl<|?_
      rcases oi hb2 with ⟨c175,hb2⟩ | ⟨c175,hb2⟩
      ·refine s_lit (s:=33) (b:=true) rfl c175<|s_on rfl<|s_q (.ptr 1 0 1) rfl trivial rfl<|s_on rfl<|s_q (.lst 3 (x_148.Value.map encGAtom)) rfl nle rfl<|s_on rfl<|?_
       obtain ⟨x_176,ex177,hb2⟩:=ob hb2
       refine s_do (o_iaddr (enc:=encGAtom) rfl rfl (idx0 ex177) (idx1 ex177))<|s_on rfl<|s_q (.iptr (encGAtom x_176) 0) rfl trivial rfl<|s_on rfl<|s_q (.int .i64 x_176.Kind) rfl nle rfl<|s_on rfl<|s_q (.ptr 0 0 1) rfl trivial rfl<|s_on rfl<|s_q (.lst 8 (t_1.Columns.map encGColumn)) rfl nle rfl<|s_on rfl<|s_mov (.int .i64 r_149) rfl<|s_on rfl<|?_
       obtain ⟨x_178,ex179,hb2⟩:=ob hb2
       refine s_do (o_iaddr (enc:=encGColumn) rfl rfl (idx0 ex179) (idx1 ex179))<|s_on rfl<|s_q (.iptr (encGColumn x_178) 1) rfl trivial rfl<|s_on rfl<|s_q (.int .i64 x_178.Kind) rfl nle rfl<|s_on rfl<|s_q (.bool (x_176.Kind != x_178.Kind)) rfl rfl rfl<|s_q (.bool (x_176.Kind != x_178.Kind)) rfl trivial rfl<|s_mov (.bool (x_176.Kind != x_178.Kind)) rfl<|?_
       rcases oi hb2 with ⟨c181,hb2⟩ | ⟨c181,hb2⟩
       ·refine s_lit (s:=47) (b:=true) rfl c181<|s_off rfl rfl<|s_off rfl rfl<|s_off rfl rfl<|s_off rfl rfl<|s_off rfl rfl<|s_offs rfl<|s_offs rfl<|s_offs rfl<|s_offs rfl<|s_offs rfl<|s_offs rfl<|s_offs rfl<|s_off rfl rfl<|s_q (.bool true) rfl trivial rfl<|s_mov (.bool true) rfl<|w_done<|?_;obtain rfl:=os hb2;exact ⟨[],[0],_,_,rfl,rfl,⟨.refl _,⟨.refl _,⟨.refl _,⟨.refl _,⟨.refl _,⟨.refl _,trivial⟩⟩⟩⟩⟩⟩,(.refl _)⟩
       ·refine s_lit (s:=47) (b:=false) rfl (bf c181)<|s_on rfl<|s_q (.ptr 1 0 2) rfl trivial rfl<|s_on rfl<|s_q (.lst 1 (x_148.Names.map AV.str)) rfl nle rfl<|s_on rfl<|s_dof (o_len (enc:=AV.str) rfl) fun hl182 => s_on rfl<|s_q (.bool (decide ((x_148.Names.length:Int) > 0))) rfl rfl rfl<|s_on rfl<|s_mov (.bool (decide ((x_148.Names.length:Int) > 0))) rfl<|?_
        rcases oi hb2 with ⟨c183,hb2⟩ | ⟨c183,hb2⟩
        ·refine s_lit (s:=52) (b:=true) rfl c183<|s_on rfl<|s_q (.ptr 0 0 1) rfl trivial rfl<|s_on rfl<|s_q (.lst 8 (t_1.Columns.map encGColumn)) rfl nle rfl<|s_on rfl<|s_mov (.int .i64 r_149) rfl<|s_on rfl<|?_
         obtain ⟨x_184,ex185,hb2⟩:=ob hb2
         refine s_do (o_iaddr (enc:=encGColumn) rfl rfl (idx0 ex185) (idx1 ex185))<|s_on rfl<|s_q (.iptr (encGColumn x_184) 1) rfl trivial rfl<|s_on rfl<|s_q (.int .i64 x_184.Kind) rfl nle rfl<|s_on rfl<|s_q (.bool (x_184.Kind != 4)) rfl rfl rfl<|s_on rfl<|s_q (.bool (x_184.Kind != 4)) rfl trivial rfl<|s_q (.bool (x_184.Kind != 4)) rfl trivial rfl<|s_mov (.bool (x_184.Kind != 4)) rfl<|w_done<|?_;obtain rfl:=os hb2;exact ⟨[],[0],_,_,rfl,rfl,⟨.refl _,⟨.refl _,⟨.refl _,⟨.refl _,⟨.refl _,⟨.refl _,trivial⟩⟩⟩⟩⟩⟩,(.refl _)⟩
        ·refine s_lit (s:=52) (b:=false) rfl (bf c183)<|s_off rfl rfl<|s_off rfl rfl<|s_off rfl rfl<|s_off rfl rfl<|s_off rfl rfl<|s_off rfl rfl<|s_off rfl rfl<|s_on rfl<|s_q (.bool false) rfl trivial rfl<|s_q (.bool false) rfl trivial rfl<|s_mov (.bool false) rfl<|w_done<|?_;obtain rfl:=os hb2;exact ⟨[],[0],_,_,rfl,rfl,⟨.refl _,⟨.refl _,⟨.refl _,⟨.refl _,⟨.refl _,⟨.refl _,trivial⟩⟩⟩⟩⟩⟩,(.refl _)⟩
      ·refine s_lit (s:=33) (b:=false) rfl (bf c175)<|s_off rfl rfl<|s_off rfl rfl<|s_off rfl rfl<|s_off rfl rfl<|s_off rfl rfl<|s_off rfl rfl<|s_off rfl rfl<|s_off rfl rfl<|s_off rfl rfl<|s_off rfl rfl<|s_off rfl rfl<|s_off rfl rfl<|s_q (.bool false) rfl trivial rfl<|s_mov (.bool false) rfl<|s_on rfl<|s_q (.ptr 1 0 2) rfl trivial rfl<|s_on rfl<|s_q (.lst 1 (x_148.Names.map AV.str)) rfl nle rfl<|s_on rfl<|s_dof (o_len (enc:=AV.str) rfl) fun hl186 => s_on rfl<|s_q (.bool (decide ((x_148.Names.length:Int) > 0))) rfl rfl rfl<|s_on rfl<|s_mov (.bool (decide ((x_148.Names.length:Int) > 0))) rfl<|?_
       rcases oi hb2 with ⟨c187,hb2⟩ | ⟨c187,hb2⟩
       ·refine s_lit (s:=52) (b:=true) rfl c187<|s_on rfl<|s_q (.ptr 0 0 1) rfl trivial rfl<|s_on rfl<|s_q (.lst 8 (t_1.Columns.map encGColumn)) rfl nle rfl<|s_on rfl<|s_mov (.int .i64 r_149) rfl<|s_on rfl<|?_
        obtain ⟨x_188,ex189,hb2⟩:=ob hb2
        refine s_do (o_iaddr (enc:=encGColumn) rfl rfl (idx0 ex189) (idx1 ex189))<|s_on rfl<|s_q (.iptr (encGColumn x_188) 1) rfl trivial rfl<|s_on rfl<|s_q (.int .i64 x_188.Kind) rfl nle rfl<|s_on rfl<|s_q (.bool (x_188.Kind != 4)) rfl rfl rfl<|s_on rfl<|s_q (.bool (x_188.Kind != 4)) rfl trivial rfl<|s_q (.bool (x_188.Kind != 4)) rfl trivial rfl<|s_mov (.bool (x_188.Kind != 4)) rfl<|w_done<|?_;obtain rfl:=os hb2;exact ⟨[],[0],_,_,rfl,rfl,⟨.refl _,⟨.refl _,⟨.refl _,⟨.refl _,⟨.refl _,⟨.refl _,trivial⟩⟩⟩⟩⟩⟩,(.refl _)⟩
       ·refine s_lit (s:=52) (b:=false) rfl (bf c187)<|s_off rfl rfl<|s_off rfl rfl<|s_off rfl rfl<|s_off rfl rfl<|s_off rfl rfl<|s_off rfl rfl<|s_off rfl rfl<|s_on rfl<|s_q (.bool false) rfl trivial rfl<|s_q (.bool false) rfl trivial rfl<|s_mov (.bool false) rfl<|w_done<|?_;obtain rfl:=os hb2;exact ⟨[],[0],_,_,rfl,rfl,⟨.refl _,⟨.refl _,⟨.refl _,⟨.refl _,⟨.refl _,⟨.refl _,trivial⟩⟩⟩⟩⟩⟩,(.refl _)⟩
     ·rcases oi hc1 with ⟨c190,hc1⟩ | ⟨c190,hc1⟩
      ·refine w_condt rfl c190<|sr<|s_mov (.int .i64 9) rfl<|dk<|w_ret<|?_;obtain rfl:=os hc1;obtain rfl:=os hf;exact r_flat ⟨trivial,trivial⟩ rfl (.refl _)
      ·refine w_condf rfl (bf c190)<|w_skip<|k_blk<|k_blk<|k_seq<|w_reg<|s_q (.int .i64 (w64 ((s10_95:Int) + 1))) rfl rfl rfl<|s_mov (.int .i64 (w64 ((s10_95:Int) + 1))) rfl<|w_done<|?_;exact k_loopn ⟨(s10_95 + 1),hc1⟩ (mul hlt142) ⟨[],[0],_,_,rfl,rfl,⟨.refl _,⟨.refl _,⟨.refl _,⟨.refl _,⟨.of_eq (congrArg (AV.int _) (w64_incr hlt142 hl3)),trivial⟩⟩⟩⟩⟩,(.refl _)⟩
 ·rintro ⟨_,rfl⟩
  refine sr<|s_mov (.int .i64 0) rfl<|dk<|w_ret<|?_;obtain rfl:=os hf;exact r_flat ⟨trivial,trivial⟩ rfl (.refl _)

/- slices.Clone[[]impl.Atom,impl.Atom] -/
def c176:ACode :=
 (.seq (.reg (tm 2 (.c .nil) .done))
 (.seq (.seq (.reg (tm 3 (.t 0) (tq 4 (.isnil false (.t 3)) .done)))
 (.cond (.t 4) (.seq (.reg (tm 2 (.c .nil) .done))
 .ret)
 .skip))
 (.seq (.reg (tq 5 (.bslice 3 []) (tm 6 (.t 0) (tq 7 (.append 3 32 (.t 5) (.t 6)) (tm 2 (.t 7) .done)))))
 .ret)))
theorem fc176:fcomp Tryz.prog Tryz.f176 = some (c176.erase,[.mov (.t 2)],8):=by kernel_rfl
def slices_Clone_impl_Atom_impl_Atom (s_1:(List GAtom)):Option (List GAtom) :=
    if ([] ++ s_1).length ≤ 2 ^ 30 then
    some ([] ++ s_1)
    else none
theorem w_slices_Clone_impl_Atom_impl_Atom (s_1:(List GAtom)) (r:(List GAtom)) (hf:slices_Clone_impl_Atom_impl_Atom s_1 = some r):CallOK Tryz.prog 176 .fresh [(.lst 3 (s_1.map encGAtom))] (.lst 3 (r.map encGAtom)):=by
 refine CallOK.of_awp mixed Tryz.func176 fc176 nle ?_;rw [argT_eq];unfold slices_Clone_impl_Atom_impl_Atom at hf;unfold c176;refine (show awp Tryz.prog true 0 _ (ofL [(0,(.lst 3 (s_1.map encGAtom)))]) [] _ from ?_);refine sr<|s_mov .nil rfl<|dk<|awp_seq<|sr<|s_mov (.lst 3 (s_1.map encGAtom)) rfl<|s_isn (l:=s_1.map encGAtom) rfl<|?_
 intro b hb3
 rcases b with _ | _
 ·refine dk<|w_condf rfl rfl<|w_skip<|k_seq<|sr<|?_
  obtain ⟨g2,hf⟩:=og hf
  refine s_do (o_bslice (j:=0) (as':=[]) rfl (fun _ => by decide) trivial (.refl _) rfl rfl rfl) ?_;refine s_mov (.lst 3 (s_1.map encGAtom)) rfl ?_
  refine s_do (o_appendd (j:=1) (L:=(([] ++ s_1).map encGAtom)) (len:=([] ++ s_1).length) rfl false rfl rfl (fun _ => flm (fun _ => rfl) _) (fun _ _ _ => flm (fun _ => rfl) _) (by decide) ((by simp)) (by simp <;> omega) g2 rfl rfl) ?_
  refine s_mov (.own 1 0 (([] ++ s_1).length)) rfl<|dk<|w_ret<|?_;obtain rfl:=os hf;exact r_fresh ⟨trivial,trivial⟩ rfl (by decide) (.of_eq (congrArg (AV.lst _) (tk (enc:=encGAtom) ([] ++ s_1))))
 ·have he4:s_1 = []:=mapnil (hb3 rfl)
  have hE:(if ([] ++ s_1).length ≤ 2 ^ 30 then some ([] ++ s_1) else none) = (some []):=by simp [he4]
  rw [hE] at hf;refine dk<|w_condt rfl rfl<|sr<|s_mov .nil rfl<|dk<|w_ret<|?_;obtain rfl:=os hf;exact r_fresh ⟨trivial,trivial⟩ rfl (by decide) (.nil _)

/- impl.copyRow -/
def c174:ACode :=
 (.seq (.reg (tq 1 (.box 2 (.t 0)) (tq 2 (.box 2 (.c (.agg [(.int .i64 0),.nil]))) .done)))
 (.seq (.reg (tq 6 (.bslice 1 []) (tm 3 (.t 6) .done)))
 (.seq (.seq (.reg (tq 7 (.faddr 1 (.t 1)) (tq 8 (.load 1 false (.t 7)) (tq 9 (.len (.t 8)) (tm 10 (.c (.int .i64 0)) .done)))))
 (.block 0 (.loop (.seq (.reg (tq 11 (.bin .lss (.t 10) (.t 9)) .done))
 (.seq (.cond (.t 11) .skip
 (.exit 0))
 (.seq (.block 1 (.seq (.reg (tq 12 (.iaddr 1 (.t 8) (.t 10)) (tq 13 (.load 1 false (.t 12)) (tm 5 (.t 13) .done))))
 (.reg (tm 14 (.t 3) (tm 15 (.t 5) (tq 16 (.call 176 [(.t 15)]) (tq 17 (.bslice 1 [(.t 16)]) (tq 18 (.append 1 24 (.t 14) (.t 17)) (tm 3 (.t 18) .done)))))))))
 (.reg (tq 19 (.bin .add (.t 10) (.c (.int .i64 1))) (tm 10 (.t 19) .done)))))))))
 (.cut (.seq (.seq (.reg (tq 20 (.faddr 1 (.t 1)) (.q ⟨none,none,.store 1 (.t 20) (.c .nil)⟩
 .done)))
 (.seq (.reg (tm 21 (.t 3) (tq 22 (.len (.t 21)) (tq 23 (.bin .gtr (.t 22) (.c (.int .i64 0))) .done))))
 (.cond (.t 23) (.reg (tm 24 (.t 3) (tq 25 (.faddr 1 (.t 1)) (.q ⟨none,none,.store 1 (.t 25) (.t 24)⟩
 .done))))
 .skip)))
 (.seq (.reg (tq 26 (.load 2 true (.t 1)) (.q ⟨none,none,.store 2 (.t 2) (.t 26)⟩
 .done)))
 .ret))))))
theorem fc174:fcomp Tryz.prog Tryz.f174 = some (c174.erase,[.load 2 true (.t 2)],27):=by kernel_rfl
def impl_copyRow_L1 :List (List GAtom) → (List (List GAtom)) → Option (List (List GAtom))
  | [],cells_18 =>
    some cells_18
  | x_33 :: xs,cells_18 =>
    (slices_Clone_impl_Atom_impl_Atom x_33).bind fun r_34 =>
    if (cells_18 ++ [r_34]).length ≤ 2 ^ 30 then
    impl_copyRow_L1 xs  (cells_18 ++ [r_34])
    else none

def impl_copyRow (r_1:GRow):Option GRow :=
    (impl_copyRow_L1 r_1.Cells []).bind fun cells_25 =>
    if (decide ((cells_25.length:Int) > 0)) then
    some (⟨r_1.Id,cells_25⟩:GRow)
    else
    some (⟨r_1.Id,[]⟩:GRow)
theorem w_impl_copyRow (r_1:GRow) (r:GRow) (hf:impl_copyRow r_1 = some r):CallOK Tryz.prog 174 .fresh [(encGRow r_1)] (encGRow r):=by
 refine CallOK.of_awp mixed Tryz.func174 fc174 nle ?_;rw [argT_eq];unfold impl_copyRow at hf;unfold c174;refine (show awp Tryz.prog true 0 _ (ofL [(0,(encGRow r_1))]) [] _ from ?_);refine sr<|s_do (o_box (j:=0) (c:=(.agg [(.int .i64 r_1.Id),(.lst 1 (r_1.Cells.map (encL 3 encGAtom)))])) rfl trivial rfl rfl)<|s_do (o_box (j:=1) (c:=(.agg [(.int .i64 0),.nil])) rfl trivial rfl rfl)<|dk<|sr<|?_;refine s_do (o_bslice (j:=2) (as':=[]) rfl (fun _ => by decide) trivial (.refl _) rfl rfl rfl) ?_;refine s_mov (.own 2 0 0) rfl<|dk<|awp_seq<|sr<|s_q (.ptr 0 0 1) rfl trivial rfl<|s_q (.lst 1 (r_1.Cells.map (encL 3 encGAtom))) rfl nle rfl<|s_dof (o_len (enc:=(encL 3 encGAtom)) rfl) fun hl2 => ?_
 refine s_mov (.int .i64 0) rfl<|dk<|?_
 obtain ⟨cells_25,hb1,hf⟩:=ob hf
 refine awp_cut ([(1,(.ptr 0 0 0)),(2,(.ptr 1 0 0)),(3,(.own 2 0 cells_25.length))],[.box 2 (.agg [(.int .i64 r_1.Id),(.lst 1 (r_1.Cells.map (encL 3 encGAtom)))]),.box 2 (.agg [(.int .i64 0),.nil]),.row 1 (cells_25.map (encL 3 encGAtom))]) ?_ ?_
 ·refine awp_loop (X:={q:(Nat × (List (List GAtom))) // impl_copyRow_L1 (r_1.Cells.drop q.1) q.2 = some cells_25}) (fun q => ([(1,(.ptr 0 0 0)),(2,(.ptr 1 0 0)),(3,(.own 2 0 q.1.2.length)),(8,(.lst 1 (r_1.Cells.map (encL 3 encGAtom)))),(9,(.int .i64 (r_1.Cells.length:Int))),(10,(.int .i64 (q.1.1:Int)))],[.box 2 (.agg [(.int .i64 r_1.Id),(.lst 1 (r_1.Cells.map (encL 3 encGAtom)))]),.box 2 (.agg [(.int .i64 0),.nil]),.row 1 (q.1.2.map (encL 3 encGAtom))])) (fun q => r_1.Cells.length - q.1.1) ⟨(0,[]),hb1⟩ ⟨[],[0,1,2],_,_,rfl,rfl,⟨.refl _,⟨.refl _,⟨.of_eq (congrArg (AV.own _ 0) (by simp)),⟨.refl _,⟨.refl _,⟨.refl _,trivial⟩⟩⟩⟩⟩⟩,(.refl _)⟩ ?_
  rintro ⟨⟨s10_17,cells_18⟩,hc1⟩
  have hc1:impl_copyRow_L1 (r_1.Cells.drop s10_17) cells_18 = some cells_25:=hc1
  refine (show awp Tryz.prog true 0 _ (ofL [(1,(.ptr 0 0 0)),(2,(.ptr 1 0 0)),(3,(.own 2 0 cells_18.length)),(8,(.lst 1 (r_1.Cells.map (encL 3 encGAtom)))),(9,(.int .i64 (r_1.Cells.length:Int))),(10,(.int .i64 (s10_17:Int)))]) [.box 2 (.agg [(.int .i64 r_1.Id),(.lst 1 (r_1.Cells.map (encL 3 encGAtom)))]),.box 2 (.agg [(.int .i64 0),.nil]),.row 1 (cells_18.map (encL 3 encGAtom))] _ from ?_)
  rcases dropc r_1.Cells s10_17 with ⟨hie29,hd32⟩ | ⟨hlt27,x_33,hx28,hd32⟩
  ·rw [hd32,impl_copyRow_L1.eq_1] at hc1
   have hq31:=dlf hie29
   refine sr<|s_q (.bool (decide ((s10_17:Int) < (r_1.Cells.length:Int)))) rfl rfl rfl<|dk<|awp_seq<|w_condf rfl hq31<|w_exit<|k_seqx<|k_loopx<|k_blkx<|?_;obtain rfl:=os hc1;exact ⟨[],[0,1,2],_,_,rfl,rfl,⟨.refl _,⟨.refl _,⟨.refl _,trivial⟩⟩⟩,(.refl _)⟩
  ·rw [hd32,impl_copyRow_L1.eq_2] at hc1
   have hq31:=dlt hlt27
   refine sr<|s_q (.bool (decide ((s10_17:Int) < (r_1.Cells.length:Int)))) rfl rfl rfl<|dk<|awp_seq<|w_condt rfl hq31<|w_skip<|k_seq<|awp_seq<|w_blk<|sr<|s_do (o_iaddrn (enc:=(encL 3 encGAtom)) rfl rfl hx28)<|s_q (.lst 3 (x_33.map encGAtom)) rfl ⟨rfl,rfl⟩ rfl<|s_mov (.lst 3 (x_33.map encGAtom)) rfl<|dk<|w_reg<|?_
   obtain ⟨r_34,er35,hc1⟩:=ob hc1
   obtain ⟨g36,hc1⟩:=og hc1
   refine s_mov (.own 2 0 cells_18.length) rfl<|s_mov (.lst 3 (x_33.map encGAtom)) rfl<|s_do (o_callf (v:=(.own 3 0 r_34.length)) (h':=[.row 3 (r_34.map encGAtom)]) (w_slices_Clone_impl_Atom_impl_Atom _ _ er35) rfl (.refl _) (by simp only [openV,openVs,List.length_map,List.nil_append,List.append_nil,List.cons_append];rfl))<|?_;refine s_do (o_bslice (j:=4) (as':=[(.lst 3 (r_34.map encGAtom))]) rfl (fun _ => by decide) ⟨rfl,trivial⟩ (.cons (.of_eq (congrArg (AV.lst _) (tk (enc:=encGAtom) r_34))) .nil) rfl rfl rfl) ?_
   refine s_do (o_appendd (j:=5) (L:=((cells_18 ++ [r_34]).map (encL 3 encGAtom))) (len:=(cells_18 ++ [r_34]).length) rfl true rfl rfl (fun h => Bool.noConfusion h) (fun _ _ h => (ownl (show AV.own _ _ _ = AV.lst _ _ from h)).elim) (by decide) (apo (enc:=(encL 3 encGAtom)) cells_18 [r_34]) (by simp <;> omega) g36 rfl rfl) ?_
   refine s_mov (.own 5 0 ((cells_18 ++ [r_34]).length)) rfl<|w_done<|k_blk<|k_seq<|w_reg<|s_q (.int .i64 (w64 ((s10_17:Int) + 1))) rfl rfl rfl<|s_mov (.int .i64 (w64 ((s10_17:Int) + 1))) rfl<|w_done<|?_;exact k_loopn ⟨((s10_17 + 1),cells_18 ++ [r_34]),hc1⟩ (mul hlt27) ⟨[],[0,1,5],_,_,rfl,rfl,⟨.refl _,⟨.refl _,⟨.refl _,⟨.refl _,⟨.refl _,⟨.of_eq (congrArg (AV.int _) (w64_incr hlt27 hl2)),trivial⟩⟩⟩⟩⟩⟩,(.refl _)⟩
 ·refine awp_seq<|sr<|s_q (.ptr 0 0 1) rfl trivial rfl<|s_do0 (o_storebox (v:=.nil) (y':=(.agg [(.int .i64 r_1.Id),.nil])) rfl rfl rfl trivial ⟨rfl,nle⟩ ⟨⟨rfl,trivial⟩,trivial⟩ rfl)<|dk<|sr<|s_mov (.own 2 0 cells_25.length) rfl<|s_dof (o_lenown rfl rfl) fun hl37 => s_q (.bool (decide ((cells_25.length:Int) > 0))) rfl rfl rfl<|dk<|?_
  rcases oi hf with ⟨c38,hf⟩ | ⟨c38,hf⟩
  ·refine w_condt rfl c38<|w_reg<|s_mov (.own 2 0 cells_25.length) rfl<|s_q (.ptr 0 0 1) rfl trivial rfl<|s_do0 (o_storebox (v:=(.own 2 0 cells_25.length)) (y':=(.agg [(.int .i64 r_1.Id),(.own 2 0 cells_25.length)])) rfl rfl rfl trivial ⟨rfl,nle⟩ ⟨⟨rfl,trivial⟩,trivial⟩ rfl)<|dk<|sr<|s_q (.agg [(.int .i64 r_1.Id),(.own 2 0 cells_25.length)]) rfl nle rfl<|s_do0 (o_storebox (v:=(.agg [(.int .i64 r_1.Id),(.own 2 0 cells_25.length)])) (y':=(.agg [(.int .i64 r_1.Id),(.own 2 0 cells_25.length)])) rfl rfl rfl trivial ⟨rfl,nle⟩ ⟨⟨rfl,trivial⟩,⟨⟨rfl,trivial⟩,trivial⟩⟩ rfl)<|dk<|w_ret<|?_;obtain rfl:=os hf;exact r_fresh ⟨nle,trivial⟩ rfl (by decide) (.agg (.cons (.refl _) (.cons (.of_eq (congrArg (AV.lst _) (tk (enc:=(encL 3 encGAtom)) cells_25))) .nil)))
  ·refine w_condf rfl (bf c38)<|w_skip<|k_seq<|sr<|s_q (.agg [(.int .i64 r_1.Id),.nil]) rfl nle rfl<|s_do0 (o_storebox (v:=(.agg [(.int .i64 r_1.Id),.nil])) (y':=(.agg [(.int .i64 r_1.Id),.nil])) rfl rfl rfl trivial ⟨rfl,nle⟩ ⟨⟨rfl,trivial⟩,⟨⟨rfl,trivial⟩,trivial⟩⟩ rfl)<|dk<|w_ret<|?_;obtain rfl:=os hf;exact r_fresh ⟨nle,trivial⟩ rfl (by decide) (.agg (.cons (.refl _) (.cons (.nil _) .nil)))

/- impl.setRow -/
def c95:ACode :=
 (.seq (.reg (tq 3 (.box 4 (.t 0)) (tq 4 (.box 2 (.t 1)) (tq 6 (.box 2 (.c (.agg [(.int .i64 0),.nil]))) (tm 7 (.c (.int .i64 0)) .done)))))
 (.seq (.reg (tq 13 (.load 2 true (.t 4)) (tq 14 (.call 174 [(.t 13)]) (tq 8 (.box 2 (.c (.agg [(.int .i64 0),.nil]))) (.q ⟨none,none,.store 2 (.t 8) (.t 14)⟩
 .done)))))
 (.seq (.seq (.reg (tm 15 (.t 2) (tq 16 (.len (.t 15)) (tm 17 (.c (.int .i64 0)) .done))))
 (.block 0 (.loop (.seq (.reg (tq 18 (.bin .lss (.t 17) (.t 16)) .done))
 (.seq (.cond (.t 18) .skip
 (.exit 0))
 (.seq (.block 1 (.seq (.reg (tq 19 (.iaddr 3 (.t 15) (.t 17)) (tq 20 (.load 3 true (.t 19)) (tq 10 (.box 3 (.c (.agg [(.str []),.nil,.nil]))) (.q ⟨none,none,.store 3 (.t 10) (.t 20)⟩
 .done)))))
 (.seq (.reg (tq 21 (.load 4 true (.t 3)) (tq 22 (.faddr 0 (.t 10)) (tq 23 (.load 1 false (.t 22)) (tq 24 (.call 172 [(.t 21),(.t 23)]) (tm 11 (.t 24) .done))))))
 (.seq (.seq (.reg (tq 25 (.faddr 1 (.t 3)) (tq 26 (.load 1 false (.t 25)) (tm 27 (.t 11) (tq 28 (.iaddr 8 (.t 26) (.t 27)) (tq 29 (.load 8 true (.t 28)) (tq 30 (.faddr 1 (.t 10)) (tq 31 (.load 1 false (.t 30)) (.l ⟨(some 32),none,.call 175 [(.t 29),(.t 31)]⟩ []
 (tm 12 (.t 32) .done) .non)))))))))
 (.seq (.reg (tm 33 (.t 12) (tq 34 (.bin .neq (.t 33) (.c (.int .i64 0))) .done)))
 (.cond (.t 34) (.seq (.reg (tq 35 (.build [(.int .i64 0),.nil] []) (tm 36 (.t 12) (.q ⟨none,none,.store 2 (.t 6) (.t 35)⟩
 (tm 7 (.t 36) .done)))))
 .ret)
 .skip)))
 (.reg (tq 37 (.faddr 1 (.t 8)) (tq 38 (.load 1 false (.t 37)) (tm 39 (.t 11) (tq 40 (.faddr 1 (.t 10)) (tq 41 (.load 1 false (.t 40)) (.l ⟨(some 42),none,.call 176 [(.t 41)]⟩ [⟨(some 38),none,.load 1 false (.t 37)⟩,⟨(some 37),none,.faddr 1 (.t 8)⟩]
 (tq 43 (.iaddr 1 (.t 38) (.t 39)) (.l ⟨none,none,.store 1 (.t 43) (.t 42)⟩ []
 .done .non)) .non)))))))))))
 (.reg (tq 44 (.bin .add (.t 17) (.c (.int .i64 1))) (tm 17 (.t 44) .done)))))))))
 (.cut (.seq (.reg (tq 45 (.load 2 true (.t 8)) (.q ⟨none,none,.store 2 (.t 6) (.t 45)⟩
 (tm 7 (.c (.int .i64 0)) .done))))
 .ret)))))
theorem fc95:fcomp Tryz.prog Tryz.f95 = some (c95.erase,[.load 2 true (.t 6),.mov (.t 7)],46):=by kernel_rfl
def impl_setRow_L1 (t_1:GTable):List GSet → (List (List GAtom)) → Option (Fl (GRow × Int) (List (List GAtom)))
  | [],x_40 =>
    some (.go x_40)
  | x_64 :: xs,x_40 =>
    (impl_Table_columnAt t_1 x_64.Column).bind fun r_65 =>
    (idx t_1.Columns r_65).bind fun x_67 =>
    (impl_Column_fits x_67 x_64.Value).bind fun r_69 =>
    if (r_69 != 0) then
    some (.ret ((⟨0,[]⟩:GRow),r_69))
    else
    (slices_Clone_impl_Atom_impl_Atom x_64.Value).bind fun r_72 =>
    if 0 ≤ r_65 ∧ r_65 < (x_40.length:Int) then
    (x_40[(0 + r_65.toNat)]?).bind fun x_75 =>
    impl_setRow_L1 t_1 xs  (x_40.set (0 + r_65.toNat) r_72)
    else none

def impl_setRow (t_1:GTable) (r_2:GRow) (list_3:(List GSet)):Option (GRow × Int) :=
    (impl_copyRow r_2).bind fun r_4 =>
    (impl_setRow_L1 t_1 list_3 r_4.Cells).bind fun q => (match q with
    | .ret r => some r
    | .go x_56 =>
    some ((⟨r_4.Id,x_56⟩:GRow),0))
theorem w_impl_setRow (t_1:GTable) (r_2:GRow) (list_3:(List GSet)) (r:(GRow × Int)) (hf:impl_setRow t_1 r_2 list_3 = some r):CallOK Tryz.prog 95 .fresh [(encGTable t_1),(encGRow r_2),(.lst 3 (list_3.map encGSet))] (.tup [(encGRow r.1),(.int .i64 r.2)]):=by
 refine CallOK.of_awp mixed Tryz.func95 fc95 nle ?_;rw [argT_eq];unfold impl_setRow at hf;unfold c95;refine (show awp Tryz.prog true 0 _ (ofL [(0,(encGTable t_1)),(1,(encGRow r_2)),(2,(.lst 3 (list_3.map encGSet)))]) [] _ from ?_);refine sr<|s_do (o_box (j:=0) (c:=(.agg [(.str t_1.Name),(.lst 8 (t_1.Columns.map encGColumn)),(.lst 1 (t_1.Unique.map encI)),(.bool t_1.Root)])) rfl trivial rfl rfl)<|s_do (o_box (j:=1) (c:=(.agg [(.int .i64 r_2.Id),(.lst 1 (r_2.Cells.map (encL 3 encGAtom)))])) rfl trivial rfl rfl)<|s_do (o_box (j:=2) (c:=(.agg [(.int .i64 0),.nil])) rfl trivial rfl rfl)<|s_mov (.int .i64 0) rfl<|dk<|sr<|?_
 obtain ⟨r_4,er5,hf⟩:=ob hf
 refine s_q (.agg [(.int .i64 r_2.Id),(.lst 1 (r_2.Cells.map (encL 3 encGAtom)))]) rfl nle rfl<|s_do (o_callf (v:=(.agg [(.int .i64 r_4.Id),(.own 3 0 r_4.Cells.length)])) (h':=[.row 1 (r_4.Cells.map (encL 3 encGAtom))]) (w_impl_copyRow _ _ er5) rfl (.refl _) (by simp only [openV,openVs,List.length_map,encGRow_eq,List.nil_append,List.append_nil,List.cons_append];rfl))<|s_do (o_box (j:=4) (c:=(.agg [(.int .i64 0),.nil])) rfl trivial rfl rfl)<|s_do0 (o_storebox (v:=(.agg [(.int .i64 r_4.Id),(.own 3 0 r_4.Cells.length)])) (y':=(.agg [(.int .i64 r_4.Id),(.own 3 0 r_4.Cells.length)])) rfl rfl rfl trivial ⟨rfl,nle⟩ ⟨⟨rfl,trivial⟩,⟨⟨rfl,trivial⟩,trivial⟩⟩ rfl)<|dk<|?_
 refine awp_seq<|sr<|s_mov (.lst 3 (list_3.map encGSet)) rfl<|s_dof (o_len (enc:=encGSet) rfl) fun hl6 => s_mov (.int .i64 0) rfl<|dk<|?_
 obtain ⟨p57,hb1,hf⟩:=ob hf
 refine awp_cutx (X:={q:(List (List GAtom)) // p57 = .go q}) (fun q => ([(6,(.ptr 0 0 0)),(8,(.ptr 1 0 0))],[.box 2 (.agg [(.int .i64 0),.nil]),.box 2 (.agg [(.int .i64 r_4.Id),(.own 2 0 q.1.length)]),.row 1 (q.1.map (encL 3 encGAtom))])) ?_ ?_
 ·refine awp_loop (X:={q:(Nat × (List (List GAtom))) // impl_setRow_L1 t_1 (list_3.drop q.1) q.2 = some p57}) (fun q => ([(3,(.ptr 0 0 0)),(6,(.ptr 1 0 0)),(8,(.ptr 2 0 0)),(15,(.lst 3 (list_3.map encGSet))),(16,(.int .i64 (list_3.length:Int))),(17,(.int .i64 (q.1.1:Int)))],[.box 4 (.agg [(.str t_1.Name),(.lst 8 (t_1.Columns.map encGColumn)),(.lst 1 (t_1.Unique.map encI)),(.bool t_1.Root)]),.box 2 (.agg [(.int .i64 0),.nil]),.box 2 (.agg [(.int .i64 r_4.Id),(.own 3 0 q.1.2.length)]),.row 1 (q.1.2.map (encL 3 encGAtom))])) (fun q => list_3.length - q.1.1) ⟨(0,r_4.Cells),hb1⟩ ⟨[],[0,2,4,3],_,_,rfl,rfl,⟨.refl _,⟨.refl _,⟨.refl _,⟨.refl _,⟨.refl _,⟨.refl _,trivial⟩⟩⟩⟩⟩⟩,(.refl _)⟩ ?_
  rintro ⟨⟨s17_39,x_40⟩,hc1⟩
  have hc1:impl_setRow_L1 t_1 (list_3.drop s17_39) x_40 = some p57:=hc1
  refine (show awp Tryz.prog true 0 _ (ofL [(3,(.ptr 0 0 0)),(6,(.ptr 1 0 0)),(8,(.ptr 2 0 0)),(15,(.lst 3 (list_3.map encGSet))),(16,(.int .i64 (list_3.length:Int))),(17,(.int .i64 (s17_39:Int)))]) [.box 4 (.agg [(.str t_1.Name),(.lst 8 (t_1.Columns.map encGColumn)),(.lst 1 (t_1.Unique.map encI)),(.bool t_1.Root)]),.box 2 (.agg [(.int .i64 0),.nil]),.box 2 (.agg [(.int .i64 r_4.Id),(.own 3 0 x_40.length)]),.row 1 (x_40.map (encL 3 encGAtom))] _ from ?_)
  rcases dropc list_3 s17_39 with ⟨hie60,hd63⟩ | ⟨hlt58,x_64,hx59,hd63⟩
  ·rw [hd63,impl_setRow_L1.eq_1] at hc1
   have hq62:=dlf hie60
   refine sr<|s_q (.bool (decide ((s17_39:Int) < (list_3.length:Int)))) rfl rfl rfl<|dk<|awp_seq<|w_condf rfl hq62<|w_exit<|k_seqx<|k_loopx<|k_blkx<|?_;obtain rfl:=os hc1;exact k_cutn ⟨_,rfl⟩ ⟨[],[1,2,3],_,_,rfl,rfl,⟨.refl _,⟨.refl _,trivial⟩⟩,(.refl _)⟩
  ·rw [hd63,impl_setRow_L1.eq_2] at hc1
   have hq62:=dlt hlt58
   refine sr<|s_q (.bool (decide ((s17_39:Int) < (list_3.length:Int)))) rfl rfl rfl<|dk<|awp_seq<|w_condt rfl hq62<|w_skip<|k_seq<|awp_seq<|w_blk<|sr<|s_do (o_iaddrn (enc:=encGSet) rfl rfl hx59)<|s_q (encGSet x_64) rfl nle rfl<|s_do (o_box (j:=4) (c:=(.agg [(.str []),.nil,.nil])) rfl trivial rfl rfl)<|s_do0 (o_storebox (v:=(.agg [(.str x_64.Column),(.lst 3 (x_64.Value.map encGAtom)),(.lst 1 (x_64.Names.map AV.str))])) (y':=(.agg [(.str x_64.Column),(.lst 3 (x_64.Value.map encGAtom)),(.lst 1 (x_64.Names.map AV.str))])) rfl rfl rfl trivial ⟨rfl,nle⟩ ⟨⟨rfl,trivial⟩,⟨⟨rfl,trivial⟩,⟨⟨rfl,trivial⟩,trivial⟩⟩⟩ rfl)<|w_done<|?_
   refine k_seq<|sr<|?_
   obtain ⟨r_65,er66,hc1⟩:=ob hc1
   refine s_q (.agg [(.str t_1.Name),(.lst 8 (t_1.Columns.map encGColumn)),(.lst 1 (t_1.Unique.map encI)),(.bool t_1.Root)]) rfl nle rfl<|s_q (.ptr 4 0 0) rfl trivial rfl<|s_q (.str x_64.Column) rfl nle rfl<|s_do (o_call (w_impl_Table_columnAt _ _ _ er66) rfl (.refl _) rfl)<|s_mov (.int .i64 r_65) rfl<|dk<|awp_seq<|sr<|?_
   obtain ⟨x_67,ex68,hc1⟩:=ob hc1
   obtain ⟨r_69,er70,hc1⟩:=ob hc1
   refine s_q (.ptr 0 0 1) rfl trivial rfl<|s_q (.lst 8 (t_1.Columns.map encGColumn)) rfl nle rfl<|s_mov (.int .i64 r_65) rfl<|s_do (o_iaddr (enc:=encGColumn) rfl rfl (idx0 ex68) (idx1 ex68))<|s_q (encGColumn x_67) rfl nle rfl<|s_q (.ptr 4 0 1) rfl trivial rfl<|s_q (.lst 3 (x_64.Value.map encGAtom)) rfl nle rfl<|s_dol (o_call (w_impl_Column_fits _ _ _ er70) rfl (.refl _) rfl) a_same trivial<|s_mov (.int .i64 r_69) rfl<|dk<|sr<|s_mov (.int .i64 r_69) rfl<|s_q (.bool (r_69 != 0)) rfl rfl rfl<|dk<|?_
   rcases oi hc1 with ⟨c71,hc1⟩ | ⟨c71,hc1⟩
   ·refine w_condt rfl c71<|sr<|s_q (.agg [(.int .i64 0),.nil]) rfl trivial rfl<|s_mov (.int .i64 r_69) rfl<|s_do0 (o_storebox (v:=(.agg [(.int .i64 0),.nil])) (y':=(.agg [(.int .i64 0),.nil])) rfl rfl rfl trivial ⟨rfl,nle⟩ ⟨⟨rfl,trivial⟩,⟨⟨rfl,trivial⟩,trivial⟩⟩ rfl)<|s_mov (.int .i64 r_69) rfl<|dk<|w_ret<|?_;obtain rfl:=os hc1;obtain rfl:=os hf;exact r_fresh ⟨nle,⟨trivial,trivial⟩⟩ rfl (by decide) (.tup (.cons (.agg (.cons (.refl _) (.cons (.nil _) .nil))) (.cons (.refl _) .nil)))
   ·refine w_condf rfl (bf c71)<|w_skip<|k_seq<|w_reg<|?_
    obtain ⟨r_72,er73,hc1⟩:=ob hc1
    obtain ⟨g74,hc1⟩:=og hc1
    obtain ⟨x_75,ex76,hc1⟩:=ob hc1
    refine s_q (.ptr 2 0 1) rfl trivial rfl<|s_q (.own 3 0 x_40.length) rfl nle rfl<|s_mov (.int .i64 r_65) rfl<|s_q (.ptr 4 0 1) rfl trivial rfl<|s_q (.lst 3 (x_64.Value.map encGAtom)) rfl nle rfl<|s_dol (o_callf (v:=(.own 5 0 r_72.length)) (h':=[.row 3 (r_72.map encGAtom)]) (w_slices_Clone_impl_Atom_impl_Atom _ _ er73) rfl (.refl _) (by simp only [openV,openVs,List.length_map,List.nil_append,List.append_nil,List.cons_append];rfl)) (.inr ⟨⟨nle,rfl⟩,⟨⟨trivial,rfl⟩,trivial⟩⟩) trivial<|s_do (o_iaddrown rfl rfl g74.1 g74.2 rfl rfl)<|?_;refine s_dol0 (o_storerow (v':=(.lst 3 (r_72.map encGAtom))) (e':=r_72) rfl rfl ex76 rfl rfl (by simp only [tk,tko,List.take_length]) (by decide) (fun _ => by decide) ⟨rfl,rfl,rfl⟩ (.refl _) rfl) trivial trivial ?_
    refine w_done<|k_blk<|k_seq<|w_reg<|s_q (.int .i64 (w64 ((s17_39:Int) + 1))) rfl rfl rfl<|s_mov (.int .i64 (w64 ((s17_39:Int) + 1))) rfl<|w_done<|?_;exact k_loopn ⟨((s17_39 + 1),x_40.set (0 + r_65.toNat) r_72),hc1⟩ (mul hlt58) ⟨[],[0,1,2,3],_,_,rfl,rfl,⟨.refl _,⟨.refl _,⟨.refl _,⟨.refl _,⟨.refl _,⟨.of_eq (congrArg (AV.int _) (w64_incr hlt58 hl6)),trivial⟩⟩⟩⟩⟩⟩,(.cons (.refl _) (.cons (.refl _) (.cons (.box (.agg (.cons (.refl _) (.cons (.of_eq (congrArg (AV.own _ 0) (by simp))) .nil)))) (.cons (.refl _) .nil))))⟩
 ·rintro ⟨x_56,rfl⟩
  refine sr<|s_q (.agg [(.int .i64 r_4.Id),(.own 2 0 x_56.length)]) rfl nle rfl<|s_do0 (o_storebox (v:=(.agg [(.int .i64 r_4.Id),(.own 2 0 x_56.length)])) (y':=(.agg [(.int .i64 r_4.Id),(.own 2 0 x_56.length)])) rfl rfl rfl trivial ⟨rfl,nle⟩ ⟨⟨rfl,trivial⟩,⟨⟨rfl,trivial⟩,trivial⟩⟩ rfl)<|s_mov (.int .i64 0) rfl<|dk<|w_ret<|?_;obtain rfl:=os hf;exact r_fresh ⟨nle,⟨trivial,trivial⟩⟩ rfl (by decide) (.tup (.cons (.agg (.cons (.refl _) (.cons (.of_eq (congrArg (AV.lst _) (tk (enc:=(encL 3 encGAtom)) x_56))) .nil))) (.cons (.refl _) .nil)))

/- impl.SetRow -/
def c29:ACode :=
 (.seq (.reg (tq 3 (.box 4 (.t 0)) (tq 4 (.box 2 (.t 1)) (tq 6 (.box 2 (.c (.agg [(.int .i64 0),.nil]))) (tm 7 (.c (.int .i64 0)) .done)))))
 (.seq (.reg (tm 10 (.t 2) (tq 11 (.call 90 [(.t 10),(.c (.fn 91 []))]) (tm 8 (.t 11) .done))))
 (.seq (.block 0 (.seq (.reg (tm 13 (.t 2) (tq 14 (.call 92 [(.t 13)]) (tq 15 (.not (.t 14)) (tm 12 (.t 15) .done)))))
 (.cond (.t 12) (.seq (.reg (tq 16 (.build [(.int .i64 0),.nil] []) (.q ⟨none,none,.store 2 (.t 6) (.t 16)⟩
 (tm 7 (.c (.int .i64 2)) .done))))
 .ret)
 (.seq (.reg (tm 18 (.t 2) (tq 19 (.call 56 [(.t 18)]) (tq 20 (.not (.t 19)) (tm 21 (.t 20) (tg 22 21 false (.mov (.t 8)) (tq 23 (.pick (.t 21) (.c (.bool true)) (.t 22)) (tm 24 (.t 23) (tg 25 24 false (.load 4 true (.t 3)) (tg 26 24 false (.load 2 true (.t 4)) (tg 27 24 false (.call 93 [(.t 25),(.t 26)]) (tg 28 24 false (.not (.t 27)) (tq 29 (.pick (.t 24) (.c (.bool true)) (.t 28)) (tm 17 (.t 29) .done))))))))))))))
 (.cut (.cond (.t 17) (.seq (.reg (tq 30 (.build [(.int .i64 0),.nil] []) (.q ⟨none,none,.store 2 (.t 6) (.t 30)⟩
 (tm 7 (.c (.int .i64 1)) .done))))
 .ret)
 .skip))))))
 (.seq (.seq (.reg (tq 31 (.load 4 true (.t 3)) (tm 32 (.t 2) (tq 33 (.call 94 [(.t 31),(.t 32)]) (tm 9 (.t 33) .done)))))
 (.seq (.reg (tm 34 (.t 9) (tq 35 (.bin .neq (.t 34) (.c (.int .i64 0))) .done)))
 (.cond (.t 35) (.seq (.reg (tq 36 (.build [(.int .i64 0),.nil] []) (tm 37 (.t 9) (.q ⟨none,none,.store 2 (.t 6) (.t 36)⟩
 (tm 7 (.t 37) .done)))))
 .ret)
 .skip)))
 (.seq (.reg (tq 38 (.load 4 true (.t 3)) (tq 39 (.load 2 true (.t 4)) (tm 40 (.t 2) (tq 41 (.call 95 [(.t 38),(.t 39),(.t 40)]) (tq 42 (.extract 0 (.t 41)) (tq 43 (.extract 1 (.t 41)) (.q ⟨none,none,.store 2 (.t 6) (.t 42)⟩
 (tm 7 (.t 43) .done)))))))))
 .ret)))))
theorem fc29:fcomp Tryz.prog Tryz.f29 = some (c29.erase,[.load 2 true (.t 6),.mov (.t 7)],44):=by kernel_rfl
def impl_SetRow (t_1:GTable) (r_2:GRow) (list_3:(List GSet)):Option (GRow × Int) :=
    (slices_ContainsFunc_impl_Set_impl_Set list_3 impl_SetRow_1).bind fun r_4 =>
    (impl_isList_impl_Set list_3).bind fun r_6 =>
    if (!r_6) then
    some ((⟨0,[]⟩:GRow),2)
    else
    (((impl_setsOK list_3).bind fun r_16 =>
    if (bif (!r_16) then true else r_4) then
    some true
    else
    (impl_RowOK t_1 r_2).bind fun r_19 =>
    some (!r_19):Option Bool)).bind fun s17_14 =>
    if s17_14 then
    some ((⟨0,[]⟩:GRow),1)
    else
    (impl_setsCode t_1 list_3).bind fun r_22 =>
    if (r_22 != 0) then
    some ((⟨0,[]⟩:GRow),r_22)
    else
    (impl_setRow t_1 r_2 list_3).bind fun r_25 =>
    some (r_25.1,r_25.2)
theorem w_impl_SetRow (t_1:GTable) (r_2:GRow) (list_3:(List GSet)) (r:(GRow × Int)) (hf:impl_SetRow t_1 r_2 list_3 = some r):CallOK Tryz.prog 29 .fresh [(encGTable t_1),(encGRow r_2),(.lst 3 (list_3.map encGSet))] (.tup [(encGRow r.1),(.int .i64 r.2)]):=by
 refine CallOK.of_awp mixed Tryz.func29 fc29 nle ?_;rw [argT_eq];unfold impl_SetRow at hf;unfold c29;refine (show awp Tryz.prog true 0 _ (ofL [(0,(encGTable t_1)),(1,(encGRow r_2)),(2,(.lst 3 (list_3.map encGSet)))]) [] _ from ?_);refine sr<|s_do (o_box (j:=0) (c:=(.agg [(.str t_1.Name),(.lst 8 (t_1.Columns.map encGColumn)),(.lst 1 (t_1.Unique.map encI)),(.bool t_1.Root)])) rfl trivial rfl rfl)<|s_do (o_box (j:=1) (c:=(.agg [(.int .i64 r_2.Id),(.lst 1 (r_2.Cells.map (encL 3 encGAtom)))])) rfl trivial rfl rfl)<|s_do (o_box (j:=2) (c:=(.agg [(.int .i64 0),.nil])) rfl trivial rfl rfl)<|s_mov (.int .i64 0) rfl<|dk<|sr<|?_
 obtain ⟨r_4,er5,hf⟩:=ob hf
 refine s_mov (.lst 3 (list_3.map encGSet)) rfl ?_;refine s_do (o_call (w_slices_ContainsFunc_impl_Set_impl_Set _ _ _ er5 91 [] (by kernel_rfl) (fun _ _ => rfl) (fun _ => rfl) (fun a0 r h => w_impl_SetRow_1 a0 r h)) rfl (.refl _) rfl) ?_;refine s_mov (.bool r_4) rfl<|dk<|awp_seq<|w_blk<|sr<|?_
 obtain ⟨r_6,er7,hf⟩:=ob hf
 refine s_mov (.lst 3 (list_3.map encGSet)) rfl<|s_do (o_call (w_impl_isList_impl_Set _ _ er7) rfl (.refl _) rfl)<|s_q (.bool (!r_6)) rfl trivial rfl<|s_mov (.bool (!r_6)) rfl<|dk<|?_
 rcases oi hf with ⟨c8,hf⟩ | ⟨c8,hf⟩
 ·refine w_condt rfl c8<|sr<|s_q (.agg [(.int .i64 0),.nil]) rfl trivial rfl<|s_do0 (o_storebox (v:=(.agg [(.int .i64 0),.nil])) (y':=(.agg [(.int .i64 0),.nil])) rfl rfl rfl trivial ⟨rfl,nle⟩ ⟨⟨rfl,trivial⟩,⟨⟨rfl,trivial⟩,trivial⟩⟩ rfl)<|s_mov (.int .i64 2) rfl<|dk<|w_ret<|?_;obtain rfl:=os hf;exact r_fresh ⟨nle,⟨trivial,trivial⟩⟩ rfl (by decide) (.tup (.cons (.agg (.cons (.refl _) (.cons (.nil _) .nil))) (.cons (.refl _) .nil)))
 ·refine w_condf rfl (bf c8)<|awp_seq<|?_
  obtain ⟨s17_14,hb1,hf⟩:=ob hf
  refine awp_cut ([(2,(.lst 3 (list_3.map encGSet))),(3,(.ptr 0 0 0)),(4,(.ptr 1 0 0)),(6,(.ptr 2 0 0)),(17,(.bool s17_14))],[.box 4 (.agg [(.str t_1.Name),(.lst 8 (t_1.Columns.map encGColumn)),(.lst 1 (t_1.Unique.map encI)),(.bool t_1.Root)]),.box 2 (.agg [(.int .i64 r_2.Id),(.lst 1 (r_2.Cells.map (encL 3 encGAtom)))]),.box 2 (.agg [(.int .i64 0),.nil])]) ?_ ?_
  ·refine w_reg<|s_mov (.lst 3 (list_3.map encGSet)) rfl<|?_
   obtain ⟨r_16,er17,hb1⟩:=ob hb1
   refine s_do (o_call (w_impl_setsOK _ _ er17) rfl (.refl _) rfl)<|s_q (.bool (!r_16)) rfl trivial rfl<|s_mov (.bool (!r_16)) rfl<|?_;refine s_g (v:=(!r_16)) (.bool r_4) rfl (fun hv => by (try simp only [gs_on hv]);exact ⟨rfl,trivial,rfl⟩) ?_;refine s_pick (x:=true) (y:=r_4) rfl (fun hv => by (try simp only [gs_on hv]);rfl) (fun hv => by (try simp only [gs_on hv]);rfl) ?_;refine s_mov (.bool (bif (!r_16) then true else r_4)) rfl ?_
   rcases oi hb1 with ⟨c18,hb1⟩ | ⟨c18,hb1⟩
   ·refine s_lit (s:=24) (b:=true) rfl c18<|s_off rfl rfl<|s_off rfl rfl<|s_off rfl rfl<|s_off rfl rfl<|s_q (.bool true) rfl trivial rfl<|s_mov (.bool true) rfl<|w_done<|?_;obtain rfl:=os hb1;exact ⟨[],[0,1,2],_,_,rfl,rfl,⟨.refl _,⟨.refl _,⟨.refl _,⟨.refl _,⟨.refl _,trivial⟩⟩⟩⟩⟩,(.refl _)⟩
   ·refine s_lit (s:=24) (b:=false) rfl (bf c18)<|s_on rfl<|s_q (.agg [(.str t_1.Name),(.lst 8 (t_1.Columns.map encGColumn)),(.lst 1 (t_1.Unique.map encI)),(.bool t_1.Root)]) rfl nle rfl<|s_on rfl<|s_q (.agg [(.int .i64 r_2.Id),(.lst 1 (r_2.Cells.map (encL 3 encGAtom)))]) rfl nle rfl<|s_on rfl<|?_
    obtain ⟨r_19,er20,hb1⟩:=ob hb1
    refine s_do (o_call (w_impl_RowOK _ _ _ er20) rfl (.refl _) rfl)<|s_on rfl<|s_q (.bool (!r_19)) rfl trivial rfl<|s_q (.bool (!r_19)) rfl trivial rfl<|s_mov (.bool (!r_19)) rfl<|w_done<|?_;obtain rfl:=os hb1;exact ⟨[],[0,1,2],_,_,rfl,rfl,⟨.refl _,⟨.refl _,⟨.refl _,⟨.refl _,⟨.refl _,trivial⟩⟩⟩⟩⟩,(.refl _)⟩
  ·rcases oi hf with ⟨c21,hf⟩ | ⟨c21,hf⟩
   ·refine w_condt rfl c21<|sr<|s_q (.agg [(.int .i64 0),.nil]) rfl trivial rfl<|s_do0 (o_storebox (v:=(.agg [(.int .i64 0),.nil])) (y':=(.agg [(.int .i64 0),.nil])) rfl rfl rfl trivial ⟨rfl,nle⟩ ⟨⟨rfl,trivial⟩,⟨⟨rfl,trivial⟩,trivial⟩⟩ rfl)<|s_mov (.int .i64 1) rfl<|dk<|w_ret<|?_;obtain rfl:=os hf;exact r_fresh ⟨nle,⟨trivial,trivial⟩⟩ rfl (by decide) (.tup (.cons (.agg (.cons (.refl _) (.cons (.nil _) .nil))) (.cons (.refl _) .nil)))
   ·refine w_condf rfl (bf c21)<|w_skip<|k_blk<|k_seq<|awp_seq<|sr<|?_
    obtain ⟨r_22,er23,hf⟩:=ob hf
    refine s_q (.agg [(.str t_1.Name),(.lst 8 (t_1.Columns.map encGColumn)),(.lst 1 (t_1.Unique.map encI)),(.bool t_1.Root)]) rfl nle rfl<|s_mov (.lst 3 (list_3.map encGSet)) rfl<|s_do (o_call (w_impl_setsCode _ _ _ er23) rfl (.refl _) rfl)<|s_mov (.int .i64 r_22) rfl<|dk<|sr<|s_mov (.int .i64 r_22) rfl<|s_q (.bool (r_22 != 0)) rfl rfl rfl<|dk<|?_
    rcases oi hf with ⟨c24,hf⟩ | ⟨c24,hf⟩
    ·refine w_condt rfl c24<|sr<|s_q (.agg [(.int .i64 0),.nil]) rfl trivial rfl<|s_mov (.int .i64 r_22) rfl<|s_do0 (o_storebox (v:=(.agg [(.int .i64 0),.nil])) (y':=(.agg [(.int .i64 0),.nil])) rfl rfl rfl trivial ⟨rfl,nle⟩ ⟨⟨rfl,trivial⟩,⟨⟨rfl,trivial⟩,trivial⟩⟩ rfl)<|s_mov (.int .i64 r_22) rfl<|dk<|w_ret<|?_;obtain rfl:=os hf;exact r_fresh ⟨nle,⟨trivial,trivial⟩⟩ rfl (by decide) (.tup (.cons (.agg (.cons (.refl _) (.cons (.nil _) .nil))) (.cons (.refl _) .nil)))
    ·refine w_condf rfl (bf c24)<|w_skip<|k_seq<|sr<|?_
     obtain ⟨r_25,er26,hf⟩:=ob hf
     refine s_q (.agg [(.str t_1.Name),(.lst 8 (t_1.Columns.map encGColumn)),(.lst 1 (t_1.Unique.map encI)),(.bool t_1.Root)]) rfl nle rfl<|s_q (.agg [(.int .i64 r_2.Id),(.lst 1 (r_2.Cells.map (encL 3 encGAtom)))]) rfl nle rfl<|s_mov (.lst 3 (list_3.map encGSet)) rfl<|s_do (o_callf (v:=(.tup [(.agg [(.int .i64 r_25.1.Id),(.own 3 0 r_25.1.Cells.length)]),(.int .i64 r_25.2)])) (h':=[.row 1 (r_25.1.Cells.map (encL 3 encGAtom))]) (w_impl_setRow _ _ _ _ er26) rfl (.refl _) (by simp only [openV,openVs,List.length_map,encGRow_eq,List.nil_append,List.append_nil,List.cons_append];rfl))<|s_q (.agg [(.int .i64 r_25.1.Id),(.own 3 0 r_25.1.Cells.length)]) rfl nle rfl<|s_q (.int .i64 r_25.2) rfl nle rfl<|?_
     refine s_do0 (o_storebox (v:=(.agg [(.int .i64 r_25.1.Id),(.own 3 0 r_25.1.Cells.length)])) (y':=(.agg [(.int .i64 r_25.1.Id),(.own 3 0 r_25.1.Cells.length)])) rfl rfl rfl trivial ⟨rfl,nle⟩ ⟨⟨rfl,trivial⟩,⟨⟨rfl,trivial⟩,trivial⟩⟩ rfl)<|s_mov (.int .i64 r_25.2) rfl<|dk<|w_ret<|?_;obtain rfl:=os hf;exact r_fresh ⟨nle,⟨trivial,trivial⟩⟩ rfl (by decide) (.tup (.cons (.agg (.cons (.refl _) (.cons (.of_eq (congrArg (AV.lst _) (tk (enc:=(encL 3 encGAtom)) r_25.1.Cells))) .nil))) (.cons (.refl _) .nil)))

/- laws.eqAtom -/
def c230:ACode :=
 (.seq (.reg (tq 2 (.box 3 (.t 0)) (tq 3 (.box 3 (.t 1)) (tm 4 (.c (.bool false)) .done))))
 (.seq (.seq (.reg (tq 5 (.faddr 0 (.t 2)) (tq 6 (.load 1 false (.t 5)) (tq 7 (.faddr 0 (.t 3)) (tq 8 (.load 1 false (.t 7)) (tq 9 (.bin .neq (.t 6) (.t 8)) .done))))))
 (.cond (.t 9) (.seq (.reg (tm 4 (.c (.bool false)) .done))
 .ret)
 .skip))
 (.seq (.seq (.reg (tq 10 (.faddr 1 (.t 2)) (tq 11 (.load 1 false (.t 10)) (tq 12 (.faddr 1 (.t 3)) (tq 13 (.load 1 false (.t 12)) (tq 14 (.bin .neq (.t 11) (.t 13)) .done))))))
 (.cond (.t 14) (.seq (.reg (tm 4 (.c (.bool false)) .done))
 .ret)
 .skip))
 (.seq (.seq (.reg (tq 15 (.faddr 2 (.t 2)) (tq 16 (.load 1 false (.t 15)) (tq 17 (.faddr 2 (.t 3)) (tq 18 (.load 1 false (.t 17)) (tq 19 (.bin .neq (.t 16) (.t 18)) .done))))))
 (.cond (.t 19) (.seq (.reg (tm 4 (.c (.bool false)) .done))
 .ret)
 .skip))
 (.seq (.reg (tm 4 (.c (.bool true)) .done))
 .ret)))))
theorem fc230:fcomp Tryz.prog Tryz.f230 = some (c230.erase,[.mov (.t 4)],20):=by kernel_rfl
def laws_eqAtom (a_1:GAtom) (b_2:GAtom):Option Bool :=
    if (a_1.Kind != b_2.Kind) then
    some false
    else
    if (a_1.N != b_2.N) then
    some false
    else
    if (!(a_1.T == b_2.T)) then
    some false
    else
    some true
theorem w_laws_eqAtom (a_1:GAtom) (b_2:GAtom) (r:Bool) (hf:laws_eqAtom a_1 b_2 = some r):CallOK Tryz.prog 230 .flat [(encGAtom a_1),(encGAtom b_2)] (.bool r):=by
 refine CallOK.of_awp mixed Tryz.func230 fc230 nle ?_;rw [argT_eq];unfold laws_eqAtom at hf;unfold c230;refine (show awp Tryz.prog false 0 _ (ofL [(0,(encGAtom a_1)),(1,(encGAtom b_2))]) [] _ from ?_);refine sr<|s_do (o_box (j:=0) (c:=(.agg [(.int .i64 a_1.Kind),(.int .i64 a_1.N),(.str a_1.T)])) rfl trivial rfl rfl)<|s_do (o_box (j:=1) (c:=(.agg [(.int .i64 b_2.Kind),(.int .i64 b_2.N),(.str b_2.T)])) rfl trivial rfl rfl)<|s_mov (.bool false) rfl<|dk<|awp_seq<|sr<|s_q (.ptr 0 0 0) rfl trivial rfl<|s_q (.int .i64 a_1.Kind) rfl nle rfl<|s_q (.ptr 1 0 0) rfl trivial rfl<|s_q (.int .i64 b_2.Kind) rfl nle rfl<|s_q (.bool (a_1.Kind != b_2.Kind)) rfl rfl rfl<|?_
 refine dk<|?_
 rcases oi hf with ⟨c3,hf⟩ | ⟨c3,hf⟩
 ·refine w_condt rfl c3<|sr<|s_mov (.bool false) rfl<|dk<|w_ret<|?_;obtain rfl:=os hf;exact r_flat ⟨trivial,trivial⟩ rfl (.refl _)
 ·refine w_condf rfl (bf c3)<|w_skip<|k_seq<|awp_seq<|sr<|s_q (.ptr 0 0 1) rfl trivial rfl<|s_q (.int .i64 a_1.N) rfl nle rfl<|s_q (.ptr 1 0 1) rfl trivial rfl<|s_q (.int .i64 b_2.N) rfl nle rfl<|s_q (.bool (a_1.N != b_2.N)) rfl rfl rfl<|dk<|?_
  rcases oi hf with ⟨c4,hf⟩ | ⟨c4,hf⟩
  ·refine w_condt rfl c4<|sr<|s_mov (.bool false) rfl<|dk<|w_ret<|?_;obtain rfl:=os hf;exact r_flat ⟨trivial,trivial⟩ rfl (.refl _)
  ·refine w_condf rfl (bf c4)<|w_skip<|k_seq<|awp_seq<|sr<|s_q (.ptr 0 0 2) rfl trivial rfl<|s_q (.str a_1.T) rfl nle rfl<|s_q (.ptr 1 0 2) rfl trivial rfl<|s_q (.str b_2.T) rfl nle rfl<|s_q (.bool (!(a_1.T == b_2.T))) rfl trivial rfl<|dk<|?_
   rcases oi hf with ⟨c5,hf⟩ | ⟨c5,hf⟩
   ·refine w_condt rfl c5<|sr<|s_mov (.bool false) rfl<|dk<|w_ret<|?_;obtain rfl:=os hf;exact r_flat ⟨trivial,trivial⟩ rfl (.refl _)
   ·refine w_condf rfl (bf c5)<|w_skip<|k_seq<|sr<|s_mov (.bool true) rfl<|dk<|w_ret<|?_;obtain rfl:=os hf;exact r_flat ⟨trivial,trivial⟩ rfl (.refl _)

/- laws.eqAtomS -/
def c177:ACode :=
 (.seq (.reg (tm 4 (.c (.bool false)) .done))
 (.seq (.seq (.reg (tm 6 (.t 0) (tq 7 (.len (.t 6)) (tm 8 (.t 1) (tq 9 (.len (.t 8)) (tq 10 (.bin .neq (.t 7) (.t 9)) .done))))))
 (.cond (.t 10) (.seq (.reg (tm 4 (.c (.bool false)) .done))
 .ret)
 .skip))
 (.seq (.seq (.reg (tm 5 (.c (.int .i64 0)) .done))
 (.block 0 (.loop (.seq (.seq (.reg (tm 11 (.t 5) (tm 12 (.t 0) (tq 13 (.len (.t 12)) (tq 14 (.bin .lss (.t 11) (.t 13)) .done)))))
 (.cond (.t 14) .skip
 (.exit 0)))
 (.seq (.block 1 (.seq (.reg (tm 17 (.t 0) (tm 18 (.t 5) (tq 19 (.iaddr 3 (.t 17) (.t 18)) (tq 20 (.load 3 true (.t 19)) (tm 21 (.t 1) (tm 22 (.t 5) (tq 23 (.iaddr 3 (.t 21) (.t 22)) (tq 24 (.load 3 true (.t 23)) (.l ⟨(some 25),none,.call 230 [(.t 20),(.t 24)]⟩ []
 (tq 26 (.not (.t 25)) .done) .non))))))))))
 (.cond (.t 26) (.seq (.reg (tm 4 (.c (.bool false)) .done))
 .ret)
 .skip)))
 (.reg (tm 15 (.t 5) (tq 16 (.bin .add (.t 15) (.c (.int .i64 1))) (tm 5 (.t 16) .done)))))))))
 (.cut (.seq (.reg (tm 4 (.c (.bool true)) .done))
 .ret)))))
theorem fc177:fcomp Tryz.prog Tryz.f177 = some (c177.erase,[.mov (.t 4)],27):=by kernel_rfl
def laws_eqAtomS_L1 (b_2:(List GAtom)):List GAtom → Nat → Option (Fl Bool Unit)
  | [],i_25 =>
    some (.go ())
  | x_43 :: xs,i_25 =>
    (idx b_2 (i_25:Int)).bind fun x_46 =>
    (laws_eqAtom x_43 x_46).bind fun r_48 =>
    if (!r_48) then
    some (.ret false)
    else
    laws_eqAtomS_L1 b_2 xs (i_25 + 1)

def laws_eqAtomS (a_1:(List GAtom)) (b_2:(List GAtom)):Option Bool :=
    if ((a_1.length:Int) != (b_2.length:Int)) then
    some false
    else
    (laws_eqAtomS_L1 b_2 a_1 0).bind fun q => (match q with
    | .ret r => some r
    | .go _ =>
    some true)
theorem w_laws_eqAtomS (a_1:(List GAtom)) (b_2:(List GAtom)) (r:Bool) (hf:laws_eqAtomS a_1 b_2 = some r):CallOK Tryz.prog 177 .flat [(.lst 3 (a_1.map encGAtom)),(.lst 3 (b_2.map encGAtom))] (.bool r):=by
 refine CallOK.of_awp mixed Tryz.func177 fc177 nle ?_;rw [argT_eq];unfold laws_eqAtomS at hf;unfold c177;refine (show awp Tryz.prog false 0 _ (ofL [(0,(.lst 3 (a_1.map encGAtom))),(1,(.lst 3 (b_2.map encGAtom)))]) [] _ from ?_);refine sr<|s_mov (.bool false) rfl<|dk<|awp_seq<|sr<|s_mov (.lst 3 (a_1.map encGAtom)) rfl<|s_dof (o_len (enc:=encGAtom) rfl) fun hl3 => s_mov (.lst 3 (b_2.map encGAtom)) rfl<|s_dof (o_len (enc:=encGAtom) rfl) fun hl4 => s_q (.bool ((a_1.length:Int) != (b_2.length:Int))) rfl rfl rfl<|dk<|?_
 rcases oi hf with ⟨c5,hf⟩ | ⟨c5,hf⟩
 ·refine w_condt rfl c5<|sr<|s_mov (.bool false) rfl<|dk<|w_ret<|?_;obtain rfl:=os hf;exact r_flat ⟨trivial,trivial⟩ rfl (.refl _)
 ·refine w_condf rfl (bf c5)<|w_skip<|k_seq<|awp_seq<|sr<|s_mov (.int .i64 0) rfl<|dk<|?_
  obtain ⟨p36,hb1,hf⟩:=ob hf
  refine awp_cutx (X:={q:Unit // p36 = .go q}) (fun q => ([],[])) ?_ ?_
  ·refine awp_loop (X:={q:Nat // laws_eqAtomS_L1 b_2 (a_1.drop q) q = some p36}) (fun q => ([(0,(.lst 3 (a_1.map encGAtom))),(1,(.lst 3 (b_2.map encGAtom))),(5,(.int .i64 (q.1:Int)))],[])) (fun q => a_1.length - q.1) ⟨0,hb1⟩ ⟨[],[],_,_,rfl,rfl,⟨.refl _,⟨.refl _,⟨.refl _,trivial⟩⟩⟩,(.refl _)⟩ ?_
   rintro ⟨i_25,hc1⟩
   have hc1:laws_eqAtomS_L1 b_2 (a_1.drop i_25) i_25 = some p36:=hc1
   refine (show awp Tryz.prog false 0 _ (ofL [(0,(.lst 3 (a_1.map encGAtom))),(1,(.lst 3 (b_2.map encGAtom))),(5,(.int .i64 (i_25:Int)))]) [] _ from ?_)
   rcases dropc a_1 i_25 with ⟨hie39,hd42⟩ | ⟨hlt37,x_43,hx38,hd42⟩
   ·rw [hd42,laws_eqAtomS_L1.eq_1] at hc1
    have hq41:=dlf hie39
    refine awp_seq<|sr<|s_mov (.int .i64 (i_25:Int)) rfl<|s_mov (.lst 3 (a_1.map encGAtom)) rfl<|s_dof (o_len (enc:=encGAtom) rfl) fun hl44 => s_q (.bool (decide ((i_25:Int) < (a_1.length:Int)))) rfl rfl rfl<|dk<|w_condf rfl hq41<|w_exit<|k_seqx<|k_loopx<|k_blkx<|?_;obtain rfl:=os hc1;exact k_cutn ⟨_,rfl⟩ ⟨[],[],_,_,rfl,rfl,trivial,(.refl _)⟩
   ·rw [hd42,laws_eqAtomS_L1.eq_2] at hc1
    have hq41:=dlt hlt37
    refine awp_seq<|sr<|s_mov (.int .i64 (i_25:Int)) rfl<|s_mov (.lst 3 (a_1.map encGAtom)) rfl<|s_dof (o_len (enc:=encGAtom) rfl) fun hl45 => s_q (.bool (decide ((i_25:Int) < (a_1.length:Int)))) rfl rfl rfl<|dk<|w_condt rfl hq41<|w_skip<|k_seq<|awp_seq<|w_blk<|sr<|?_
    obtain ⟨x_46,ex47,hc1⟩:=ob hc1
    obtain ⟨r_48,er49,hc1⟩:=ob hc1
    refine s_mov (.lst 3 (a_1.map encGAtom)) rfl<|s_mov (.int .i64 (i_25:Int)) rfl<|s_do (o_iaddrn (enc:=encGAtom) rfl rfl hx38)<|s_q (encGAtom x_43) rfl nle rfl<|s_mov (.lst 3 (b_2.map encGAtom)) rfl<|s_mov (.int .i64 (i_25:Int)) rfl<|s_do (o_iaddr (enc:=encGAtom) rfl rfl (idx0 ex47) (idx1 ex47))<|s_q (encGAtom x_46) rfl nle rfl<|s_dol (o_call (w_laws_eqAtom _ _ _ er49) rfl (.refl _) rfl) a_same trivial<|s_q (.bool (!r_48)) rfl trivial rfl<|dk<|?_
    rcases oi hc1 with ⟨c50,hc1⟩ | ⟨c50,hc1⟩
    ·refine w_condt rfl c50<|sr<|s_mov (.bool false) rfl<|dk<|w_ret<|?_;obtain rfl:=os hc1;obtain rfl:=os hf;exact r_flat ⟨trivial,trivial⟩ rfl (.refl _)
    ·refine w_condf rfl (bf c50)<|w_skip<|k_blk<|k_seq<|w_reg<|s_mov (.int .i64 (i_25:Int)) rfl<|s_q (.int .i64 (w64 ((i_25:Int) + 1))) rfl rfl rfl<|s_mov (.int .i64 (w64 ((i_25:Int) + 1))) rfl<|w_done<|?_;exact k_loopn ⟨(i_25 + 1),hc1⟩ (mul hlt37) ⟨[],[],_,_,rfl,rfl,⟨.refl _,⟨.refl _,⟨.of_eq (congrArg (AV.int _) (w64_incr hlt37 hl45)),trivial⟩⟩⟩,(.refl _)⟩
  ·rintro ⟨_,rfl⟩
   refine sr<|s_mov (.bool true) rfl<|dk<|w_ret<|?_;obtain rfl:=os hf;exact r_flat ⟨trivial,trivial⟩ rfl (.refl _)

/- laws.eqAtomSS -/
def c96:ACode :=
 (.seq (.reg (tm 4 (.c (.bool false)) .done))
 (.seq (.seq (.reg (tm 6 (.t 0) (tq 7 (.len (.t 6)) (tm 8 (.t 1) (tq 9 (.len (.t 8)) (tq 10 (.bin .neq (.t 7) (.t 9)) .done))))))
 (.cond (.t 10) (.seq (.reg (tm 4 (.c (.bool false)) .done))
 .ret)
 .skip))
 (.seq (.seq (.reg (tm 5 (.c (.int .i64 0)) .done))
 (.block 0 (.loop (.seq (.seq (.reg (tm 11 (.t 5) (tm 12 (.t 0) (tq 13 (.len (.t 12)) (tq 14 (.bin .lss (.t 11) (.t 13)) .done)))))
 (.cond (.t 14) .skip
 (.exit 0)))
 (.seq (.block 1 (.seq (.reg (tm 17 (.t 0) (tm 18 (.t 5) (tq 19 (.iaddr 1 (.t 17) (.t 18)) (tq 20 (.load 1 false (.t 19)) (tm 21 (.t 1) (tm 22 (.t 5) (tq 23 (.iaddr 1 (.t 21) (.t 22)) (tq 24 (.load 1 false (.t 23)) (.l ⟨(some 25),none,.call 177 [(.t 20),(.t 24)]⟩ []
 (tq 26 (.not (.t 25)) .done) .non))))))))))
 (.cond (.t 26) (.seq (.reg (tm 4 (.c (.bool false)) .done))
 .ret)
 .skip)))
 (.reg (tm 15 (.t 5) (tq 16 (.bin .add (.t 15) (.c (.int .i64 1))) (tm 5 (.t 16) .done)))))))))
 (.cut (.seq (.reg (tm 4 (.c (.bool true)) .done))
 .ret)))))
theorem fc96:fcomp Tryz.prog Tryz.f96 = some (c96.erase,[.mov (.t 4)],27):=by kernel_rfl
def laws_eqAtomSS_L1 (b_2:(List (List GAtom))):List (List GAtom) → Nat → Option (Fl Bool Unit)
  | [],i_25 =>
    some (.go ())
  | x_43 :: xs,i_25 =>
    (idx b_2 (i_25:Int)).bind fun x_46 =>
    (laws_eqAtomS x_43 x_46).bind fun r_48 =>
    if (!r_48) then
    some (.ret false)
    else
    laws_eqAtomSS_L1 b_2 xs (i_25 + 1)

def laws_eqAtomSS (a_1:(List (List GAtom))) (b_2:(List (List GAtom))):Option Bool :=
    if ((a_1.length:Int) != (b_2.length:Int)) then
    some false
    else
    (laws_eqAtomSS_L1 b_2 a_1 0).bind fun q => (match q with
    | .ret r => some r
    | .go _ =>
    some true)
theorem w_laws_eqAtomSS (a_1:(List (List GAtom))) (b_2:(List (List GAtom))) (r:Bool) (hf:laws_eqAtomSS a_1 b_2 = some r):CallOK Tryz.prog 96 .flat [(.lst 1 (a_1.map (encL 3 encGAtom))),(.lst 1 (b_2.map (encL 3 encGAtom)))] (.bool r):=by
 refine CallOK.of_awp mixed Tryz.func96 fc96 nle ?_;rw [argT_eq];unfold laws_eqAtomSS at hf;unfold c96;refine (show awp Tryz.prog false 0 _ (ofL [(0,(.lst 1 (a_1.map (encL 3 encGAtom)))),(1,(.lst 1 (b_2.map (encL 3 encGAtom))))]) [] _ from ?_);refine sr<|s_mov (.bool false) rfl<|dk<|awp_seq<|sr<|s_mov (.lst 1 (a_1.map (encL 3 encGAtom))) rfl<|s_dof (o_len (enc:=(encL 3 encGAtom)) rfl) fun hl3 => s_mov (.lst 1 (b_2.map (encL 3 encGAtom))) rfl<|s_dof (o_len (enc:=(encL 3 encGAtom)) rfl) fun hl4 => s_q (.bool ((a_1.length:Int) != (b_2.length:Int))) rfl rfl rfl<|dk<|?_
 rcases oi hf with ⟨c5,hf⟩ | ⟨c5,hf⟩
 ·refine w_condt rfl c5<|sr<|s_mov (.bool false) rfl<|dk<|w_ret<|?_;obtain rfl:=os hf;exact r_flat ⟨trivial,trivial⟩ rfl (.refl _)
 ·refine w_condf rfl (bf c5)<|w_skip<|k_seq<|awp_seq<|sr<|s_mov (.int .i64 0) rfl<|dk<|?_
  obtain ⟨p36,hb1,hf⟩:=ob hf
  refine awp_cutx (X:={q:Unit // p36 = .go q}) (fun q => ([],[])) ?_ ?_
  ·refine awp_loop (X:={q:Nat // laws_eqAtomSS_L1 b_2 (a_1.drop q) q = some p36}) (fun q => ([(0,(.lst 1 (a_1.map (encL 3 encGAtom)))),(1,(.lst 1 (b_2.map (encL 3 encGAtom)))),(5,(.int .i64 (q.1:Int)))],[])) (fun q => a_1.length - q.1) ⟨0,hb1⟩ ⟨[],[],_,_,rfl,rfl,⟨.refl _,⟨.refl _,⟨.refl _,trivial⟩⟩⟩,(.refl _)⟩ ?_
   rintro ⟨i_25,hc1⟩
   have hc1:laws_eqAtomSS_L1 b_2 (a_1.drop i_25) i_25 = some p36:=hc1
   refine (show awp Tryz.prog false 0 _ (ofL [(0,(.lst 1 (a_1.map (encL 3 encGAtom)))),(1,(.lst 1 (b_2.map (encL 3 encGAtom)))),(5,(.int .i64 (i_25:Int)))]) [] _ from ?_)
   rcases dropc a_1 i_25 with ⟨hie39,hd42⟩ | ⟨hlt37,x_43,hx38,hd42⟩
   ·rw [hd42,laws_eqAtomSS_L1.eq_1] at hc1
    have hq41:=dlf hie39
    refine awp_seq<|sr<|s_mov (.int .i64 (i_25:Int)) rfl<|s_mov (.lst 1 (a_1.map (encL 3 encGAtom))) rfl<|s_dof (o_len (enc:=(encL 3 encGAtom)) rfl) fun hl44 => s_q (.bool (decide ((i_25:Int) < (a_1.length:Int)))) rfl rfl rfl<|dk<|w_condf rfl hq41<|w_exit<|k_seqx<|k_loopx<|k_blkx<|?_;obtain rfl:=os hc1;exact k_cutn ⟨_,rfl⟩ ⟨[],[],_,_,rfl,rfl,trivial,(.refl _)⟩
   ·rw [hd42,laws_eqAtomSS_L1.eq_2] at hc1
    have hq41:=dlt hlt37
    refine awp_seq<|sr<|s_mov (.int .i64 (i_25:Int)) rfl<|s_mov (.lst 1 (a_1.map (encL 3 encGAtom))) rfl<|s_dof (o_len (enc:=(encL 3 encGAtom)) rfl) fun hl45 => s_q (.bool (decide ((i_25:Int) < (a_1.length:Int)))) rfl rfl rfl<|dk<|w_condt rfl hq41<|w_skip<|k_seq<|awp_seq<|w_blk<|sr<|?_
    obtain ⟨x_46,ex47,hc1⟩:=ob hc1
    obtain ⟨r_48,er49,hc1⟩:=ob hc1
    refine s_mov (.lst 1 (a_1.map (encL 3 encGAtom))) rfl<|s_mov (.int .i64 (i_25:Int)) rfl<|s_do (o_iaddrn (enc:=(encL 3 encGAtom)) rfl rfl hx38)<|s_q (.lst 3 (x_43.map encGAtom)) rfl ⟨rfl,rfl⟩ rfl<|s_mov (.lst 1 (b_2.map (encL 3 encGAtom))) rfl<|s_mov (.int .i64 (i_25:Int)) rfl<|s_do (o_iaddr (enc:=(encL 3 encGAtom)) rfl rfl (idx0 ex47) (idx1 ex47))<|s_q (.lst 3 (x_46.map encGAtom)) rfl ⟨rfl,rfl⟩ rfl<|s_dol (o_call (w_laws_eqAtomS _ _ _ er49) rfl (.refl _) rfl) a_same trivial<|s_q (.bool (!r_48)) rfl trivial rfl<|dk<|?_
    rcases oi hc1 with ⟨c50,hc1⟩ | ⟨c50,hc1⟩
    ·refine w_condt rfl c50<|sr<|s_mov (.bool false) rfl<|dk<|w_ret<|?_;obtain rfl:=os hc1;obtain rfl:=os hf;exact r_flat ⟨trivial,trivial⟩ rfl (.refl _)
    ·refine w_condf rfl (bf c50)<|w_skip<|k_blk<|k_seq<|w_reg<|s_mov (.int .i64 (i_25:Int)) rfl<|s_q (.int .i64 (w64 ((i_25:Int) + 1))) rfl rfl rfl<|s_mov (.int .i64 (w64 ((i_25:Int) + 1))) rfl<|w_done<|?_;exact k_loopn ⟨(i_25 + 1),hc1⟩ (mul hlt37) ⟨[],[],_,_,rfl,rfl,⟨.refl _,⟨.refl _,⟨.of_eq (congrArg (AV.int _) (w64_incr hlt37 hl45)),trivial⟩⟩⟩,(.refl _)⟩
  ·rintro ⟨_,rfl⟩
   refine sr<|s_mov (.bool true) rfl<|dk<|w_ret<|?_;obtain rfl:=os hf;exact r_flat ⟨trivial,trivial⟩ rfl (.refl _)

/- laws.eqRow -/
def c30:ACode :=
 (.seq (.reg (tq 2 (.box 2 (.t 0)) (tq 3 (.box 2 (.t 1)) (tm 4 (.c (.bool false)) .done))))
 (.seq (.seq (.reg (tq 5 (.faddr 0 (.t 2)) (tq 6 (.load 1 false (.t 5)) (tq 7 (.faddr 0 (.t 3)) (tq 8 (.load 1 false (.t 7)) (tq 9 (.bin .neq (.t 6) (.t 8)) .done))))))
 (.cond (.t 9) (.seq (.reg (tm 4 (.c (.bool false)) .done))
 .ret)
 .skip))
 (.seq (.seq (.reg (tq 10 (.faddr 1 (.t 2)) (tq 11 (.load 1 false (.t 10)) (tq 12 (.faddr 1 (.t 3)) (tq 13 (.load 1 false (.t 12)) (tq 14 (.call 96 [(.t 11),(.t 13)]) (tq 15 (.not (.t 14)) .done)))))))
 (.cond (.t 15) (.seq (.reg (tm 4 (.c (.bool false)) .done))
 .ret)
 .skip))
 (.seq (.reg (tm 4 (.c (.bool true)) .done))
 .ret))))
theorem fc30:fcomp Tryz.prog Tryz.f30 = some (c30.erase,[.mov (.t 4)],16):=by kernel_rfl
def laws_eqRow (a_1:GRow) (b_2:GRow):Option Bool :=
    if (a_1.Id != b_2.Id) then
    some false
    else
    (laws_eqAtomSS a_1.Cells b_2.Cells).bind fun r_4 =>
    if (!r_4) then
    some false
    else
    some true
theorem w_laws_eqRow (a_1:GRow) (b_2:GRow) (r:Bool) (hf:laws_eqRow a_1 b_2 = some r):CallOK Tryz.prog 30 .flat [(encGRow a_1),(encGRow b_2)] (.bool r):=by
 refine CallOK.of_awp mixed Tryz.func30 fc30 nle ?_;rw [argT_eq];unfold laws_eqRow at hf;unfold c30;refine (show awp Tryz.prog false 0 _ (ofL [(0,(encGRow a_1)),(1,(encGRow b_2))]) [] _ from ?_);refine sr<|s_do (o_box (j:=0) (c:=(.agg [(.int .i64 a_1.Id),(.lst 1 (a_1.Cells.map (encL 3 encGAtom)))])) rfl trivial rfl rfl)<|s_do (o_box (j:=1) (c:=(.agg [(.int .i64 b_2.Id),(.lst 1 (b_2.Cells.map (encL 3 encGAtom)))])) rfl trivial rfl rfl)<|s_mov (.bool false) rfl<|dk<|awp_seq<|sr<|s_q (.ptr 0 0 0) rfl trivial rfl<|s_q (.int .i64 a_1.Id) rfl nle rfl<|s_q (.ptr 1 0 0) rfl trivial rfl<|s_q (.int .i64 b_2.Id) rfl nle rfl<|s_q (.bool (a_1.Id != b_2.Id)) rfl rfl rfl<|?_
 refine dk<|?_
 rcases oi hf with ⟨c3,hf⟩ | ⟨c3,hf⟩
 ·refine w_condt rfl c3<|sr<|s_mov (.bool false) rfl<|dk<|w_ret<|?_;obtain rfl:=os hf;exact r_flat ⟨trivial,trivial⟩ rfl (.refl _)
 ·refine w_condf rfl (bf c3)<|w_skip<|k_seq<|awp_seq<|sr<|?_
  obtain ⟨r_4,er5,hf⟩:=ob hf
  refine s_q (.ptr 0 0 1) rfl trivial rfl<|s_q (.lst 1 (a_1.Cells.map (encL 3 encGAtom))) rfl nle rfl<|s_q (.ptr 1 0 1) rfl trivial rfl<|s_q (.lst 1 (b_2.Cells.map (encL 3 encGAtom))) rfl nle rfl<|s_do (o_call (w_laws_eqAtomSS _ _ _ er5) rfl (.refl _) rfl)<|s_q (.bool (!r_4)) rfl trivial rfl<|dk<|?_
  rcases oi hf with ⟨c6,hf⟩ | ⟨c6,hf⟩
  ·refine w_condt rfl c6<|sr<|s_mov (.bool false) rfl<|dk<|w_ret<|?_;obtain rfl:=os hf;exact r_flat ⟨trivial,trivial⟩ rfl (.refl _)
  ·refine w_condf rfl (bf c6)<|w_skip<|k_seq<|sr<|s_mov (.bool true) rfl<|dk<|w_ret<|?_;obtain rfl:=os hf;exact r_flat ⟨trivial,trivial⟩ rfl (.refl _)

/- laws.eqColumn -/
def c178:ACode :=
 (.seq (.reg (tq 2 (.box 8 (.t 0)) (tq 3 (.box 8 (.t 1)) (tm 4 (.c (.bool false)) .done))))
 (.seq (.seq (.reg (tq 5 (.faddr 0 (.t 2)) (tq 6 (.load 1 false (.t 5)) (tq 7 (.faddr 0 (.t 3)) (tq 8 (.load 1 false (.t 7)) (tq 9 (.bin .neq (.t 6) (.t 8)) .done))))))
 (.cond (.t 9) (.seq (.reg (tm 4 (.c (.bool false)) .done))
 .ret)
 .skip))
 (.seq (.seq (.reg (tq 10 (.faddr 1 (.t 2)) (tq 11 (.load 1 false (.t 10)) (tq 12 (.faddr 1 (.t 3)) (tq 13 (.load 1 false (.t 12)) (tq 14 (.bin .neq (.t 11) (.t 13)) .done))))))
 (.cond (.t 14) (.seq (.reg (tm 4 (.c (.bool false)) .done))
 .ret)
 .skip))
 (.seq (.seq (.reg (tq 15 (.faddr 2 (.t 2)) (tq 16 (.load 1 false (.t 15)) (tq 17 (.faddr 2 (.t 3)) (tq 18 (.load 1 false (.t 17)) (tq 19 (.bin .neq (.t 16) (.t 18)) .done))))))
 (.cond (.t 19) (.seq (.reg (tm 4 (.c (.bool false)) .done))
 .ret)
 .skip))
 (.seq (.seq (.reg (tq 20 (.faddr 3 (.t 2)) (tq 21 (.load 1 false (.t 20)) (tq 22 (.faddr 3 (.t 3)) (tq 23 (.load 1 false (.t 22)) (tq 24 (.bin .neq (.t 21) (.t 23)) .done))))))
 (.cond (.t 24) (.seq (.reg (tm 4 (.c (.bool false)) .done))
 .ret)
 .skip))
 (.seq (.seq (.reg (tq 25 (.faddr 4 (.t 2)) (tq 26 (.load 1 false (.t 25)) (tq 27 (.faddr 4 (.t 3)) (tq 28 (.load 1 false (.t 27)) (tq 29 (.bin .neq (.t 26) (.t 28)) .done))))))
 (.cond (.t 29) (.seq (.reg (tm 4 (.c (.bool false)) .done))
 .ret)
 .skip))
 (.seq (.seq (.reg (tq 30 (.faddr 5 (.t 2)) (tq 31 (.load 1 false (.t 30)) (tq 32 (.faddr 5 (.t 3)) (tq 33 (.load 1 false (.t 32)) (tq 34 (.bin .neq (.t 31) (.t 33)) .done))))))
 (.cond (.t 34) (.seq (.reg (tm 4 (.c (.bool false)) .done))
 .ret)
 .skip))
 (.seq (.seq (.reg (tq 35 (.faddr 6 (.t 2)) (tq 36 (.load 1 false (.t 35)) (tq 37 (.faddr 6 (.t 3)) (tq 38 (.load 1 false (.t 37)) (tq 39 (.bin .neq (.t 36) (.t 38)) .done))))))
 (.cond (.t 39) (.seq (.reg (tm 4 (.c (.bool false)) .done))
 .ret)
 .skip))
 (.seq (.seq (.reg (tq 40 (.faddr 7 (.t 2)) (tq 41 (.load 1 false (.t 40)) (tq 42 (.faddr 7 (.t 3)) (tq 43 (.load 1 false (.t 42)) (tq 44 (.eqB true (.t 41) (.t 43)) .done))))))
 (.cond (.t 44) (.seq (.reg (tm 4 (.c (.bool false)) .done))
 .ret)
 .skip))
 (.seq (.reg (tm 4 (.c (.bool true)) .done))
 .ret))))))))))
theorem fc178:fcomp Tryz.prog Tryz.f178 = some (c178.erase,[.mov (.t 4)],45):=by kernel_rfl
def laws_eqColumn (a_1:GColumn) (b_2:GColumn):Option Bool :=
    if (!(a_1.Name == b_2.Name)) then
    some false
    else
    if (a_1.Kind != b_2.Kind) then
    some false
    else
    if (a_1.Min != b_2.Min) then
    some false
    else
    if (a_1.Max != b_2.Max) then
    some false
    else
    if (a_1.Low != b_2.Low) then
    some false
    else
    if (a_1.High != b_2.High) then
    some false
    else
    if (!(a_1.Ref == b_2.Ref)) then
    some false
    else
    if (!(a_1.Strong == b_2.Strong)) then
    some false
    else
    some true
theorem w_laws_eqColumn (a_1:GColumn) (b_2:GColumn) (r:Bool) (hf:laws_eqColumn a_1 b_2 = some r):CallOK Tryz.prog 178 .flat [(encGColumn a_1),(encGColumn b_2)] (.bool r):=by
 refine CallOK.of_awp mixed Tryz.func178 fc178 nle ?_;rw [argT_eq];unfold laws_eqColumn at hf;unfold c178;refine (show awp Tryz.prog false 0 _ (ofL [(0,(encGColumn a_1)),(1,(encGColumn b_2))]) [] _ from ?_);refine sr<|s_do (o_box (j:=0) (c:=(.agg [(.str a_1.Name),(.int .i64 a_1.Kind),(.int .i64 a_1.Min),(.int .i64 a_1.Max),(.int .i64 a_1.Low),(.int .i64 a_1.High),(.str a_1.Ref),(.bool a_1.Strong)])) rfl trivial rfl rfl)<|s_do (o_box (j:=1) (c:=(.agg [(.str b_2.Name),(.int .i64 b_2.Kind),(.int .i64 b_2.Min),(.int .i64 b_2.Max),(.int .i64 b_2.Low),(.int .i64 b_2.High),(.str b_2.Ref),(.bool b_2.Strong)])) rfl trivial rfl rfl)<|s_mov (.bool false) rfl<|dk<|awp_seq<|?_
 refine sr<|s_q (.ptr 0 0 0) rfl trivial rfl<|s_q (.str a_1.Name) rfl nle rfl<|s_q (.ptr 1 0 0) rfl trivial rfl<|s_q (.str b_2.Name) rfl nle rfl<|s_q (.bool (!(a_1.Name == b_2.Name))) rfl trivial rfl<|dk<|?_
 rcases oi hf with ⟨c3,hf⟩ | ⟨c3,hf⟩
 ·refine w_condt rfl c3<|sr<|s_mov (.bool false) rfl<|dk<|w_ret<|?_;obtain rfl:=os hf;exact r_flat ⟨trivial,trivial⟩ rfl (.refl _)
 ·refine w_condf rfl (bf c3)<|w_skip<|k_seq<|awp_seq<|sr<|s_q (.ptr 0 0 1) rfl trivial rfl<|s_q (.int .i64 a_1.Kind) rfl nle rfl<|s_q (.ptr 1 0 1) rfl trivial rfl<|s_q (.int .i64 b_2.Kind) rfl nle rfl<|s_q (.bool (a_1.Kind != b_2.Kind)) rfl rfl rfl<|dk<|?_
  rcases oi hf with ⟨c4,hf⟩ | ⟨c4,hf⟩
  ·refine w_condt rfl c4<|sr<|s_mov (.bool false) rfl<|dk<|w_ret<|?_;obtain rfl:=os hf;exact r_flat ⟨trivial,trivial⟩ rfl (.refl _)
  ·refine w_condf rfl (bf c4)<|w_skip<|k_seq<|awp_seq<|sr<|s_q (.ptr 0 0 2) rfl trivial rfl<|s_q (.int .i64 a_1.Min) rfl nle rfl<|s_q (.ptr 1 0 2) rfl trivial rfl<|s_q (.int .i64 b_2.Min) rfl nle rfl<|s_q (.bool (a_1.Min != b_2.Min)) rfl rfl rfl<|dk<|?_
   rcases oi hf with ⟨c5,hf⟩ | ⟨c5,hf⟩
   ·refine w_condt rfl c5<|sr<|s_mov (.bool false) rfl<|dk<|w_ret<|?_;obtain rfl:=os hf;exact r_flat ⟨trivial,trivial⟩ rfl (.refl _)
   ·refine w_condf rfl (bf c5)<|w_skip<|k_seq<|awp_seq<|sr<|s_q (.ptr 0 0 3) rfl trivial rfl<|s_q (.int .i64 a_1.Max) rfl nle rfl<|s_q (.ptr 1 0 3) rfl trivial rfl<|s_q (.int .i64 b_2.Max) rfl nle rfl<|s_q (.bool (a_1.Max != b_2.Max)) rfl rfl rfl<|dk<|?_
    rcases oi hf with ⟨c6,hf⟩ | ⟨c6,hf⟩
    ·refine w_condt rfl c6<|sr<|s_mov (.bool false) rfl<|dk<|w_ret<|?_;obtain rfl:=os hf;exact r_flat ⟨trivial,trivial⟩ rfl (.refl _)
    ·refine w_condf rfl (bf c6)<|w_skip<|k_seq<|awp_seq<|sr<|s_q (.ptr 0 0 4) rfl trivial rfl<|s_q (.int .i64 a_1.Low) rfl nle rfl<|s_q (.ptr 1 0 4) rfl trivial rfl<|s_q (.int .i64 b_2.Low) rfl nle rfl<|s_q (.bool (a_1.Low != b_2.Low)) rfl rfl rfl<|dk<|?_
     rcases oi hf with ⟨c7,hf⟩ | ⟨c7,hf⟩
     ·refine w_condt rfl c7<|sr<|s_mov (.bool false) rfl<|dk<|w_ret<|?_;obtain rfl:=os hf;exact r_flat ⟨trivial,trivial⟩ rfl (.refl _)
     ·refine w_condf rfl (bf c7)<|w_skip<|k_seq<|awp_seq<|sr<|s_q (.ptr 0 0 5) rfl trivial rfl<|s_q (.int .i64 a_1.High) rfl nle rfl<|s_q (.ptr 1 0 5) rfl trivial rfl<|s_q (.int .i64 b_2.High) rfl nle rfl<|s_q (.bool (a_1.High != b_2.High)) rfl rfl rfl<|dk<|?_
      rcases oi hf with ⟨c8,hf⟩ | ⟨c8,hf⟩
      ·refine w_condt rfl c8<|sr<|s_mov (.bool false) rfl<|dk<|w_ret<|?_;obtain rfl:=os hf;exact r_flat ⟨trivial,trivial⟩ rfl (.refl _)
      ·refine w_condf rfl (bf c8)<|w_skip<|k_seq<|awp_seq<|sr<|s_q (.ptr 0 0 6) rfl trivial rfl<|s_q (.str a_1.Ref) rfl nle rfl<|s_q (.ptr 1 0 6) rfl trivial rfl<|s_q (.str b_2.Ref) rfl nle rfl<|s_q (.bool (!(a_1.Ref == b_2.Ref))) rfl trivial rfl<|dk<|?_
       rcases oi hf with ⟨c9,hf⟩ | ⟨c9,hf⟩
       ·refine w_condt rfl c9<|sr<|s_mov (.bool false) rfl<|dk<|w_ret<|?_;obtain rfl:=os hf;exact r_flat ⟨trivial,trivial⟩ rfl (.refl _)
       ·refine w_condf rfl (bf c9)<|w_skip<|k_seq<|awp_seq<|sr<|s_q (.ptr 0 0 7) rfl trivial rfl<|s_q (.bool a_1.Strong) rfl nle rfl<|s_q (.ptr 1 0 7) rfl trivial rfl<|s_q (.bool b_2.Strong) rfl nle rfl<|s_q (.bool (!(a_1.Strong == b_2.Strong))) rfl trivial rfl<|dk<|?_
        rcases oi hf with ⟨c10,hf⟩ | ⟨c10,hf⟩
        ·refine w_condt rfl c10<|sr<|s_mov (.bool false) rfl<|dk<|w_ret<|?_;obtain rfl:=os hf;exact r_flat ⟨trivial,trivial⟩ rfl (.refl _)
        ·refine w_condf rfl (bf c10)<|w_skip<|k_seq<|sr<|s_mov (.bool true) rfl<|dk<|w_ret<|?_;obtain rfl:=os hf;exact r_flat ⟨trivial,trivial⟩ rfl (.refl _)

/- laws.eqColumnS -/
def c97:ACode :=
 (.seq (.reg (tm 4 (.c (.bool false)) .done))
 (.seq (.seq (.reg (tm 6 (.t 0) (tq 7 (.len (.t 6)) (tm 8 (.t 1) (tq 9 (.len (.t 8)) (tq 10 (.bin .neq (.t 7) (.t 9)) .done))))))
 (.cond (.t 10) (.seq (.reg (tm 4 (.c (.bool false)) .done))
 .ret)
 .skip))
 (.seq (.seq (.reg (tm 5 (.c (.int .i64 0)) .done))
 (.block 0 (.loop (.seq (.seq (.reg (tm 11 (.t 5) (tm 12 (.t 0) (tq 13 (.len (.t 12)) (tq 14 (.bin .lss (.t 11) (.t 13)) .done)))))
 (.cond (.t 14) .skip
 (.exit 0)))
 (.seq (.block 1 (.seq (.reg (tm 17 (.t 0) (tm 18 (.t 5) (tq 19 (.iaddr 8 (.t 17) (.t 18)) (tq 20 (.load 8 true (.t 19)) (tm 21 (.t 1) (tm 22 (.t 5) (tq 23 (.iaddr 8 (.t 21) (.t 22)) (tq 24 (.load 8 true (.t 23)) (.l ⟨(some 25),none,.call 178 [(.t 20),(.t 24)]⟩ []
 (tq 26 (.not (.t 25)) .done) .non))))))))))
 (.cond (.t 26) (.seq (.reg (tm 4 (.c (.bool false)) .done))
 .ret)
 .skip)))
 (.reg (tm 15 (.t 5) (tq 16 (.bin .add (.t 15) (.c (.int .i64 1))) (tm 5 (.t 16) .done)))))))))
 (.cut (.seq (.reg (tm 4 (.c (.bool true)) .done))
 .ret)))))
theorem fc97:fcomp Tryz.prog Tryz.f97 = some (c97.erase,[.mov (.t 4)],27):=by kernel_rfl
def laws_eqColumnS_L1 (b_2:(List GColumn)):List GColumn → Nat → Option (Fl Bool Unit)
  | [],i_25 =>
    some (.go ())
  | x_43 :: xs,i_25 =>
    (idx b_2 (i_25:Int)).bind fun x_46 =>
    (laws_eqColumn x_43 x_46).bind fun r_48 =>
    if (!r_48) then
    some (.ret false)
    else
    laws_eqColumnS_L1 b_2 xs (i_25 + 1)

def laws_eqColumnS (a_1:(List GColumn)) (b_2:(List GColumn)):Option Bool :=
    if ((a_1.length:Int) != (b_2.length:Int)) then
    some false
    else
    (laws_eqColumnS_L1 b_2 a_1 0).bind fun q => (match q with
    | .ret r => some r
    | .go _ =>
    some true)
theorem w_laws_eqColumnS (a_1:(List GColumn)) (b_2:(List GColumn)) (r:Bool) (hf:laws_eqColumnS a_1 b_2 = some r):CallOK Tryz.prog 97 .flat [(.lst 8 (a_1.map encGColumn)),(.lst 8 (b_2.map encGColumn))] (.bool r):=by
 refine CallOK.of_awp mixed Tryz.func97 fc97 nle ?_;rw [argT_eq];unfold laws_eqColumnS at hf;unfold c97;refine (show awp Tryz.prog false 0 _ (ofL [(0,(.lst 8 (a_1.map encGColumn))),(1,(.lst 8 (b_2.map encGColumn)))]) [] _ from ?_);refine sr<|s_mov (.bool false) rfl<|dk<|awp_seq<|sr<|s_mov (.lst 8 (a_1.map encGColumn)) rfl<|s_dof (o_len (enc:=encGColumn) rfl) fun hl3 => s_mov (.lst 8 (b_2.map encGColumn)) rfl<|s_dof (o_len (enc:=encGColumn) rfl) fun hl4 => s_q (.bool ((a_1.length:Int) != (b_2.length:Int))) rfl rfl rfl<|dk<|?_
 rcases oi hf with ⟨c5,hf⟩ | ⟨c5,hf⟩
 ·refine w_condt rfl c5<|sr<|s_mov (.bool false) rfl<|dk<|w_ret<|?_;obtain rfl:=os hf;exact r_flat ⟨trivial,trivial⟩ rfl (.refl _)
 ·refine w_condf rfl (bf c5)<|w_skip<|k_seq<|awp_seq<|sr<|s_mov (.int .i64 0) rfl<|dk<|?_
  obtain ⟨p36,hb1,hf⟩:=ob hf
  refine awp_cutx (X:={q:Unit // p36 = .go q}) (fun q => ([],[])) ?_ ?_
  ·refine awp_loop (X:={q:Nat // laws_eqColumnS_L1 b_2 (a_1.drop q) q = some p36}) (fun q => ([(0,(.lst 8 (a_1.map encGColumn))),(1,(.lst 8 (b_2.map encGColumn))),(5,(.int .i64 (q.1:Int)))],[])) (fun q => a_1.length - q.1) ⟨0,hb1⟩ ⟨[],[],_,_,rfl,rfl,⟨.refl _,⟨.refl _,⟨.refl _,trivial⟩⟩⟩,(.refl _)⟩ ?_
   rintro ⟨i_25,hc1⟩
   have hc1:laws_eqColumnS_L1 b_2 (a_1.drop i_25) i_25 = some p36:=hc1
   refine (show awp Tryz.prog false 0 _ (ofL [(0,(.lst 8 (a_1.map encGColumn))),(1,(.lst 8 (b_2.map encGColumn))),(5,(.int .i64 (i_25:Int)))]) [] _ from ?_)
   rcases dropc a_1 i_25 with ⟨hie39,hd42⟩ | ⟨hlt37,x_43,hx38,hd42⟩
   ·rw [hd42,laws_eqColumnS_L1.eq_1] at hc1
    have hq41:=dlf hie39
    refine awp_seq<|sr<|s_mov (.int .i64 (i_25:Int)) rfl<|s_mov (.lst 8 (a_1.map encGColumn)) rfl<|s_dof (o_len (enc:=encGColumn) rfl) fun hl44 => s_q (.bool (decide ((i_25:Int) < (a_1.length:Int)))) rfl rfl rfl<|dk<|w_condf rfl hq41<|w_exit<|k_seqx<|k_loopx<|k_blkx<|?_;obtain rfl:=os hc1;exact k_cutn ⟨_,rfl⟩ ⟨[],[],_,_,rfl,rfl,trivial,(.refl _)⟩
   ·rw [hd42,laws_eqColumnS_L1.eq_2] at hc1
    have hq41:=dlt hlt37
    refine awp_seq<|sr<|s_mov (.int .i64 (i_25:Int)) rfl<|s_mov (.lst 8 (a_1.map encGColumn)) rfl<|s_dof (o_len (enc:=encGColumn) rfl) fun hl45 => s_q (.bool (decide ((i_25:Int) < (a_1.length:Int)))) rfl rfl rfl<|dk<|w_condt rfl hq41<|w_skip<|k_seq<|awp_seq<|w_blk<|sr<|?_
    obtain ⟨x_46,ex47,hc1⟩:=ob hc1
    obtain ⟨r_48,er49,hc1⟩:=ob hc1
    refine s_mov (.lst 8 (a_1.map encGColumn)) rfl<|s_mov (.int .i64 (i_25:Int)) rfl<|s_do (o_iaddrn (enc:=encGColumn) rfl rfl hx38)<|s_q (encGColumn x_43) rfl nle rfl<|s_mov (.lst 8 (b_2.map encGColumn)) rfl<|s_mov (.int .i64 (i_25:Int)) rfl<|s_do (o_iaddr (enc:=encGColumn) rfl rfl (idx0 ex47) (idx1 ex47))<|s_q (encGColumn x_46) rfl nle rfl<|s_dol (o_call (w_laws_eqColumn _ _ _ er49) rfl (.refl _) rfl) a_same trivial<|s_q (.bool (!r_48)) rfl trivial rfl<|dk<|?_
    rcases oi hc1 with ⟨c50,hc1⟩ | ⟨c50,hc1⟩
    ·refine w_condt rfl c50<|sr<|s_mov (.bool false) rfl<|dk<|w_ret<|?_;obtain rfl:=os hc1;obtain rfl:=os hf;exact r_flat ⟨trivial,trivial⟩ rfl (.refl _)
    ·refine w_condf rfl (bf c50)<|w_skip<|k_blk<|k_seq<|w_reg<|s_mov (.int .i64 (i_25:Int)) rfl<|s_q (.int .i64 (w64 ((i_25:Int) + 1))) rfl rfl rfl<|s_mov (.int .i64 (w64 ((i_25:Int) + 1))) rfl<|w_done<|?_;exact k_loopn ⟨(i_25 + 1),hc1⟩ (mul hlt37) ⟨[],[],_,_,rfl,rfl,⟨.refl _,⟨.refl _,⟨.of_eq (congrArg (AV.int _) (w64_incr hlt37 hl45)),trivial⟩⟩⟩,(.refl _)⟩
  ·rintro ⟨_,rfl⟩
   refine sr<|s_mov (.bool true) rfl<|dk<|w_ret<|?_;obtain rfl:=os hf;exact r_flat ⟨trivial,trivial⟩ rfl (.refl _)

/- laws.eqIntS -/
def c17:ACode :=
 (.seq (.reg (tm 4 (.c (.bool false)) .done))
 (.seq (.seq (.reg (tm 6 (.t 0) (tq 7 (.len (.t 6)) (tm 8 (.t 1) (tq 9 (.len (.t 8)) (tq 10 (.bin .neq (.t 7) (.t 9)) .done))))))
 (.cond (.t 10) (.seq (.reg (tm 4 (.c (.bool false)) .done))
 .ret)
 .skip))
 (.seq (.seq (.reg (tm 5 (.c (.int .i64 0)) .done))
 (.block 0 (.loop (.seq (.seq (.reg (tm 11 (.t 5) (tm 12 (.t 0) (tq 13 (.len (.t 12)) (tq 14 (.bin .lss (.t 11) (.t 13)) .done)))))
 (.cond (.t 14) .skip
 (.exit 0)))
 (.seq (.block 1 (.seq (.reg (tm 17 (.t 0) (tm 18 (.t 5) (tq 19 (.iaddr 1 (.t 17) (.t 18)) (tq 20 (.load 1 false (.t 19)) (tm 21 (.t 1) (tm 22 (.t 5) (tq 23 (.iaddr 1 (.t 21) (.t 22)) (tq 24 (.load 1 false (.t 23)) (tq 25 (.bin .neq (.t 20) (.t 24)) .done))))))))))
 (.cond (.t 25) (.seq (.reg (tm 4 (.c (.bool false)) .done))
 .ret)
 .skip)))
 (.reg (tm 15 (.t 5) (tq 16 (.bin .add (.t 15) (.c (.int .i64 1))) (tm 5 (.t 16) .done)))))))))
 (.cut (.seq (.reg (tm 4 (.c (.bool true)) .done))
 .ret)))))
theorem fc17:fcomp Tryz.prog Tryz.f17 = some (c17.erase,[.mov (.t 4)],26):=by kernel_rfl
def laws_eqIntS_L1 (b_2:(List Int)):List Int → Nat → Option (Fl Bool Unit)
  | [],i_21 =>
    some (.go ())
  | x_37 :: xs,i_21 =>
    (idx b_2 (i_21:Int)).bind fun x_40 =>
    if (x_37 != x_40) then
    some (.ret false)
    else
    laws_eqIntS_L1 b_2 xs (i_21 + 1)

def laws_eqIntS (a_1:(List Int)) (b_2:(List Int)):Option Bool :=
    if ((a_1.length:Int) != (b_2.length:Int)) then
    some false
    else
    (laws_eqIntS_L1 b_2 a_1 0).bind fun q => (match q with
    | .ret r => some r
    | .go _ =>
    some true)
theorem w_laws_eqIntS (a_1:(List Int)) (b_2:(List Int)) (r:Bool) (hf:laws_eqIntS a_1 b_2 = some r):CallOK Tryz.prog 17 .flat [(.lst 1 (a_1.map encI)),(.lst 1 (b_2.map encI))] (.bool r):=by
 refine CallOK.of_awp mixed Tryz.func17 fc17 nle ?_;rw [argT_eq];unfold laws_eqIntS at hf;unfold c17;refine (show awp Tryz.prog false 0 _ (ofL [(0,(.lst 1 (a_1.map encI))),(1,(.lst 1 (b_2.map encI)))]) [] _ from ?_);refine sr<|s_mov (.bool false) rfl<|dk<|awp_seq<|sr<|s_mov (.lst 1 (a_1.map encI)) rfl<|s_dof (o_len (enc:=encI) rfl) fun hl3 => s_mov (.lst 1 (b_2.map encI)) rfl<|s_dof (o_len (enc:=encI) rfl) fun hl4 => s_q (.bool ((a_1.length:Int) != (b_2.length:Int))) rfl rfl rfl<|dk<|?_
 rcases oi hf with ⟨c5,hf⟩ | ⟨c5,hf⟩
 ·refine w_condt rfl c5<|sr<|s_mov (.bool false) rfl<|dk<|w_ret<|?_;obtain rfl:=os hf;exact r_flat ⟨trivial,trivial⟩ rfl (.refl _)
 ·refine w_condf rfl (bf c5)<|w_skip<|k_seq<|awp_seq<|sr<|s_mov (.int .i64 0) rfl<|dk<|?_
  obtain ⟨p30,hb1,hf⟩:=ob hf
  refine awp_cutx (X:={q:Unit // p30 = .go q}) (fun q => ([],[])) ?_ ?_
  ·refine awp_loop (X:={q:Nat // laws_eqIntS_L1 b_2 (a_1.drop q) q = some p30}) (fun q => ([(0,(.lst 1 (a_1.map encI))),(1,(.lst 1 (b_2.map encI))),(5,(.int .i64 (q.1:Int)))],[])) (fun q => a_1.length - q.1) ⟨0,hb1⟩ ⟨[],[],_,_,rfl,rfl,⟨.refl _,⟨.refl _,⟨.refl _,trivial⟩⟩⟩,(.refl _)⟩ ?_
   rintro ⟨i_21,hc1⟩
   have hc1:laws_eqIntS_L1 b_2 (a_1.drop i_21) i_21 = some p30:=hc1
   refine (show awp Tryz.prog false 0 _ (ofL [(0,(.lst 1 (a_1.map encI))),(1,(.lst 1 (b_2.map encI))),(5,(.int .i64 (i_21:Int)))]) [] _ from ?_)
   rcases dropc a_1 i_21 with ⟨hie33,hd36⟩ | ⟨hlt31,x_37,hx32,hd36⟩
   ·rw [hd36,laws_eqIntS_L1.eq_1] at hc1
    have hq35:=dlf hie33
    refine awp_seq<|sr<|s_mov (.int .i64 (i_21:Int)) rfl<|s_mov (.lst 1 (a_1.map encI)) rfl<|s_dof (o_len (enc:=encI) rfl) fun hl38 => s_q (.bool (decide ((i_21:Int) < (a_1.length:Int)))) rfl rfl rfl<|dk<|w_condf rfl hq35<|w_exit<|k_seqx<|k_loopx<|k_blkx<|?_;obtain rfl:=os hc1;exact k_cutn ⟨_,rfl⟩ ⟨[],[],_,_,rfl,rfl,trivial,(.refl _)⟩
   ·rw [hd36,laws_eqIntS_L1.eq_2] at hc1
    have hq35:=dlt hlt31
    refine awp_seq<|sr<|s_mov (.int .i64 (i_21:Int)) rfl<|s_mov (.lst 1 (a_1.map encI)) rfl<|s_dof (o_len (enc:=encI) rfl) fun hl39 => s_q (.bool (decide ((i_21:Int) < (a_1.length:Int)))) rfl rfl rfl<|dk<|w_condt rfl hq35<|w_skip<|k_seq<|awp_seq<|w_blk<|sr<|?_
    obtain ⟨x_40,ex41,hc1⟩:=ob hc1
    refine s_mov (.lst 1 (a_1.map encI)) rfl<|s_mov (.int .i64 (i_21:Int)) rfl<|s_do (o_iaddrn (enc:=encI) rfl rfl hx32)<|s_q (.int .i64 x_37) rfl ⟨rfl,rfl⟩ rfl<|s_mov (.lst 1 (b_2.map encI)) rfl<|s_mov (.int .i64 (i_21:Int)) rfl<|s_do (o_iaddr (enc:=encI) rfl rfl (idx0 ex41) (idx1 ex41))<|s_q (.int .i64 x_40) rfl ⟨rfl,rfl⟩ rfl<|s_q (.bool (x_37 != x_40)) rfl rfl rfl<|dk<|?_
    rcases oi hc1 with ⟨c42,hc1⟩ | ⟨c42,hc1⟩
    ·refine w_condt rfl c42<|sr<|s_mov (.bool false) rfl<|dk<|w_ret<|?_;obtain rfl:=os hc1;obtain rfl:=os hf;exact r_flat ⟨trivial,trivial⟩ rfl (.refl _)
    ·refine w_condf rfl (bf c42)<|w_skip<|k_blk<|k_seq<|w_reg<|s_mov (.int .i64 (i_21:Int)) rfl<|s_q (.int .i64 (w64 ((i_21:Int) + 1))) rfl rfl rfl<|s_mov (.int .i64 (w64 ((i_21:Int) + 1))) rfl<|w_done<|?_;exact k_loopn ⟨(i_21 + 1),hc1⟩ (mul hlt31) ⟨[],[],_,_,rfl,rfl,⟨.refl _,⟨.refl _,⟨.of_eq (congrArg (AV.int _) (w64_incr hlt31 hl39)),trivial⟩⟩⟩,(.refl _)⟩
  ·rintro ⟨_,rfl⟩
   refine sr<|s_mov (.bool true) rfl<|dk<|w_ret<|?_;obtain rfl:=os hf;exact r_flat ⟨trivial,trivial⟩ rfl (.refl _)

/- laws.eqTable -/
def c31:ACode :=
 (.seq (.reg (tq 2 (.box 4 (.t 0)) (tq 3 (.box 4 (.t 1)) (tm 4 (.c (.bool false)) .done))))
 (.seq (.seq (.reg (tq 5 (.faddr 0 (.t 2)) (tq 6 (.load 1 false (.t 5)) (tq 7 (.faddr 0 (.t 3)) (tq 8 (.load 1 false (.t 7)) (tq 9 (.bin .neq (.t 6) (.t 8)) .done))))))
 (.cond (.t 9) (.seq (.reg (tm 4 (.c (.bool false)) .done))
 .ret)
 .skip))
 (.seq (.seq (.reg (tq 10 (.faddr 1 (.t 2)) (tq 11 (.load 1 false (.t 10)) (tq 12 (.faddr 1 (.t 3)) (tq 13 (.load 1 false (.t 12)) (tq 14 (.call 97 [(.t 11),(.t 13)]) (tq 15 (.not (.t 14)) .done)))))))
 (.cond (.t 15) (.seq (.reg (tm 4 (.c (.bool false)) .done))
 .ret)
 .skip))
 (.seq (.seq (.reg (tq 16 (.faddr 2 (.t 2)) (tq 17 (.load 1 false (.t 16)) (tq 18 (.faddr 2 (.t 3)) (tq 19 (.load 1 false (.t 18)) (tq 20 (.call 17 [(.t 17),(.t 19)]) (tq 21 (.not (.t 20)) .done)))))))
 (.cond (.t 21) (.seq (.reg (tm 4 (.c (.bool false)) .done))
 .ret)
 .skip))
 (.seq (.seq (.reg (tq 22 (.faddr 3 (.t 2)) (tq 23 (.load 1 false (.t 22)) (tq 24 (.faddr 3 (.t 3)) (tq 25 (.load 1 false (.t 24)) (tq 26 (.eqB true (.t 23) (.t 25)) .done))))))
 (.cond (.t 26) (.seq (.reg (tm 4 (.c (.bool false)) .done))
 .ret)
 .skip))
 (.seq (.reg (tm 4 (.c (.bool true)) .done))
 .ret))))))
theorem fc31:fcomp Tryz.prog Tryz.f31 = some (c31.erase,[.mov (.t 4)],27):=by kernel_rfl
def laws_eqTable (a_1:GTable) (b_2:GTable):Option Bool :=
    if (!(a_1.Name == b_2.Name)) then
    some false
    else
    (laws_eqColumnS a_1.Columns b_2.Columns).bind fun r_4 =>
    if (!r_4) then
    some false
    else
    (laws_eqIntS a_1.Unique b_2.Unique).bind fun r_7 =>
    if (!r_7) then
    some false
    else
    if (!(a_1.Root == b_2.Root)) then
    some false
    else
    some true
theorem w_laws_eqTable (a_1:GTable) (b_2:GTable) (r:Bool) (hf:laws_eqTable a_1 b_2 = some r):CallOK Tryz.prog 31 .flat [(encGTable a_1),(encGTable b_2)] (.bool r):=by
 refine CallOK.of_awp mixed Tryz.func31 fc31 nle ?_;rw [argT_eq];unfold laws_eqTable at hf;unfold c31;refine (show awp Tryz.prog false 0 _ (ofL [(0,(encGTable a_1)),(1,(encGTable b_2))]) [] _ from ?_);refine sr<|s_do (o_box (j:=0) (c:=(.agg [(.str a_1.Name),(.lst 8 (a_1.Columns.map encGColumn)),(.lst 1 (a_1.Unique.map encI)),(.bool a_1.Root)])) rfl trivial rfl rfl)<|s_do (o_box (j:=1) (c:=(.agg [(.str b_2.Name),(.lst 8 (b_2.Columns.map encGColumn)),(.lst 1 (b_2.Unique.map encI)),(.bool b_2.Root)])) rfl trivial rfl rfl)<|s_mov (.bool false) rfl<|dk<|awp_seq<|sr<|s_q (.ptr 0 0 0) rfl trivial rfl<|s_q (.str a_1.Name) rfl nle rfl<|s_q (.ptr 1 0 0) rfl trivial rfl<|?_
 refine s_q (.str b_2.Name) rfl nle rfl<|s_q (.bool (!(a_1.Name == b_2.Name))) rfl trivial rfl<|dk<|?_
 rcases oi hf with ⟨c3,hf⟩ | ⟨c3,hf⟩
 ·refine w_condt rfl c3<|sr<|s_mov (.bool false) rfl<|dk<|w_ret<|?_;obtain rfl:=os hf;exact r_flat ⟨trivial,trivial⟩ rfl (.refl _)
 ·refine w_condf rfl (bf c3)<|w_skip<|k_seq<|awp_seq<|sr<|?_
  obtain ⟨r_4,er5,hf⟩:=ob hf
  refine s_q (.ptr 0 0 1) rfl trivial rfl<|s_q (.lst 8 (a_1.Columns.map encGColumn)) rfl nle rfl<|s_q (.ptr 1 0 1) rfl trivial rfl<|s_q (.lst 8 (b_2.Columns.map encGColumn)) rfl nle rfl<|s_do (o_call (w_laws_eqColumnS _ _ _ er5) rfl (.refl _) rfl)<|s_q (.bool (!r_4)) rfl trivial rfl<|dk<|?_
  rcases oi hf with ⟨c6,hf⟩ | ⟨c6,hf⟩
  ·refine w_condt rfl c6<|sr<|s_mov (.bool false) rfl<|dk<|w_ret<|?_;obtain rfl:=os hf;exact r_flat ⟨trivial,trivial⟩ rfl (.refl _)
  ·refine w_condf rfl (bf c6)<|w_skip<|k_seq<|awp_seq<|sr<|?_
   obtain ⟨r_7,er8,hf⟩:=ob hf
   refine s_q (.ptr 0 0 2) rfl trivial rfl<|s_q (.lst 1 (a_1.Unique.map encI)) rfl nle rfl<|s_q (.ptr 1 0 2) rfl trivial rfl<|s_q (.lst 1 (b_2.Unique.map encI)) rfl nle rfl<|s_do (o_call (w_laws_eqIntS _ _ _ er8) rfl (.refl _) rfl)<|s_q (.bool (!r_7)) rfl trivial rfl<|dk<|?_
   rcases oi hf with ⟨c9,hf⟩ | ⟨c9,hf⟩
   ·refine w_condt rfl c9<|sr<|s_mov (.bool false) rfl<|dk<|w_ret<|?_;obtain rfl:=os hf;exact r_flat ⟨trivial,trivial⟩ rfl (.refl _)
   ·refine w_condf rfl (bf c9)<|w_skip<|k_seq<|awp_seq<|sr<|s_q (.ptr 0 0 3) rfl trivial rfl<|s_q (.bool a_1.Root) rfl nle rfl<|s_q (.ptr 1 0 3) rfl trivial rfl<|s_q (.bool b_2.Root) rfl nle rfl<|s_q (.bool (!(a_1.Root == b_2.Root))) rfl trivial rfl<|dk<|?_
    rcases oi hf with ⟨c10,hf⟩ | ⟨c10,hf⟩
    ·refine w_condt rfl c10<|sr<|s_mov (.bool false) rfl<|dk<|w_ret<|?_;obtain rfl:=os hf;exact r_flat ⟨trivial,trivial⟩ rfl (.refl _)
    ·refine w_condf rfl (bf c10)<|w_skip<|k_seq<|sr<|s_mov (.bool true) rfl<|dk<|w_ret<|?_;obtain rfl:=os hf;exact r_flat ⟨trivial,trivial⟩ rfl (.refl _)

/- laws.eqStringS -/
def c160:ACode :=
 (.seq (.reg (tm 4 (.c (.bool false)) .done))
 (.seq (.seq (.reg (tm 6 (.t 0) (tq 7 (.len (.t 6)) (tm 8 (.t 1) (tq 9 (.len (.t 8)) (tq 10 (.bin .neq (.t 7) (.t 9)) .done))))))
 (.cond (.t 10) (.seq (.reg (tm 4 (.c (.bool false)) .done))
 .ret)
 .skip))
 (.seq (.seq (.reg (tm 5 (.c (.int .i64 0)) .done))
 (.block 0 (.loop (.seq (.seq (.reg (tm 11 (.t 5) (tm 12 (.t 0) (tq 13 (.len (.t 12)) (tq 14 (.bin .lss (.t 11) (.t 13)) .done)))))
 (.cond (.t 14) .skip
 (.exit 0)))
 (.seq (.block 1 (.seq (.reg (tm 17 (.t 0) (tm 18 (.t 5) (tq 19 (.iaddr 1 (.t 17) (.t 18)) (tq 20 (.load 1 false (.t 19)) (tm 21 (.t 1) (tm 22 (.t 5) (tq 23 (.iaddr 1 (.t 21) (.t 22)) (tq 24 (.load 1 false (.t 23)) (tq 25 (.bin .neq (.t 20) (.t 24)) .done))))))))))
 (.cond (.t 25) (.seq (.reg (tm 4 (.c (.bool false)) .done))
 .ret)
 .skip)))
 (.reg (tm 15 (.t 5) (tq 16 (.bin .add (.t 15) (.c (.int .i64 1))) (tm 5 (.t 16) .done)))))))))
 (.cut (.seq (.reg (tm 4 (.c (.bool true)) .done))
 .ret)))))
theorem fc160:fcomp Tryz.prog Tryz.f160 = some (c160.erase,[.mov (.t 4)],26):=by kernel_rfl
def laws_eqStringS_L1 (b_2:(List Str)):List Str → Nat → Option (Fl Bool Unit)
  | [],i_21 =>
    some (.go ())
  | x_37 :: xs,i_21 =>
    (idx b_2 (i_21:Int)).bind fun x_40 =>
    if (!(x_37 == x_40)) then
    some (.ret false)
    else
    laws_eqStringS_L1 b_2 xs (i_21 + 1)

def laws_eqStringS (a_1:(List Str)) (b_2:(List Str)):Option Bool :=
    if ((a_1.length:Int) != (b_2.length:Int)) then
    some false
    else
    (laws_eqStringS_L1 b_2 a_1 0).bind fun q => (match q with
    | .ret r => some r
    | .go _ =>
    some true)
theorem w_laws_eqStringS (a_1:(List Str)) (b_2:(List Str)) (r:Bool) (hf:laws_eqStringS a_1 b_2 = some r):CallOK Tryz.prog 160 .flat [(.lst 1 (a_1.map AV.str)),(.lst 1 (b_2.map AV.str))] (.bool r):=by
 refine CallOK.of_awp mixed Tryz.func160 fc160 nle ?_;rw [argT_eq];unfold laws_eqStringS at hf;unfold c160;refine (show awp Tryz.prog false 0 _ (ofL [(0,(.lst 1 (a_1.map AV.str))),(1,(.lst 1 (b_2.map AV.str)))]) [] _ from ?_);refine sr<|s_mov (.bool false) rfl<|dk<|awp_seq<|sr<|s_mov (.lst 1 (a_1.map AV.str)) rfl<|s_dof (o_len (enc:=AV.str) rfl) fun hl3 => s_mov (.lst 1 (b_2.map AV.str)) rfl<|s_dof (o_len (enc:=AV.str) rfl) fun hl4 => s_q (.bool ((a_1.length:Int) != (b_2.length:Int))) rfl rfl rfl<|dk<|?_
 rcases oi hf with ⟨c5,hf⟩ | ⟨c5,hf⟩
 ·refine w_condt rfl c5<|sr<|s_mov (.bool false) rfl<|dk<|w_ret<|?_;obtain rfl:=os hf;exact r_flat ⟨trivial,trivial⟩ rfl (.refl _)
 ·refine w_condf rfl (bf c5)<|w_skip<|k_seq<|awp_seq<|sr<|s_mov (.int .i64 0) rfl<|dk<|?_
  obtain ⟨p30,hb1,hf⟩:=ob hf
  refine awp_cutx (X:={q:Unit // p30 = .go q}) (fun q => ([],[])) ?_ ?_
  ·refine awp_loop (X:={q:Nat // laws_eqStringS_L1 b_2 (a_1.drop q) q = some p30}) (fun q => ([(0,(.lst 1 (a_1.map AV.str))),(1,(.lst 1 (b_2.map AV.str))),(5,(.int .i64 (q.1:Int)))],[])) (fun q => a_1.length - q.1) ⟨0,hb1⟩ ⟨[],[],_,_,rfl,rfl,⟨.refl _,⟨.refl _,⟨.refl _,trivial⟩⟩⟩,(.refl _)⟩ ?_
   rintro ⟨i_21,hc1⟩
   have hc1:laws_eqStringS_L1 b_2 (a_1.drop i_21) i_21 = some p30:=hc1
   refine (show awp Tryz.prog false 0 _ (ofL [(0,(.lst 1 (a_1.map AV.str))),(1,(.lst 1 (b_2.map AV.str))),(5,(.int .i64 (i_21:Int)))]) [] _ from ?_)
   rcases dropc a_1 i_21 with ⟨hie33,hd36⟩ | ⟨hlt31,x_37,hx32,hd36⟩
   ·rw [hd36,laws_eqStringS_L1.eq_1] at hc1
    have hq35:=dlf hie33
    refine awp_seq<|sr<|s_mov (.int .i64 (i_21:Int)) rfl<|s_mov (.lst 1 (a_1.map AV.str)) rfl<|s_dof (o_len (enc:=AV.str) rfl) fun hl38 => s_q (.bool (decide ((i_21:Int) < (a_1.length:Int)))) rfl rfl rfl<|dk<|w_condf rfl hq35<|w_exit<|k_seqx<|k_loopx<|k_blkx<|?_;obtain rfl:=os hc1;exact k_cutn ⟨_,rfl⟩ ⟨[],[],_,_,rfl,rfl,trivial,(.refl _)⟩
   ·rw [hd36,laws_eqStringS_L1.eq_2] at hc1
    have hq35:=dlt hlt31
    refine awp_seq<|sr<|s_mov (.int .i64 (i_21:Int)) rfl<|s_mov (.lst 1 (a_1.map AV.str)) rfl<|s_dof (o_len (enc:=AV.str) rfl) fun hl39 => s_q (.bool (decide ((i_21:Int) < (a_1.length:Int)))) rfl rfl rfl<|dk<|w_condt rfl hq35<|w_skip<|k_seq<|awp_seq<|w_blk<|sr<|?_
    obtain ⟨x_40,ex41,hc1⟩:=ob hc1
    refine s_mov (.lst 1 (a_1.map AV.str)) rfl<|s_mov (.int .i64 (i_21:Int)) rfl<|s_do (o_iaddrn (enc:=AV.str) rfl rfl hx32)<|s_q (.str x_37) rfl ⟨rfl,rfl⟩ rfl<|s_mov (.lst 1 (b_2.map AV.str)) rfl<|s_mov (.int .i64 (i_21:Int)) rfl<|s_do (o_iaddr (enc:=AV.str) rfl rfl (idx0 ex41) (idx1 ex41))<|s_q (.str x_40) rfl ⟨rfl,rfl⟩ rfl<|s_q (.bool (!(x_37 == x_40))) rfl trivial rfl<|dk<|?_
    rcases oi hc1 with ⟨c42,hc1⟩ | ⟨c42,hc1⟩
    ·refine w_condt rfl c42<|sr<|s_mov (.bool false) rfl<|dk<|w_ret<|?_;obtain rfl:=os hc1;obtain rfl:=os hf;exact r_flat ⟨trivial,trivial⟩ rfl (.refl _)
    ·refine w_condf rfl (bf c42)<|w_skip<|k_blk<|k_seq<|w_reg<|s_mov (.int .i64 (i_21:Int)) rfl<|s_q (.int .i64 (w64 ((i_21:Int) + 1))) rfl rfl rfl<|s_mov (.int .i64 (w64 ((i_21:Int) + 1))) rfl<|w_done<|?_;exact k_loopn ⟨(i_21 + 1),hc1⟩ (mul hlt31) ⟨[],[],_,_,rfl,rfl,⟨.refl _,⟨.refl _,⟨.of_eq (congrArg (AV.int _) (w64_incr hlt31 hl39)),trivial⟩⟩⟩,(.refl _)⟩
  ·rintro ⟨_,rfl⟩
   refine sr<|s_mov (.bool true) rfl<|dk<|w_ret<|?_;obtain rfl:=os hf;exact r_flat ⟨trivial,trivial⟩ rfl (.refl _)

/- laws.eqSet -/
def c98:ACode :=
 (.seq (.reg (tq 2 (.box 3 (.t 0)) (tq 3 (.box 3 (.t 1)) (tm 4 (.c (.bool false)) .done))))
 (.seq (.seq (.reg (tq 5 (.faddr 0 (.t 2)) (tq 6 (.load 1 false (.t 5)) (tq 7 (.faddr 0 (.t 3)) (tq 8 (.load 1 false (.t 7)) (tq 9 (.bin .neq (.t 6) (.t 8)) .done))))))
 (.cond (.t 9) (.seq (.reg (tm 4 (.c (.bool false)) .done))
 .ret)
 .skip))
 (.seq (.seq (.reg (tq 10 (.faddr 1 (.t 2)) (tq 11 (.load 1 false (.t 10)) (tq 12 (.faddr 1 (.t 3)) (tq 13 (.load 1 false (.t 12)) (tq 14 (.call 177 [(.t 11),(.t 13)]) (tq 15 (.not (.t 14)) .done)))))))
 (.cond (.t 15) (.seq (.reg (tm 4 (.c (.bool false)) .done))
 .ret)
 .skip))
 (.seq (.seq (.reg (tq 16 (.faddr 2 (.t 2)) (tq 17 (.load 1 false (.t 16)) (tq 18 (.faddr 2 (.t 3)) (tq 19 (.load 1 false (.t 18)) (tq 20 (.call 160 [(.t 17),(.t 19)]) (tq 21 (.not (.t 20)) .done)))))))
 (.cond (.t 21) (.seq (.reg (tm 4 (.c (.bool false)) .done))
 .ret)
 .skip))
 (.seq (.reg (tm 4 (.c (.bool true)) .done))
 .ret)))))
theorem fc98:fcomp Tryz.prog Tryz.f98 = some (c98.erase,[.mov (.t 4)],22):=by kernel_rfl
def laws_eqSet (a_1:GSet) (b_2:GSet):Option Bool :=
    if (!(a_1.Column == b_2.Column)) then
    some false
    else
    (laws_eqAtomS a_1.Value b_2.Value).bind fun r_4 =>
    if (!r_4) then
    some false
    else
    (laws_eqStringS a_1.Names b_2.Names).bind fun r_7 =>
    if (!r_7) then
    some false
    else
    some true
theorem w_laws_eqSet (a_1:GSet) (b_2:GSet) (r:Bool) (hf:laws_eqSet a_1 b_2 = some r):CallOK Tryz.prog 98 .flat [(encGSet a_1),(encGSet b_2)] (.bool r):=by
 refine CallOK.of_awp mixed Tryz.func98 fc98 nle ?_;rw [argT_eq];unfold laws_eqSet at hf;unfold c98;refine (show awp Tryz.prog false 0 _ (ofL [(0,(encGSet a_1)),(1,(encGSet b_2))]) [] _ from ?_);refine sr<|s_do (o_box (j:=0) (c:=(.agg [(.str a_1.Column),(.lst 3 (a_1.Value.map encGAtom)),(.lst 1 (a_1.Names.map AV.str))])) rfl trivial rfl rfl)<|s_do (o_box (j:=1) (c:=(.agg [(.str b_2.Column),(.lst 3 (b_2.Value.map encGAtom)),(.lst 1 (b_2.Names.map AV.str))])) rfl trivial rfl rfl)<|s_mov (.bool false) rfl<|dk<|awp_seq<|sr<|s_q (.ptr 0 0 0) rfl trivial rfl<|s_q (.str a_1.Column) rfl nle rfl<|s_q (.ptr 1 0 0) rfl trivial rfl<|s_q (.str b_2.Column) rfl nle rfl<|?_
 refine s_q (.bool (!(a_1.Column == b_2.Column))) rfl trivial rfl<|dk<|?_
 rcases oi hf with ⟨c3,hf⟩ | ⟨c3,hf⟩
 ·refine w_condt rfl c3<|sr<|s_mov (.bool false) rfl<|dk<|w_ret<|?_;obtain rfl:=os hf;exact r_flat ⟨trivial,trivial⟩ rfl (.refl _)
 ·refine w_condf rfl (bf c3)<|w_skip<|k_seq<|awp_seq<|sr<|?_
  obtain ⟨r_4,er5,hf⟩:=ob hf
  refine s_q (.ptr 0 0 1) rfl trivial rfl<|s_q (.lst 3 (a_1.Value.map encGAtom)) rfl nle rfl<|s_q (.ptr 1 0 1) rfl trivial rfl<|s_q (.lst 3 (b_2.Value.map encGAtom)) rfl nle rfl<|s_do (o_call (w_laws_eqAtomS _ _ _ er5) rfl (.refl _) rfl)<|s_q (.bool (!r_4)) rfl trivial rfl<|dk<|?_
  rcases oi hf with ⟨c6,hf⟩ | ⟨c6,hf⟩
  ·refine w_condt rfl c6<|sr<|s_mov (.bool false) rfl<|dk<|w_ret<|?_;obtain rfl:=os hf;exact r_flat ⟨trivial,trivial⟩ rfl (.refl _)
  ·refine w_condf rfl (bf c6)<|w_skip<|k_seq<|awp_seq<|sr<|?_
   obtain ⟨r_7,er8,hf⟩:=ob hf
   refine s_q (.ptr 0 0 2) rfl trivial rfl<|s_q (.lst 1 (a_1.Names.map AV.str)) rfl nle rfl<|s_q (.ptr 1 0 2) rfl trivial rfl<|s_q (.lst 1 (b_2.Names.map AV.str)) rfl nle rfl<|s_do (o_call (w_laws_eqStringS _ _ _ er8) rfl (.refl _) rfl)<|s_q (.bool (!r_7)) rfl trivial rfl<|dk<|?_
   rcases oi hf with ⟨c9,hf⟩ | ⟨c9,hf⟩
   ·refine w_condt rfl c9<|sr<|s_mov (.bool false) rfl<|dk<|w_ret<|?_;obtain rfl:=os hf;exact r_flat ⟨trivial,trivial⟩ rfl (.refl _)
   ·refine w_condf rfl (bf c9)<|w_skip<|k_seq<|sr<|s_mov (.bool true) rfl<|dk<|w_ret<|?_;obtain rfl:=os hf;exact r_flat ⟨trivial,trivial⟩ rfl (.refl _)

end Go.R
