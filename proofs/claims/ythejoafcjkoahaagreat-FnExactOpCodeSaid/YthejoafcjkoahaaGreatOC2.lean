/- Walks. -/
import Derived.Test.YthejoafcjkoahaaGreatOC1
set_option linter.all false
namespace Go.R
open Go Go.Proofs
set_option linter.unusedVariables false
set_option linter.unusedSimpArgs false
set_option maxHeartbeats 8000000
/- spec.ColumnOK -/
def c103:ACode :=
 (.seq (.reg (tq 1 (.box 8 (.t 0)) (tm 2 (.c (.bool false)) .done)))
 (.seq (.seq (.reg (tq 3 (.faddr 0 (.t 1)) (tq 4 (.load 1 false (.t 3)) (tq 5 (.call 72 [(.t 4)]) (tq 6 (.not (.t 5)) (tm 7 (.t 6) (tg 8 7 false (.faddr 1 (.t 1)) (tg 9 7 false (.load 1 false (.t 8)) (tg 10 7 false (.call 48 [(.t 9),(.c (.int .i64 1)),(.c (.int .i64 4))]) (tg 11 7 false (.not (.t 10)) (tq 12 (.pick (.t 7) (.c (.bool true)) (.t 11)) (tm 13 (.t 12) (tg 14 13 false (.faddr 2 (.t 1)) (tg 15 13 false (.load 1 false (.t 14)) (tg 16 13 false (.call 48 [(.t 15),(.c (.int .i64 0)),(.c (.int .i64 1))]) (tg 17 13 false (.not (.t 16)) (tq 18 (.pick (.t 13) (.c (.bool true)) (.t 17)) (tm 19 (.t 18) (tg 20 19 false (.faddr 3 (.t 1)) (tg 21 19 false (.load 1 false (.t 20)) (tg 22 19 false (.call 48 [(.t 21),(.c (.int .i64 1)),(.c (.int .i64 8))]) (tg 23 19 false (.not (.t 22)) (tq 24 (.pick (.t 19) (.c (.bool true)) (.t 23)) .done)))))))))))))))))))))))
 (.cut (.cond (.t 24) (.seq (.reg (tm 2 (.c (.bool false)) .done))
 .ret)
 .skip)))
 (.seq (.seq (.reg (tq 25 (.faddr 1 (.t 1)) (tq 26 (.load 1 false (.t 25)) (tq 27 (.bin .eql (.t 26) (.c (.int .i64 1))) .done))))
 (.cond (.t 27) (.seq (.reg (tq 28 (.faddr 4 (.t 1)) (tq 29 (.load 1 false (.t 28)) (tq 30 (.faddr 5 (.t 1)) (tq 31 (.load 1 false (.t 30)) (tq 32 (.call 48 [(.t 29),(.c (.int .i64 (-1000000000))),(.t 31)]) (tm 33 (.t 32) (tg 34 33 true (.faddr 5 (.t 1)) (tg 35 33 true (.load 1 false (.t 34)) (tg 36 33 true (.faddr 4 (.t 1)) (tg 37 33 true (.load 1 false (.t 36)) (tg 38 33 true (.call 48 [(.t 35),(.t 37),(.c (.int .i64 1000000000))]) (tq 39 (.pick (.t 33) (.t 38) (.c (.bool false))) (tm 40 (.t 39) (tg 41 40 true (.faddr 6 (.t 1)) (tg 42 40 true (.load 1 false (.t 41)) (tg 43 40 true (.bin .eql (.t 42) (.c (.str []))) (tq 44 (.pick (.t 40) (.t 43) (.c (.bool false))) (tm 45 (.t 44) (tg 46 45 true (.faddr 7 (.t 1)) (tg 47 45 true (.load 1 false (.t 46)) (tg 48 45 true (.not (.t 47)) (tq 49 (.pick (.t 45) (.t 48) (.c (.bool false))) (tm 2 (.t 49) .done))))))))))))))))))))))))
 .ret)
 .skip))
 (.seq (.seq (.reg (tq 50 (.faddr 4 (.t 1)) (tq 51 (.load 1 false (.t 50)) (tq 52 (.bin .neq (.t 51) (.c (.int .i64 0))) (tm 53 (.t 52) (tg 54 53 false (.faddr 5 (.t 1)) (tg 55 53 false (.load 1 false (.t 54)) (tg 56 53 false (.bin .neq (.t 55) (.c (.int .i64 0))) (tq 57 (.pick (.t 53) (.c (.bool true)) (.t 56)) .done)))))))))
 (.cut (.cond (.t 57) (.seq (.reg (tm 2 (.c (.bool false)) .done))
 .ret)
 .skip)))
 (.seq (.seq (.reg (tq 58 (.faddr 1 (.t 1)) (tq 59 (.load 1 false (.t 58)) (tq 60 (.bin .eql (.t 59) (.c (.int .i64 4))) .done))))
 (.cond (.t 60) (.seq (.reg (tq 61 (.faddr 6 (.t 1)) (tq 62 (.load 1 false (.t 61)) (tq 63 (.call 72 [(.t 62)]) (tm 64 (.t 63) (tg 65 64 true (.faddr 2 (.t 1)) (tg 66 64 true (.load 1 false (.t 65)) (tg 67 64 true (.bin .eql (.t 66) (.c (.int .i64 0))) (tq 68 (.pick (.t 64) (.t 67) (.c (.bool false))) (tm 2 (.t 68) .done))))))))))
 .ret)
 .skip))
 (.seq (.reg (tq 69 (.faddr 6 (.t 1)) (tq 70 (.load 1 false (.t 69)) (tq 71 (.bin .eql (.t 70) (.c (.str []))) (tm 72 (.t 71) (tg 73 72 true (.faddr 7 (.t 1)) (tg 74 72 true (.load 1 false (.t 73)) (tg 75 72 true (.not (.t 74)) (tq 76 (.pick (.t 72) (.t 75) (.c (.bool false))) (tm 2 (.t 76) .done))))))))))
 .ret))))))
theorem fc103:fcomp Tryz.prog Tryz.f103 = some (c103.erase,[.mov (.t 2)],77):=by kernel_rfl
def spec_ColumnOK (c_1:GColumn):Option Bool :=
    (((spec_NameOK c_1.Name).bind fun r_15 =>
    if (!r_15) then
    some true
    else
    (spec_l01In c_1.Kind 1 4).bind fun r_18 =>
    if (!r_18) then
    some true
    else
    (spec_l01In c_1.Min 0 1).bind fun r_21 =>
    if (!r_21) then
    some true
    else
    (spec_l01In c_1.Max 1 8).bind fun r_24 =>
    some (!r_24):Option Bool)).bind fun s24_13 =>
    if s24_13 then
    some false
    else
    if (c_1.Kind == 1) then
    (spec_l01In c_1.Low (-1000000000) c_1.High).bind fun r_28 =>
    if r_28 then
    (spec_l01In c_1.High c_1.Low 1000000000).bind fun r_31 =>
    some (bif (bif r_31 then (c_1.Ref == []) else false) then (!c_1.Strong) else false)
    else
    some false
    else
    ((if (c_1.Low != 0) then
    some true
    else
    some (c_1.High != 0):Option Bool)).bind fun s57_34 =>
    if s57_34 then
    some false
    else
    if (c_1.Kind == 4) then
    (spec_NameOK c_1.Ref).bind fun r_39 =>
    if r_39 then
    some (c_1.Min == 0)
    else
    some false
    else
    if (c_1.Ref == []) then
    some (!c_1.Strong)
    else
    some false
theorem w_spec_ColumnOK (c_1:GColumn) (r:Bool) (hf:spec_ColumnOK c_1 = some r):CallOK Tryz.prog 103 .flat [(encGColumn c_1)] (.bool r):=by
 refine CallOK.of_awp mixed Tryz.func103 fc103 nle ?_;rw [argT_eq];unfold spec_ColumnOK at hf;unfold c103;refine (show awp Tryz.prog false 0 _ (ofL [(0,(encGColumn c_1))]) [] _ from ?_);refine sr<|s_do (o_box (j:=0) (c:=(.agg [(.str c_1.Name),(.int .i64 c_1.Kind),(.int .i64 c_1.Min),(.int .i64 c_1.Max),(.int .i64 c_1.Low),(.int .i64 c_1.High),(.str c_1.Ref),(.bool c_1.Strong)])) rfl trivial rfl rfl)<|s_mov (.bool false) rfl<|dk<|awp_seq<|awp_seq<|?_
 obtain ⟨s24_13,hb1,hf⟩:=ob hf
 refine awp_cut ([(1,(.ptr 0 0 0)),(24,(.bool s24_13))],[.box 8 (.agg [(.str c_1.Name),(.int .i64 c_1.Kind),(.int .i64 c_1.Min),(.int .i64 c_1.Max),(.int .i64 c_1.Low),(.int .i64 c_1.High),(.str c_1.Ref),(.bool c_1.Strong)])]) ?_ ?_
 ·refine w_reg<|s_q (.ptr 0 0 0) rfl trivial rfl<|s_q (.str c_1.Name) rfl nle rfl<|?_
  obtain ⟨r_15,er16,hb1⟩:=ob hb1
  refine s_do (o_call (w_spec_NameOK _ _ er16) rfl (.refl _) rfl)<|s_q (.bool (!r_15)) rfl trivial rfl<|s_mov (.bool (!r_15)) rfl<|?_
  rcases oi hb1 with ⟨c17,hb1⟩ | ⟨c17,hb1⟩
  ·refine s_lit (s:=7) (b:=true) rfl c17<|s_off rfl rfl<|s_off rfl rfl<|s_off rfl rfl<|s_off rfl rfl<|s_q (.bool true) rfl trivial rfl<|s_mov (.bool true) rfl<|s_off rfl rfl<|s_off rfl rfl<|s_off rfl rfl<|s_off rfl rfl<|s_q (.bool true) rfl trivial rfl<|s_mov (.bool true) rfl<|s_off rfl rfl<|s_off rfl rfl<|s_off rfl rfl<|s_off rfl rfl<|s_q (.bool true) rfl trivial rfl<|w_done<|?_;obtain rfl:=os hb1;exact ⟨[],[0],_,_,rfl,rfl,⟨.refl _,⟨.refl _,trivial⟩⟩,(.refl _)⟩
  ·refine s_lit (s:=7) (b:=false) rfl (bf c17)<|s_on rfl<|s_q (.ptr 0 0 1) rfl trivial rfl<|s_on rfl<|s_q (.int .i64 c_1.Kind) rfl nle rfl<|s_on rfl<|?_
   obtain ⟨r_18,er19,hb1⟩:=ob hb1
   refine s_do (o_call (w_spec_l01In _ _ _ _ er19) rfl (.refl _) rfl)<|s_on rfl<|s_q (.bool (!r_18)) rfl trivial rfl<|s_q (.bool (!r_18)) rfl trivial rfl<|s_mov (.bool (!r_18)) rfl<|?_
   rcases oi hb1 with ⟨c20,hb1⟩ | ⟨c20,hb1⟩
   ·refine s_lit (s:=13) (b:=true) rfl c20<|s_off rfl rfl<|s_off rfl rfl<|s_off rfl rfl<|s_off rfl rfl<|s_q (.bool true) rfl trivial rfl<|s_mov (.bool true) rfl<|s_off rfl rfl<|s_off rfl rfl<|s_off rfl rfl<|s_off rfl rfl<|s_q (.bool true) rfl trivial rfl<|w_done<|?_;obtain rfl:=os hb1;exact ⟨[],[0],_,_,rfl,rfl,⟨.refl _,⟨.refl _,trivial⟩⟩,(.refl _)⟩
   ·refine s_lit (s:=13) (b:=false) rfl (bf c20)<|s_on rfl<|s_q (.ptr 0 0 2) rfl trivial rfl<|s_on rfl<|s_q (.int .i64 c_1.Min) rfl nle rfl<|s_on rfl<|?_
    obtain ⟨r_21,er22,hb1⟩:=ob hb1
    refine s_do (o_call (w_spec_l01In _ _ _ _ er22) rfl (.refl _) rfl)<|s_on rfl<|s_q (.bool (!r_21)) rfl trivial rfl<|s_q (.bool (!r_21)) rfl trivial rfl<|s_mov (.bool (!r_21)) rfl<|?_
    rcases oi hb1 with ⟨c23,hb1⟩ | ⟨c23,hb1⟩
    ·refine s_lit (s:=19) (b:=true) rfl c23<|s_off rfl rfl<|s_off rfl rfl<|s_off rfl rfl<|s_off rfl rfl<|s_q (.bool true) rfl trivial rfl<|w_done<|?_;obtain rfl:=os hb1;exact ⟨[],[0],_,_,rfl,rfl,⟨.refl _,⟨.refl _,trivial⟩⟩,(.refl _)⟩
    ·refine s_lit (s:=19) (b:=false) rfl (bf c23)<|s_on rfl<|s_q (.ptr 0 0 3) rfl trivial rfl<|s_on rfl<|s_q (.int .i64 c_1.Max) rfl nle rfl<|s_on rfl<|?_
     obtain ⟨r_24,er25,hb1⟩:=ob hb1
     refine s_do (o_call (w_spec_l01In _ _ _ _ er25) rfl (.refl _) rfl)<|s_on rfl<|s_q (.bool (!r_24)) rfl trivial rfl<|s_q (.bool (!r_24)) rfl trivial rfl<|w_done<|?_;obtain rfl:=os hb1;exact ⟨[],[0],_,_,rfl,rfl,⟨.refl _,⟨.refl _,trivial⟩⟩,(.refl _)⟩
 ·rcases oi hf with ⟨c26,hf⟩ | ⟨c26,hf⟩
  ·refine w_condt rfl c26<|sr<|s_mov (.bool false) rfl<|dk<|w_ret<|?_;obtain rfl:=os hf;exact r_flat ⟨trivial,trivial⟩ rfl (.refl _)
  ·refine w_condf rfl (bf c26)<|w_skip<|k_seq<|awp_seq<|sr<|s_q (.ptr 0 0 1) rfl trivial rfl<|s_q (.int .i64 c_1.Kind) rfl nle rfl<|s_q (.bool (c_1.Kind == 1)) rfl rfl rfl<|dk<|?_
   rcases oi hf with ⟨c27,hf⟩ | ⟨c27,hf⟩
   ·refine w_condt rfl c27<|sr<|s_q (.ptr 0 0 4) rfl trivial rfl<|s_q (.int .i64 c_1.Low) rfl nle rfl<|s_q (.ptr 0 0 5) rfl trivial rfl<|s_q (.int .i64 c_1.High) rfl nle rfl<|?_
    obtain ⟨r_28,er29,hf⟩:=ob hf
    refine s_do (o_call (w_spec_l01In _ _ _ _ er29) rfl (.refl _) rfl)<|s_mov (.bool r_28) rfl<|?_
    rcases oi hf with ⟨c30,hf⟩ | ⟨c30,hf⟩
    ·refine s_lit (s:=33) (b:=true) rfl c30<|s_on rfl<|s_q (.ptr 0 0 5) rfl trivial rfl<|s_on rfl<|s_q (.int .i64 c_1.High) rfl nle rfl<|s_on rfl<|s_q (.ptr 0 0 4) rfl trivial rfl<|s_on rfl<|s_q (.int .i64 c_1.Low) rfl nle rfl<|s_on rfl<|?_
     obtain ⟨r_31,er32,hf⟩:=ob hf
     refine s_do (o_call (w_spec_l01In _ _ _ _ er32) rfl (.refl _) rfl)<|s_q (.bool r_31) rfl trivial rfl<|s_mov (.bool r_31) rfl<|?_;refine s_g (v:=r_31) (.ptr 0 0 6) rfl (fun hv => by (try simp only [gs_on hv]);exact ⟨rfl,trivial,rfl⟩) ?_;refine s_g (v:=r_31) (.str c_1.Ref) rfl (fun hv => by (try simp only [gs_on hv]);exact ⟨rfl,nle,rfl⟩) ?_;refine s_g (v:=r_31) (.bool (c_1.Ref == [])) rfl (fun hv => by (try simp only [gs_on hv]);exact ⟨rfl,trivial,rfl⟩) ?_;refine s_pick (x:=(c_1.Ref == [])) (y:=false) rfl (fun hv => by (try simp only [gs_on hv]);rfl) (fun hv => by (try simp only [gs_on hv]);rfl) ?_;refine s_mov (.bool (bif r_31 then (c_1.Ref == []) else false)) rfl ?_;refine s_g (v:=(bif r_31 then (c_1.Ref == []) else false)) (.ptr 0 0 7) rfl (fun hv => by (try simp only [gs_on hv]);exact ⟨rfl,trivial,rfl⟩) ?_
     refine s_g (v:=(bif r_31 then (c_1.Ref == []) else false)) (.bool c_1.Strong) rfl (fun hv => by (try simp only [gs_on hv]);exact ⟨rfl,nle,rfl⟩) ?_;refine s_g (v:=(bif r_31 then (c_1.Ref == []) else false)) (.bool (!c_1.Strong)) rfl (fun hv => by (try simp only [gs_on hv]);exact ⟨rfl,trivial,rfl⟩) ?_;refine s_pick (x:=(!c_1.Strong)) (y:=false) rfl (fun hv => by (try simp only [gs_on hv]);rfl) (fun hv => by (try simp only [gs_on hv]);rfl) ?_;refine s_mov (.bool (bif (bif r_31 then (c_1.Ref == []) else false) then (!c_1.Strong) else false)) rfl<|dk<|w_ret<|?_;obtain rfl:=os hf;exact r_flat ⟨trivial,trivial⟩ rfl (.refl _)
    ·refine s_lit (s:=33) (b:=false) rfl (bf c30)<|s_off rfl rfl<|s_off rfl rfl<|s_off rfl rfl<|s_off rfl rfl<|s_off rfl rfl<|s_q (.bool false) rfl trivial rfl<|s_mov (.bool false) rfl<|s_off rfl rfl<|s_off rfl rfl<|s_off rfl rfl<|s_q (.bool false) rfl trivial rfl<|s_mov (.bool false) rfl<|s_off rfl rfl<|s_off rfl rfl<|s_off rfl rfl<|s_q (.bool false) rfl trivial rfl<|s_mov (.bool false) rfl<|dk<|w_ret<|?_;obtain rfl:=os hf;exact r_flat ⟨trivial,trivial⟩ rfl (.refl _)
   ·refine w_condf rfl (bf c27)<|w_skip<|k_seq<|awp_seq<|awp_seq<|?_
    obtain ⟨s57_34,hb1,hf⟩:=ob hf
    refine awp_cut ([(1,(.ptr 0 0 0)),(57,(.bool s57_34))],[.box 8 (.agg [(.str c_1.Name),(.int .i64 c_1.Kind),(.int .i64 c_1.Min),(.int .i64 c_1.Max),(.int .i64 c_1.Low),(.int .i64 c_1.High),(.str c_1.Ref),(.bool c_1.Strong)])]) ?_ ?_
    ·refine w_reg ?_
     rcases oi hb1 with ⟨c36,hb1⟩ | ⟨c36,hb1⟩
     ·refine s_q (.ptr 0 0 4) rfl trivial rfl<|s_q (.int .i64 c_1.Low) rfl nle rfl<|s_q (.bool (c_1.Low != 0)) rfl rfl rfl<|s_mov (.bool (c_1.Low != 0)) rfl<|s_lit (s:=53) (b:=true) rfl c36<|s_off rfl rfl<|s_off rfl rfl<|s_off rfl rfl<|s_q (.bool true) rfl trivial rfl<|w_done<|?_;obtain rfl:=os hb1;exact ⟨[],[0],_,_,rfl,rfl,⟨.refl _,⟨.refl _,trivial⟩⟩,(.refl _)⟩
     ·refine s_q (.ptr 0 0 4) rfl trivial rfl<|s_q (.int .i64 c_1.Low) rfl nle rfl<|s_q (.bool (c_1.Low != 0)) rfl rfl rfl<|s_mov (.bool (c_1.Low != 0)) rfl<|s_lit (s:=53) (b:=false) rfl (bf c36)<|s_on rfl<|s_q (.ptr 0 0 5) rfl trivial rfl<|s_on rfl<|s_q (.int .i64 c_1.High) rfl nle rfl<|s_on rfl<|s_q (.bool (c_1.High != 0)) rfl rfl rfl<|s_q (.bool (c_1.High != 0)) rfl trivial rfl<|w_done<|?_;obtain rfl:=os hb1;exact ⟨[],[0],_,_,rfl,rfl,⟨.refl _,⟨.refl _,trivial⟩⟩,(.refl _)⟩
    ·rcases oi hf with ⟨c37,hf⟩ | ⟨c37,hf⟩
     ·refine w_condt rfl c37<|sr<|s_mov (.bool false) rfl<|dk<|w_ret<|?_;obtain rfl:=os hf;exact r_flat ⟨trivial,trivial⟩ rfl (.refl _)
     ·refine w_condf rfl (bf c37)<|w_skip<|k_seq<|awp_seq<|sr<|s_q (.ptr 0 0 1) rfl trivial rfl<|s_q (.int .i64 c_1.Kind) rfl nle rfl<|s_q (.bool (c_1.Kind == 4)) rfl rfl rfl<|dk<|?_
      rcases oi hf with ⟨c38,hf⟩ | ⟨c38,hf⟩
      ·refine w_condt rfl c38<|sr<|?_
       obtain ⟨r_39,er40,hf⟩:=ob hf
       rcases oi hf with ⟨c41,hf⟩ | ⟨c41,hf⟩
       ·refine s_q (.ptr 0 0 6) rfl trivial rfl<|s_q (.str c_1.Ref) rfl nle rfl<|s_do (o_call (w_spec_NameOK _ _ er40) rfl (.refl _) rfl)<|s_mov (.bool r_39) rfl<|s_lit (s:=64) (b:=true) rfl c41<|s_on rfl<|s_q (.ptr 0 0 2) rfl trivial rfl<|s_on rfl<|s_q (.int .i64 c_1.Min) rfl nle rfl<|s_on rfl<|s_q (.bool (c_1.Min == 0)) rfl rfl rfl<|s_q (.bool (c_1.Min == 0)) rfl trivial rfl<|s_mov (.bool (c_1.Min == 0)) rfl<|dk<|w_ret<|?_;obtain rfl:=os hf;exact r_flat ⟨trivial,trivial⟩ rfl (.refl _)
       ·refine s_q (.ptr 0 0 6) rfl trivial rfl<|s_q (.str c_1.Ref) rfl nle rfl<|s_do (o_call (w_spec_NameOK _ _ er40) rfl (.refl _) rfl)<|s_mov (.bool r_39) rfl<|s_lit (s:=64) (b:=false) rfl (bf c41)<|s_off rfl rfl<|s_off rfl rfl<|s_off rfl rfl<|s_q (.bool false) rfl trivial rfl<|s_mov (.bool false) rfl<|dk<|w_ret<|?_;obtain rfl:=os hf;exact r_flat ⟨trivial,trivial⟩ rfl (.refl _)
      ·refine w_condf rfl (bf c38)<|w_skip<|k_seq<|sr<|?_
       rcases oi hf with ⟨c42,hf⟩ | ⟨c42,hf⟩
       ·refine s_q (.ptr 0 0 6) rfl trivial rfl<|s_q (.str c_1.Ref) rfl nle rfl<|s_q (.bool (c_1.Ref == [])) rfl trivial rfl<|s_mov (.bool (c_1.Ref == [])) rfl<|s_lit (s:=72) (b:=true) rfl c42<|s_on rfl<|s_q (.ptr 0 0 7) rfl trivial rfl<|s_on rfl<|s_q (.bool c_1.Strong) rfl nle rfl<|s_on rfl<|s_q (.bool (!c_1.Strong)) rfl trivial rfl<|s_q (.bool (!c_1.Strong)) rfl trivial rfl<|s_mov (.bool (!c_1.Strong)) rfl<|dk<|w_ret<|?_;obtain rfl:=os hf;exact r_flat ⟨trivial,trivial⟩ rfl (.refl _)
       ·refine s_q (.ptr 0 0 6) rfl trivial rfl<|s_q (.str c_1.Ref) rfl nle rfl<|s_q (.bool (c_1.Ref == [])) rfl trivial rfl<|s_mov (.bool (c_1.Ref == [])) rfl<|s_lit (s:=72) (b:=false) rfl (bf c42)<|s_off rfl rfl<|s_off rfl rfl<|s_off rfl rfl<|s_q (.bool false) rfl trivial rfl<|s_mov (.bool false) rfl<|dk<|w_ret<|?_;obtain rfl:=os hf;exact r_flat ⟨trivial,trivial⟩ rfl (.refl _)

/- spec.l04Table -/
def c49:ACode :=
 (.seq (.reg (tq 1 (.box 4 (.t 0)) (tm 2 (.c (.bool false)) .done)))
 (.seq (.seq (.reg (tq 6 (.faddr 0 (.t 1)) (tq 7 (.load 1 false (.t 6)) (tq 8 (.call 72 [(.t 7)]) (tq 9 (.not (.t 8)) (tm 10 (.t 9) (tg 11 10 false (.faddr 1 (.t 1)) (tg 12 10 false (.load 1 false (.t 11)) (tg 13 10 false (.len (.t 12)) (tg 14 10 false (.call 48 [(.t 13),(.c (.int .i64 1)),(.c (.int .i64 6))]) (tg 15 10 false (.not (.t 14)) (tq 16 (.pick (.t 10) (.c (.bool true)) (.t 15)) (tm 17 (.t 16) (tg 18 17 false (.faddr 2 (.t 1)) (tg 19 17 false (.load 1 false (.t 18)) (tg 20 17 false (.len (.t 19)) (tg 21 17 false (.bin .gtr (.t 20) (.c (.int .i64 6))) (tq 22 (.pick (.t 17) (.c (.bool true)) (.t 21)) .done))))))))))))))))))
 (.cut (.cond (.t 22) (.seq (.reg (tm 2 (.c (.bool false)) .done))
 .ret)
 .skip)))
 (.seq (.seq (.reg (tm 3 (.c (.int .i64 0)) .done))
 (.block 0 (.loop (.seq (.seq (.reg (tm 23 (.t 3) (tq 24 (.faddr 1 (.t 1)) (tq 25 (.load 1 false (.t 24)) (tq 26 (.len (.t 25)) (tq 27 (.bin .lss (.t 23) (.t 26)) .done))))))
 (.cond (.t 27) .skip
 (.exit 0)))
 (.seq (.block 1 (.seq (.seq (.reg (tq 30 (.faddr 1 (.t 1)) (tq 31 (.load 1 false (.t 30)) (tm 32 (.t 3) (tq 33 (.iaddr 8 (.t 31) (.t 32)) (tq 34 (.load 8 true (.t 33)) (tq 35 (.call 103 [(.t 34)]) (tq 36 (.not (.t 35)) .done))))))))
 (.cond (.t 36) (.seq (.reg (tm 2 (.c (.bool false)) .done))
 .ret)
 .skip))
 (.seq (.reg (tm 4 (.c (.int .i64 0)) .done))
 (.block 2 (.loop (.seq (.seq (.reg (tm 37 (.t 4) (tm 38 (.t 3) (tq 39 (.bin .lss (.t 37) (.t 38)) .done))))
 (.cond (.t 39) .skip
 (.exit 2)))
 (.seq (.block 3 (.seq (.reg (tq 42 (.faddr 1 (.t 1)) (tq 43 (.load 1 false (.t 42)) (tm 44 (.t 4) (tq 45 (.iaddr 8 (.t 43) (.t 44)) (tq 46 (.faddr 0 (.t 45)) (tq 47 (.load 1 false (.t 46)) (tq 48 (.faddr 1 (.t 1)) (tq 49 (.load 1 false (.t 48)) (tm 50 (.t 3) (tq 51 (.iaddr 8 (.t 49) (.t 50)) (tq 52 (.faddr 0 (.t 51)) (tq 53 (.load 1 false (.t 52)) (tq 54 (.bin .eql (.t 47) (.t 53)) .done))))))))))))))
 (.cond (.t 54) (.seq (.reg (tm 2 (.c (.bool false)) .done))
 .ret)
 .skip)))
 (.reg (tm 40 (.t 4) (tq 41 (.bin .add (.t 40) (.c (.int .i64 1))) (tm 4 (.t 41) .done)))))))))))
 (.cut (.reg (tm 28 (.t 3) (tq 29 (.bin .add (.t 28) (.c (.int .i64 1))) (tm 3 (.t 29) .done))))))))))
 (.cut (.seq (.seq (.reg (tm 5 (.c (.int .i64 0)) .done))
 (.block 4 (.loop (.seq (.seq (.reg (tm 55 (.t 5) (tq 56 (.faddr 2 (.t 1)) (tq 57 (.load 1 false (.t 56)) (tq 58 (.len (.t 57)) (tq 59 (.bin .lss (.t 55) (.t 58)) .done))))))
 (.cond (.t 59) .skip
 (.exit 4)))
 (.seq (.block 5 (.seq (.reg (tq 62 (.faddr 2 (.t 1)) (tq 63 (.load 1 false (.t 62)) (tm 64 (.t 5) (tq 65 (.iaddr 1 (.t 63) (.t 64)) (tq 66 (.load 1 false (.t 65)) (tq 67 (.faddr 1 (.t 1)) (tq 68 (.load 1 false (.t 67)) (tq 69 (.len (.t 68)) (tq 70 (.bin .sub (.t 69) (.c (.int .i64 1))) (.l ⟨(some 71),none,.call 48 [(.t 66),(.c (.int .i64 0)),(.t 70)]⟩ []
 (tq 72 (.not (.t 71)) (tm 73 (.t 72) (tg 74 73 false (.mov (.t 5)) (tg 75 73 false (.bin .gtr (.t 74) (.c (.int .i64 0))) (tg 76 73 false (.mov (.t 75)) (tg 77 76 true (.faddr 2 (.t 1)) (tg 78 76 true (.load 1 false (.t 77)) (tg 79 76 true (.mov (.t 5)) (tg 80 76 true (.bin .sub (.t 79) (.c (.int .i64 1))) (tg 81 76 true (.iaddr 1 (.t 78) (.t 80)) (tg 82 76 true (.load 1 false (.t 81)) (tg 83 76 true (.faddr 2 (.t 1)) (tg 84 76 true (.load 1 false (.t 83)) (tg 85 76 true (.mov (.t 5)) (tg 86 76 true (.iaddr 1 (.t 84) (.t 85)) (tg 87 76 true (.load 1 false (.t 86)) (tg 88 76 true (.bin .geq (.t 82) (.t 87)) (tg 89 73 false (.pick (.t 76) (.t 88) (.c (.bool false))) (tq 90 (.pick (.t 73) (.c (.bool true)) (.t 89)) .done))))))))))))))))))) .non)))))))))))
 (.cut (.cond (.t 90) (.seq (.reg (tm 2 (.c (.bool false)) .done))
 .ret)
 .skip))))
 (.reg (tm 60 (.t 5) (tq 61 (.bin .add (.t 60) (.c (.int .i64 1))) (tm 5 (.t 61) .done)))))))))
 (.cut (.seq (.reg (tm 2 (.c (.bool true)) .done))
 .ret)))))))
theorem fc49:fcomp Tryz.prog Tryz.f49 = some (c49.erase,[.mov (.t 2)],91):=by kernel_rfl
def spec_l04Table_L2 (i_130:Nat) (t_1:GTable) (x_193:GColumn):Nat → Int → Option (Fl Bool Unit)
  | 0,_ => none
  | k + 1,k_222 =>
    if (decide (k_222 < (i_130:Int))) then
    (idx t_1.Columns k_222).bind fun x_229 =>
    if (x_229.Name == x_193.Name) then
    some (.ret false)
    else
    spec_l04Table_L2 i_130 t_1 x_193 k (w64 (k_222 + 1))
    else
    some (.go ())

def spec_l04Table_L1 (t_1:GTable):List GColumn → Nat → Option (Fl Bool Unit)
  | [],i_130 =>
    some (.go ())
  | x_193 :: xs,i_130 =>
    (spec_ColumnOK x_193).bind fun r_196 =>
    if (!r_196) then
    some (.ret false)
    else
    (spec_l04Table_L2 i_130 t_1 x_193 FUEL 0).bind fun q => (match q with
    | .ret r => some (.ret r)
    | .go _ =>
    spec_l04Table_L1 t_1 xs (i_130 + 1))

def spec_l04Table_L3 (t_1:GTable):List Int → Nat → Option (Fl Bool Unit)
  | [],i_287 =>
    some (.go ())
  | x_323 :: xs,i_287 =>
    (((spec_l01In x_323 0 (w64 ((t_1.Columns.length:Int) - 1))).bind fun r_336 =>
    if (!r_336) then
    some true
    else
    if (decide ((i_287:Int) > 0)) then
    (idx t_1.Unique (w64 ((i_287:Int) - 1))).bind fun x_340 =>
    some (decide (x_340 ≥ x_323))
    else
    some false:Option Bool)).bind fun s90_333 =>
    if s90_333 then
    some (.ret false)
    else
    spec_l04Table_L3 t_1 xs (i_287 + 1)

def spec_l04Table (t_1:GTable):Option Bool :=
    (((spec_NameOK t_1.Name).bind fun r_12 =>
    if (!r_12) then
    some true
    else
    (spec_l01In (t_1.Columns.length:Int) 1 6).bind fun r_17 =>
    some (bif (!r_17) then true else (decide ((t_1.Unique.length:Int) > 6))):Option Bool)).bind fun s22_10 =>
    if s22_10 then
    some false
    else
    (spec_l04Table_L1 t_1 t_1.Columns 0).bind fun q => (match q with
    | .ret r => some r
    | .go _ =>
    (spec_l04Table_L3 t_1 t_1.Unique 0).bind fun q => (match q with
    | .ret r => some r
    | .go _ =>
    some true))
theorem w_spec_l04Table (t_1:GTable) (r:Bool) (hf:spec_l04Table t_1 = some r):CallOK Tryz.prog 49 .flat [(encGTable t_1)] (.bool r):=by
 refine CallOK.of_awp mixed Tryz.func49 fc49 nle ?_;rw [argT_eq];unfold spec_l04Table at hf;unfold c49;refine (show awp Tryz.prog false 0 _ (ofL [(0,(encGTable t_1))]) [] _ from ?_);refine sr<|s_do (o_box (j:=0) (c:=(.agg [(.str t_1.Name),(.lst 8 (t_1.Columns.map encGColumn)),(.lst 1 (t_1.Unique.map encI)),(.bool t_1.Root)])) rfl trivial rfl rfl)<|s_mov (.bool false) rfl<|dk<|awp_seq<|awp_seq<|?_
 obtain ⟨s22_10,hb1,hf⟩:=ob hf
 refine awp_cut ([(1,(.ptr 0 0 0)),(22,(.bool s22_10))],[.box 4 (.agg [(.str t_1.Name),(.lst 8 (t_1.Columns.map encGColumn)),(.lst 1 (t_1.Unique.map encI)),(.bool t_1.Root)])]) ?_ ?_
 ·refine w_reg<|s_q (.ptr 0 0 0) rfl trivial rfl<|s_q (.str t_1.Name) rfl nle rfl<|?_
  obtain ⟨r_12,er13,hb1⟩:=ob hb1
  refine s_do (o_call (w_spec_NameOK _ _ er13) rfl (.refl _) rfl)<|s_q (.bool (!r_12)) rfl trivial rfl<|s_mov (.bool (!r_12)) rfl<|?_
  rcases oi hb1 with ⟨c15,hb1⟩ | ⟨c15,hb1⟩
  ·refine s_lit (s:=10) (b:=true) rfl c15<|s_off rfl rfl<|s_off rfl rfl<|s_off rfl rfl<|s_off rfl rfl<|s_off rfl rfl<|s_q (.bool true) rfl trivial rfl<|s_mov (.bool true) rfl<|s_off rfl rfl<|s_off rfl rfl<|s_off rfl rfl<|s_off rfl rfl<|s_q (.bool true) rfl trivial rfl<|w_done<|?_;obtain rfl:=os hb1;exact ⟨[],[0],_,_,rfl,rfl,⟨.refl _,⟨.refl _,trivial⟩⟩,(.refl _)⟩
  ·refine s_lit (s:=10) (b:=false) rfl (bf c15)<|s_on rfl<|s_q (.ptr 0 0 1) rfl trivial rfl<|s_on rfl<|s_q (.lst 8 (t_1.Columns.map encGColumn)) rfl nle rfl<|s_on rfl<|s_dof (o_len (enc:=encGColumn) rfl) fun hl16 => s_on rfl<|?_
   obtain ⟨r_17,er18,hb1⟩:=ob hb1
   refine s_do (o_call (w_spec_l01In _ _ _ _ er18) rfl (.refl _) rfl)<|s_on rfl<|s_q (.bool (!r_17)) rfl trivial rfl<|s_q (.bool (!r_17)) rfl trivial rfl<|s_mov (.bool (!r_17)) rfl<|?_;refine s_g (v:=(!r_17)) (.ptr 0 0 2) rfl (fun hv => by (try simp only [gs_on hv]);exact ⟨rfl,trivial,rfl⟩) ?_;refine s_g (v:=(!r_17)) (.lst 1 (t_1.Unique.map encI)) rfl (fun hv => by (try simp only [gs_on hv]);exact ⟨rfl,nle,rfl⟩) ?_;refine s_g (v:=(!r_17)) (.int .i64 (t_1.Unique.length:Int)) rfl (fun hv => by (try simp only [gs_on hv]);exact ⟨rfl,trivial,lenV _ _⟩) ?_;refine s_g (v:=(!r_17)) (.bool (decide ((t_1.Unique.length:Int) > 6))) rfl (fun hv => by (try simp only [gs_on hv]);exact ⟨rfl,rfl,rfl⟩) ?_
   refine s_pick (x:=true) (y:=(decide ((t_1.Unique.length:Int) > 6))) rfl (fun hv => by (try simp only [gs_on hv]);rfl) (fun hv => by (try simp only [gs_on hv]);rfl) ?_;refine w_done ?_;obtain rfl:=os hb1;exact ⟨[],[0],_,_,rfl,rfl,⟨.refl _,⟨.refl _,trivial⟩⟩,(.refl _)⟩
 ·rcases oi hf with ⟨c20,hf⟩ | ⟨c20,hf⟩
  ·refine w_condt rfl c20<|sr<|s_mov (.bool false) rfl<|dk<|w_ret<|?_;obtain rfl:=os hf;exact r_flat ⟨trivial,trivial⟩ rfl (.refl _)
  ·refine w_condf rfl (bf c20)<|w_skip<|k_seq<|awp_seq<|sr<|s_mov (.int .i64 0) rfl<|dk<|?_
   obtain ⟨p186,hb1,hf⟩:=ob hf
   refine awp_cutx (X:={q:Unit // p186 = .go q}) (fun q => ([(1,(.ptr 0 0 0))],[.box 4 (.agg [(.str t_1.Name),(.lst 8 (t_1.Columns.map encGColumn)),(.lst 1 (t_1.Unique.map encI)),(.bool t_1.Root)])])) ?_ ?_
   ·refine awp_loop (X:={q:Nat // spec_l04Table_L1 t_1 (t_1.Columns.drop q) q = some p186}) (fun q => ([(1,(.ptr 0 0 0)),(3,(.int .i64 (q.1:Int)))],[.box 4 (.agg [(.str t_1.Name),(.lst 8 (t_1.Columns.map encGColumn)),(.lst 1 (t_1.Unique.map encI)),(.bool t_1.Root)])])) (fun q => t_1.Columns.length - q.1) ⟨0,hb1⟩ ⟨[],[0],_,_,rfl,rfl,⟨.refl _,⟨.refl _,trivial⟩⟩,(.refl _)⟩ ?_
    rintro ⟨i_130,hc1⟩
    have hc1:spec_l04Table_L1 t_1 (t_1.Columns.drop i_130) i_130 = some p186:=hc1
    refine (show awp Tryz.prog false 0 _ (ofL [(1,(.ptr 0 0 0)),(3,(.int .i64 (i_130:Int)))]) [.box 4 (.agg [(.str t_1.Name),(.lst 8 (t_1.Columns.map encGColumn)),(.lst 1 (t_1.Unique.map encI)),(.bool t_1.Root)])] _ from ?_)
    rcases dropc t_1.Columns i_130 with ⟨hie189,hd192⟩ | ⟨hlt187,x_193,hx188,hd192⟩
    ·rw [hd192,spec_l04Table_L1.eq_1] at hc1
     have hq191:=dlf hie189
     refine awp_seq<|sr<|s_mov (.int .i64 (i_130:Int)) rfl<|s_q (.ptr 0 0 1) rfl trivial rfl<|s_q (.lst 8 (t_1.Columns.map encGColumn)) rfl nle rfl<|s_dof (o_len (enc:=encGColumn) rfl) fun hl194 => s_q (.bool (decide ((i_130:Int) < (t_1.Columns.length:Int)))) rfl rfl rfl<|dk<|w_condf rfl hq191<|w_exit<|k_seqx<|k_loopx<|k_blkx<|?_;obtain rfl:=os hc1;exact k_cutn ⟨_,rfl⟩ ⟨[],[0],_,_,rfl,rfl,⟨.refl _,trivial⟩,(.refl _)⟩
    ·rw [hd192,spec_l04Table_L1.eq_2] at hc1
     have hq191:=dlt hlt187
     refine awp_seq<|sr<|s_mov (.int .i64 (i_130:Int)) rfl<|s_q (.ptr 0 0 1) rfl trivial rfl<|s_q (.lst 8 (t_1.Columns.map encGColumn)) rfl nle rfl<|s_dof (o_len (enc:=encGColumn) rfl) fun hl195 => s_q (.bool (decide ((i_130:Int) < (t_1.Columns.length:Int)))) rfl rfl rfl<|dk<|w_condt rfl hq191<|w_skip<|k_seq<|awp_seq<|w_blk<|awp_seq<|sr<|?_
     obtain ⟨r_196,er197,hc1⟩:=ob hc1
     refine s_q (.ptr 0 0 1) rfl trivial rfl<|s_q (.lst 8 (t_1.Columns.map encGColumn)) rfl nle rfl<|s_mov (.int .i64 (i_130:Int)) rfl<|s_do (o_iaddrn (enc:=encGColumn) rfl rfl hx188)<|s_q (encGColumn x_193) rfl nle rfl<|s_do (o_call (w_spec_ColumnOK _ _ er197) rfl (.refl _) rfl)<|s_q (.bool (!r_196)) rfl trivial rfl<|dk<|?_
     rcases oi hc1 with ⟨c198,hc1⟩ | ⟨c198,hc1⟩
     ·refine w_condt rfl c198<|sr<|s_mov (.bool false) rfl<|dk<|w_ret<|?_;obtain rfl:=os hc1;obtain rfl:=os hf;exact r_flat ⟨trivial,trivial⟩ rfl (.refl _)
     ·refine w_condf rfl (bf c198)<|w_skip<|k_seq<|sr<|s_mov (.int .i64 0) rfl<|dk<|?_
      obtain ⟨p227,hb2,hc1⟩:=ob hc1
      refine awp_cutxb (X:={q:Unit // p227 = .go q}) (fun q => ([(1,(.ptr 0 0 0)),(3,(.int .i64 (i_130:Int)))],[.box 4 (.agg [(.str t_1.Name),(.lst 8 (t_1.Columns.map encGColumn)),(.lst 1 (t_1.Unique.map encI)),(.bool t_1.Root)])])) ?_ ?_
      ·refine awp_loop (X:={q:(Nat × Int) // spec_l04Table_L2 i_130 t_1 x_193 q.1 q.2 = some p227}) (fun q => ([(1,(.ptr 0 0 0)),(3,(.int .i64 (i_130:Int))),(4,(.int .i64 q.1.2))],[.box 4 (.agg [(.str t_1.Name),(.lst 8 (t_1.Columns.map encGColumn)),(.lst 1 (t_1.Unique.map encI)),(.bool t_1.Root)])])) (fun q => q.1.1) ⟨(FUEL,0),hb2⟩ ⟨[],[0],_,_,rfl,rfl,⟨.refl _,⟨.refl _,⟨.refl _,trivial⟩⟩⟩,(.refl _)⟩ ?_
       rintro ⟨⟨k,k_222⟩,hc2⟩
       have hc2:spec_l04Table_L2 i_130 t_1 x_193 k k_222 = some p227:=hc2
       refine (show awp Tryz.prog false 0 _ (ofL [(1,(.ptr 0 0 0)),(3,(.int .i64 (i_130:Int))),(4,(.int .i64 k_222))]) [.box 4 (.agg [(.str t_1.Name),(.lst 8 (t_1.Columns.map encGColumn)),(.lst 1 (t_1.Unique.map encI)),(.bool t_1.Root)])] _ from ?_)
       rcases k with _ | k
       ·rw [spec_l04Table_L2.eq_1] at hc2
        cases hc2
       ·rw [spec_l04Table_L2.eq_2] at hc2;refine awp_seq<|sr<|s_mov (.int .i64 k_222) rfl<|s_mov (.int .i64 (i_130:Int)) rfl<|s_q (.bool (decide (k_222 < (i_130:Int)))) rfl rfl rfl<|dk<|?_
        rcases oi hc2 with ⟨c228,hc2⟩ | ⟨c228,hc2⟩
        ·refine w_condt rfl c228<|w_skip<|k_seq<|awp_seq<|w_blk<|sr<|s_q (.ptr 0 0 1) rfl trivial rfl<|s_q (.lst 8 (t_1.Columns.map encGColumn)) rfl nle rfl<|s_mov (.int .i64 k_222) rfl<|?_
         obtain ⟨x_229,ex230,hc2⟩:=ob hc2
         refine s_do (o_iaddr (enc:=encGColumn) rfl rfl (idx0 ex230) (idx1 ex230))<|s_q (.iptr (encGColumn x_229) 0) rfl trivial rfl<|s_q (.str x_229.Name) rfl nle rfl<|s_q (.ptr 0 0 1) rfl trivial rfl<|s_q (.lst 8 (t_1.Columns.map encGColumn)) rfl nle rfl<|s_mov (.int .i64 (i_130:Int)) rfl<|s_do (o_iaddrn (enc:=encGColumn) rfl rfl hx188)<|s_q (.iptr (encGColumn x_193) 0) rfl trivial rfl<|s_q (.str x_193.Name) rfl nle rfl<|s_q (.bool (x_229.Name == x_193.Name)) rfl trivial rfl<|dk<|?_
         rcases oi hc2 with ⟨c231,hc2⟩ | ⟨c231,hc2⟩
         ·refine w_condt rfl c231<|sr<|s_mov (.bool false) rfl<|dk<|w_ret<|?_;obtain rfl:=os hc2;obtain rfl:=os hc1;obtain rfl:=os hf;exact r_flat ⟨trivial,trivial⟩ rfl (.refl _)
         ·refine w_condf rfl (bf c231)<|w_skip<|k_blk<|k_seq<|w_reg<|s_mov (.int .i64 k_222) rfl<|s_q (.int .i64 (w64 (k_222 + 1))) rfl rfl rfl<|s_mov (.int .i64 (w64 (k_222 + 1))) rfl<|w_done<|?_;exact k_loopn ⟨(k,w64 (k_222 + 1)),hc2⟩ (Nat.lt_succ_self _) ⟨[],[0],_,_,rfl,rfl,⟨.refl _,⟨.refl _,⟨.refl _,trivial⟩⟩⟩,(.refl _)⟩
        ·refine w_condf rfl (bf c228)<|w_exit<|k_seqx<|k_loopx<|k_blkx<|k_blk<|?_;obtain rfl:=os hc2;exact k_cutn ⟨_,rfl⟩ ⟨[],[0],_,_,rfl,rfl,⟨.refl _,⟨.refl _,trivial⟩⟩,(.refl _)⟩
      ·rintro ⟨_,rfl⟩
       refine w_reg<|s_mov (.int .i64 (i_130:Int)) rfl<|s_q (.int .i64 (w64 ((i_130:Int) + 1))) rfl rfl rfl<|s_mov (.int .i64 (w64 ((i_130:Int) + 1))) rfl<|w_done<|?_;exact k_loopn ⟨(i_130 + 1),hc1⟩ (mul hlt187) ⟨[],[0],_,_,rfl,rfl,⟨.refl _,⟨.of_eq (congrArg (AV.int _) (w64_incr hlt187 hl195)),trivial⟩⟩,(.refl _)⟩
   ·rintro ⟨_,rfl⟩
    refine awp_seq<|sr<|s_mov (.int .i64 0) rfl<|dk<|?_
    obtain ⟨p316,hb1,hf⟩:=ob hf
    refine awp_cutx (X:={q:Unit // p316 = .go q}) (fun q => ([],[])) ?_ ?_
    ·refine awp_loop (X:={q:Nat // spec_l04Table_L3 t_1 (t_1.Unique.drop q) q = some p316}) (fun q => ([(1,(.ptr 0 0 0)),(5,(.int .i64 (q.1:Int)))],[.box 4 (.agg [(.str t_1.Name),(.lst 8 (t_1.Columns.map encGColumn)),(.lst 1 (t_1.Unique.map encI)),(.bool t_1.Root)])])) (fun q => t_1.Unique.length - q.1) ⟨0,hb1⟩ ⟨[],[0],_,_,rfl,rfl,⟨.refl _,⟨.refl _,trivial⟩⟩,(.refl _)⟩ ?_
     rintro ⟨i_287,hc1⟩
     have hc1:spec_l04Table_L3 t_1 (t_1.Unique.drop i_287) i_287 = some p316:=hc1
     refine (show awp Tryz.prog false 0 _ (ofL [(1,(.ptr 0 0 0)),(5,(.int .i64 (i_287:Int)))]) [.box 4 (.agg [(.str t_1.Name),(.lst 8 (t_1.Columns.map encGColumn)),(.lst 1 (t_1.Unique.map encI)),(.bool t_1.Root)])] _ from ?_)
     rcases dropc t_1.Unique i_287 with ⟨hie319,hd322⟩ | ⟨hlt317,x_323,hx318,hd322⟩
     ·rw [hd322,spec_l04Table_L3.eq_1] at hc1
      have hq321:=dlf hie319
      refine awp_seq<|sr<|s_mov (.int .i64 (i_287:Int)) rfl<|s_q (.ptr 0 0 2) rfl trivial rfl<|s_q (.lst 1 (t_1.Unique.map encI)) rfl nle rfl<|s_dof (o_len (enc:=encI) rfl) fun hl324 => s_q (.bool (decide ((i_287:Int) < (t_1.Unique.length:Int)))) rfl rfl rfl<|dk<|w_condf rfl hq321<|w_exit<|k_seqx<|k_loopx<|k_blkx<|?_;obtain rfl:=os hc1;exact k_cutn ⟨_,rfl⟩ ⟨[],[],_,_,rfl,rfl,trivial,(.refl _)⟩
     ·rw [hd322,spec_l04Table_L3.eq_2] at hc1
      have hq321:=dlt hlt317
      refine awp_seq<|sr<|s_mov (.int .i64 (i_287:Int)) rfl<|s_q (.ptr 0 0 2) rfl trivial rfl<|s_q (.lst 1 (t_1.Unique.map encI)) rfl nle rfl<|s_dof (o_len (enc:=encI) rfl) fun hl325 => s_q (.bool (decide ((i_287:Int) < (t_1.Unique.length:Int)))) rfl rfl rfl<|dk<|w_condt rfl hq321<|w_skip<|k_seq<|awp_seq<|w_blk<|awp_seq<|?_
      obtain ⟨s90_333,hb2,hc1⟩:=ob hc1
      refine awp_cut ([(1,(.ptr 0 0 0)),(5,(.int .i64 (i_287:Int))),(90,(.bool s90_333))],[.box 4 (.agg [(.str t_1.Name),(.lst 8 (t_1.Columns.map encGColumn)),(.lst 1 (t_1.Unique.map encI)),(.bool t_1.Root)])]) ?_ ?_
      ·refine w_reg<|s_q (.ptr 0 0 2) rfl trivial rfl<|s_q (.lst 1 (t_1.Unique.map encI)) rfl nle rfl<|s_mov (.int .i64 (i_287:Int)) rfl<|s_do (o_iaddrn (enc:=encI) rfl rfl hx318)<|s_q (.int .i64 x_323) rfl ⟨rfl,rfl⟩ rfl<|s_q (.ptr 0 0 1) rfl trivial rfl<|s_q (.lst 8 (t_1.Columns.map encGColumn)) rfl nle rfl<|s_dof (o_len (enc:=encGColumn) rfl) fun hl335 => s_q (.int .i64 (w64 ((t_1.Columns.length:Int) - 1))) rfl rfl rfl<|?_
       obtain ⟨r_336,er337,hb2⟩:=ob hb2
       refine s_dol (o_call (w_spec_l01In _ _ _ _ er337) rfl (.refl _) rfl) a_same trivial<|s_q (.bool (!r_336)) rfl trivial rfl<|s_mov (.bool (!r_336)) rfl<|?_
       rcases oi hb2 with ⟨c338,hb2⟩ | ⟨c338,hb2⟩
       ·refine s_lit (s:=73) (b:=true) rfl c338<|s_off rfl rfl<|s_off rfl rfl<|s_off rfl rfl<|s_offs rfl<|s_offs rfl<|s_offs rfl<|s_offs rfl<|s_offs rfl<|s_offs rfl<|s_offs rfl<|s_offs rfl<|s_offs rfl<|s_offs rfl<|s_offs rfl<|s_offs rfl<|s_off rfl rfl<|s_q (.bool true) rfl trivial rfl<|w_done<|?_;obtain rfl:=os hb2;exact ⟨[],[0],_,_,rfl,rfl,⟨.refl _,⟨.refl _,⟨.refl _,trivial⟩⟩⟩,(.refl _)⟩
       ·refine s_lit (s:=73) (b:=false) rfl (bf c338)<|s_on rfl<|s_mov (.int .i64 (i_287:Int)) rfl<|s_on rfl<|s_q (.bool (decide ((i_287:Int) > 0))) rfl rfl rfl<|s_on rfl<|s_mov (.bool (decide ((i_287:Int) > 0))) rfl<|?_
        rcases oi hb2 with ⟨c339,hb2⟩ | ⟨c339,hb2⟩
        ·refine s_lit (s:=76) (b:=true) rfl c339<|s_on rfl<|s_q (.ptr 0 0 2) rfl trivial rfl<|s_on rfl<|s_q (.lst 1 (t_1.Unique.map encI)) rfl nle rfl<|s_on rfl<|s_mov (.int .i64 (i_287:Int)) rfl<|s_on rfl<|s_q (.int .i64 (w64 ((i_287:Int) - 1))) rfl rfl rfl<|s_on rfl<|?_
         obtain ⟨x_340,ex341,hb2⟩:=ob hb2
         refine s_do (o_iaddr (enc:=encI) rfl rfl (idx0 ex341) (idx1 ex341))<|s_on rfl<|s_q (.int .i64 x_340) rfl ⟨rfl,rfl⟩ rfl<|s_on rfl<|s_q (.ptr 0 0 2) rfl trivial rfl<|s_on rfl<|s_q (.lst 1 (t_1.Unique.map encI)) rfl nle rfl<|s_on rfl<|s_mov (.int .i64 (i_287:Int)) rfl<|s_on rfl<|s_do (o_iaddrn (enc:=encI) rfl rfl hx318)<|s_on rfl<|s_q (.int .i64 x_323) rfl ⟨rfl,rfl⟩ rfl<|s_on rfl<|s_q (.bool (decide (x_340 ≥ x_323))) rfl rfl rfl<|s_on rfl<|s_q (.bool (decide (x_340 ≥ x_323))) rfl trivial rfl<|s_q (.bool (decide (x_340 ≥ x_323))) rfl trivial rfl<|w_done<|?_;obtain rfl:=os hb2;exact ⟨[],[0],_,_,rfl,rfl,⟨.refl _,⟨.refl _,⟨.refl _,trivial⟩⟩⟩,(.refl _)⟩
        ·refine s_lit (s:=76) (b:=false) rfl (bf c339)<|s_off rfl rfl<|s_off rfl rfl<|s_off rfl rfl<|s_off rfl rfl<|s_off rfl rfl<|s_off rfl rfl<|s_off rfl rfl<|s_off rfl rfl<|s_off rfl rfl<|s_off rfl rfl<|s_off rfl rfl<|s_off rfl rfl<|s_on rfl<|s_q (.bool false) rfl trivial rfl<|s_q (.bool false) rfl trivial rfl<|w_done<|?_;obtain rfl:=os hb2;exact ⟨[],[0],_,_,rfl,rfl,⟨.refl _,⟨.refl _,⟨.refl _,trivial⟩⟩⟩,(.refl _)⟩
      ·rcases oi hc1 with ⟨c342,hc1⟩ | ⟨c342,hc1⟩
       ·refine w_condt rfl c342<|sr<|s_mov (.bool false) rfl<|dk<|w_ret<|?_;obtain rfl:=os hc1;obtain rfl:=os hf;exact r_flat ⟨trivial,trivial⟩ rfl (.refl _)
       ·refine w_condf rfl (bf c342)<|w_skip<|k_blk<|k_seq<|w_reg<|s_mov (.int .i64 (i_287:Int)) rfl<|s_q (.int .i64 (w64 ((i_287:Int) + 1))) rfl rfl rfl<|s_mov (.int .i64 (w64 ((i_287:Int) + 1))) rfl<|w_done<|?_;exact k_loopn ⟨(i_287 + 1),hc1⟩ (mul hlt317) ⟨[],[0],_,_,rfl,rfl,⟨.refl _,⟨.of_eq (congrArg (AV.int _) (w64_incr hlt317 hl325)),trivial⟩⟩,(.refl _)⟩
    ·rintro ⟨_,rfl⟩
     refine sr<|s_mov (.bool true) rfl<|dk<|w_ret<|?_;obtain rfl:=os hf;exact r_flat ⟨trivial,trivial⟩ rfl (.refl _)

/- spec.l04Find -/
def c50:ACode :=
 (.seq (.reg (tq 2 (.box 1 (.t 0)) (tm 4 (.c (.int .i64 0)) .done)))
 (.seq (.seq (.reg (tm 5 (.c (.int .i64 0)) .done))
 (.block 0 (.loop (.seq (.seq (.reg (tm 6 (.t 5) (tq 7 (.faddr 0 (.t 2)) (tq 8 (.load 1 false (.t 7)) (tq 9 (.len (.t 8)) (tq 10 (.bin .lss (.t 6) (.t 9)) .done))))))
 (.cond (.t 10) .skip
 (.exit 0)))
 (.seq (.block 1 (.seq (.reg (tq 13 (.faddr 0 (.t 2)) (tq 14 (.load 1 false (.t 13)) (tm 15 (.t 5) (tq 16 (.iaddr 4 (.t 14) (.t 15)) (tq 17 (.faddr 0 (.t 16)) (tq 18 (.load 1 false (.t 17)) (tm 19 (.t 1) (tq 20 (.bin .eql (.t 18) (.t 19)) .done)))))))))
 (.cond (.t 20) (.seq (.reg (tm 21 (.t 5) (tm 4 (.t 21) .done)))
 .ret)
 .skip)))
 (.reg (tm 11 (.t 5) (tq 12 (.bin .add (.t 11) (.c (.int .i64 1))) (tm 5 (.t 12) .done)))))))))
 (.cut (.seq (.reg (tq 4 (.mov (.c (.int .i64 (-1)))) .done))
 .ret))))
theorem fc50:fcomp Tryz.prog Tryz.f50 = some (c50.erase,[.mov (.t 4)],22):=by kernel_rfl
def spec_l04Find_L1 (name_2:Str):List GTable → Nat → Option (Fl Int Unit)
  | [],i_14 =>
    some (.go ())
  | x_28 :: xs,i_14 =>
    if (x_28.Name == name_2) then
    some (.ret (i_14:Int))
    else
    spec_l04Find_L1 name_2 xs (i_14 + 1)

def spec_l04Find (s_1:GSchema) (name_2:Str):Option Int :=
    (spec_l04Find_L1 name_2 s_1.Tables 0).bind fun q => (match q with
    | .ret r => some r
    | .go _ =>
    some (-1))
theorem w_spec_l04Find (s_1:GSchema) (name_2:Str) (r:Int) (hf:spec_l04Find s_1 name_2 = some r):CallOK Tryz.prog 50 .flat [(encGSchema s_1),(.str name_2)] (.int .i64 r):=by
 refine CallOK.of_awp mixed Tryz.func50 fc50 nle ?_;rw [argT_eq];unfold spec_l04Find at hf;unfold c50;refine (show awp Tryz.prog false 0 _ (ofL [(0,(encGSchema s_1)),(1,(.str name_2))]) [] _ from ?_);refine sr<|s_do (o_box (j:=0) (c:=(.agg [(.lst 4 (s_1.Tables.map encGTable))])) rfl trivial rfl rfl)<|s_mov (.int .i64 0) rfl<|dk<|awp_seq<|sr<|s_mov (.int .i64 0) rfl<|dk<|?_
 obtain ⟨p21,hb1,hf⟩:=ob hf
 refine awp_cutx (X:={q:Unit // p21 = .go q}) (fun q => ([],[])) ?_ ?_
 ·refine awp_loop (X:={q:Nat // spec_l04Find_L1 name_2 (s_1.Tables.drop q) q = some p21}) (fun q => ([(1,(.str name_2)),(2,(.ptr 0 0 0)),(5,(.int .i64 (q.1:Int)))],[.box 1 (.agg [(.lst 4 (s_1.Tables.map encGTable))])])) (fun q => s_1.Tables.length - q.1) ⟨0,hb1⟩ ⟨[],[0],_,_,rfl,rfl,⟨.refl _,⟨.refl _,⟨.refl _,trivial⟩⟩⟩,(.refl _)⟩ ?_
  rintro ⟨i_14,hc1⟩
  have hc1:spec_l04Find_L1 name_2 (s_1.Tables.drop i_14) i_14 = some p21:=hc1
  refine (show awp Tryz.prog false 0 _ (ofL [(1,(.str name_2)),(2,(.ptr 0 0 0)),(5,(.int .i64 (i_14:Int)))]) [.box 1 (.agg [(.lst 4 (s_1.Tables.map encGTable))])] _ from ?_)
  rcases dropc s_1.Tables i_14 with ⟨hie24,hd27⟩ | ⟨hlt22,x_28,hx23,hd27⟩
  ·rw [hd27,spec_l04Find_L1.eq_1] at hc1
   have hq26:=dlf hie24
   refine awp_seq<|sr<|s_mov (.int .i64 (i_14:Int)) rfl<|s_q (.ptr 0 0 0) rfl trivial rfl<|s_q (.lst 4 (s_1.Tables.map encGTable)) rfl nle rfl<|s_dof (o_len (enc:=encGTable) rfl) fun hl29 => s_q (.bool (decide ((i_14:Int) < (s_1.Tables.length:Int)))) rfl rfl rfl<|dk<|w_condf rfl hq26<|w_exit<|k_seqx<|k_loopx<|k_blkx<|?_;obtain rfl:=os hc1;exact k_cutn ⟨_,rfl⟩ ⟨[],[],_,_,rfl,rfl,trivial,(.refl _)⟩
  ·rw [hd27,spec_l04Find_L1.eq_2] at hc1
   have hq26:=dlt hlt22
   refine awp_seq<|sr<|s_mov (.int .i64 (i_14:Int)) rfl<|s_q (.ptr 0 0 0) rfl trivial rfl<|s_q (.lst 4 (s_1.Tables.map encGTable)) rfl nle rfl<|s_dof (o_len (enc:=encGTable) rfl) fun hl30 => s_q (.bool (decide ((i_14:Int) < (s_1.Tables.length:Int)))) rfl rfl rfl<|dk<|w_condt rfl hq26<|w_skip<|k_seq<|awp_seq<|w_blk<|sr<|s_q (.ptr 0 0 0) rfl trivial rfl<|s_q (.lst 4 (s_1.Tables.map encGTable)) rfl nle rfl<|s_mov (.int .i64 (i_14:Int)) rfl<|s_do (o_iaddrn (enc:=encGTable) rfl rfl hx23)<|s_q (.iptr (encGTable x_28) 0) rfl trivial rfl<|s_q (.str x_28.Name) rfl nle rfl<|s_mov (.str name_2) rfl<|s_q (.bool (x_28.Name == name_2)) rfl trivial rfl<|?_
   refine dk<|?_
   rcases oi hc1 with ⟨c31,hc1⟩ | ⟨c31,hc1⟩
   ·refine w_condt rfl c31<|sr<|s_mov (.int .i64 (i_14:Int)) rfl<|s_mov (.int .i64 (i_14:Int)) rfl<|dk<|w_ret<|?_;obtain rfl:=os hc1;obtain rfl:=os hf;exact r_flat ⟨trivial,trivial⟩ rfl (.refl _)
   ·refine w_condf rfl (bf c31)<|w_skip<|k_blk<|k_seq<|w_reg<|s_mov (.int .i64 (i_14:Int)) rfl<|s_q (.int .i64 (w64 ((i_14:Int) + 1))) rfl rfl rfl<|s_mov (.int .i64 (w64 ((i_14:Int) + 1))) rfl<|w_done<|?_;exact k_loopn ⟨(i_14 + 1),hc1⟩ (mul hlt22) ⟨[],[0],_,_,rfl,rfl,⟨.refl _,⟨.refl _,⟨.of_eq (congrArg (AV.int _) (w64_incr hlt22 hl30)),trivial⟩⟩⟩,(.refl _)⟩
 ·rintro ⟨_,rfl⟩
  refine sr<|s_mov (.int .i64 (-1)) rfl<|dk<|w_ret<|?_;obtain rfl:=os hf;exact r_flat ⟨trivial,trivial⟩ rfl (.refl _)

/- spec.SchemaOK -/
def c20:ACode :=
 (.seq (.reg (tq 1 (.box 1 (.t 0)) (tm 2 (.c (.bool false)) .done)))
 (.seq (.seq (.reg (tq 6 (.faddr 0 (.t 1)) (tq 7 (.load 1 false (.t 6)) (tq 8 (.len (.t 7)) (tq 9 (.call 48 [(.t 8),(.c (.int .i64 1)),(.c (.int .i64 4))]) (tq 10 (.not (.t 9)) .done))))))
 (.cond (.t 10) (.seq (.reg (tm 2 (.c (.bool false)) .done))
 .ret)
 .skip))
 (.seq (.seq (.reg (tm 3 (.c (.int .i64 0)) .done))
 (.block 0 (.loop (.seq (.seq (.reg (tm 11 (.t 3) (tq 12 (.faddr 0 (.t 1)) (tq 13 (.load 1 false (.t 12)) (tq 14 (.len (.t 13)) (tq 15 (.bin .lss (.t 11) (.t 14)) .done))))))
 (.cond (.t 15) .skip
 (.exit 0)))
 (.seq (.block 1 (.seq (.seq (.reg (tq 18 (.faddr 0 (.t 1)) (tq 19 (.load 1 false (.t 18)) (tm 20 (.t 3) (tq 21 (.iaddr 4 (.t 19) (.t 20)) (tq 22 (.load 4 true (.t 21)) (.l ⟨(some 23),none,.call 49 [(.t 22)]⟩ []
 (tq 24 (.not (.t 23)) (tm 25 (.t 24) (tg 26 25 false (.mov (.t 3)) (tg 27 25 false (.bin .gtr (.t 26) (.c (.int .i64 0))) (tg 28 25 false (.mov (.t 27)) (tg 29 28 true (.faddr 0 (.t 1)) (tg 30 28 true (.load 1 false (.t 29)) (tg 31 28 true (.mov (.t 3)) (tg 32 28 true (.bin .sub (.t 31) (.c (.int .i64 1))) (tg 33 28 true (.iaddr 4 (.t 30) (.t 32)) (tg 34 28 true (.faddr 0 (.t 33)) (tg 35 28 true (.load 1 false (.t 34)) (tg 36 28 true (.faddr 0 (.t 1)) (tg 37 28 true (.load 1 false (.t 36)) (tg 38 28 true (.mov (.t 3)) (tg 39 28 true (.iaddr 4 (.t 37) (.t 38)) (tg 40 28 true (.faddr 0 (.t 39)) (tg 41 28 true (.load 1 false (.t 40)) (tg 42 28 true (.bin .geq (.t 35) (.t 41)) (tg 43 25 false (.pick (.t 28) (.t 42) (.c (.bool false))) (tq 44 (.pick (.t 25) (.c (.bool true)) (.t 43)) .done))))))))))))))))))))) .non)))))))
 (.cut (.cond (.t 44) (.seq (.reg (tm 2 (.c (.bool false)) .done))
 .ret)
 .skip)))
 (.seq (.reg (tm 4 (.c (.int .i64 0)) .done))
 (.block 2 (.loop (.seq (.seq (.reg (tm 45 (.t 4) (tq 46 (.faddr 0 (.t 1)) (tq 47 (.load 1 false (.t 46)) (tm 48 (.t 3) (tq 49 (.iaddr 4 (.t 47) (.t 48)) (tq 50 (.faddr 1 (.t 49)) (tq 51 (.load 1 false (.t 50)) (tq 52 (.len (.t 51)) (tq 53 (.bin .lss (.t 45) (.t 52)) .done))))))))))
 (.cond (.t 53) .skip
 (.exit 2)))
 (.seq (.block 3 (.seq (.reg (tq 56 (.faddr 0 (.t 1)) (tq 57 (.load 1 false (.t 56)) (tm 58 (.t 3) (tq 59 (.iaddr 4 (.t 57) (.t 58)) (tq 60 (.faddr 1 (.t 59)) (tq 61 (.load 1 false (.t 60)) (tm 62 (.t 4) (tq 63 (.iaddr 8 (.t 61) (.t 62)) (tq 64 (.load 8 true (.t 63)) (tq 5 (.box 8 (.c (.agg [(.str []),(.int .i64 0),(.int .i64 0),(.int .i64 0),(.int .i64 0),(.int .i64 0),(.str []),(.bool false)]))) (.q ⟨none,none,.store 8 (.t 5) (.t 64)⟩
 .done))))))))))))
 (.seq (.reg (tq 65 (.faddr 6 (.t 5)) (tq 66 (.load 1 false (.t 65)) (tq 67 (.bin .neq (.t 66) (.c (.str []))) (tm 68 (.t 67) (tg 69 68 true (.load 1 true (.t 1)) (tg 70 68 true (.faddr 6 (.t 5)) (tg 71 68 true (.load 1 false (.t 70)) (tg 72 68 true (.call 50 [(.t 69),(.t 71)]) (tg 73 68 true (.bin .lss (.t 72) (.c (.int .i64 0))) (tq 74 (.pick (.t 68) (.t 73) (.c (.bool false))) .done)))))))))))
 (.cut (.cond (.t 74) (.seq (.reg (tm 2 (.c (.bool false)) .done))
 .ret)
 .skip)))))
 (.reg (tm 54 (.t 4) (tq 55 (.bin .add (.t 54) (.c (.int .i64 1))) (tm 4 (.t 55) .done)))))))))))
 (.cut (.reg (tm 16 (.t 3) (tq 17 (.bin .add (.t 16) (.c (.int .i64 1))) (tm 3 (.t 17) .done))))))))))
 (.cut (.seq (.reg (tm 2 (.c (.bool true)) .done))
 .ret)))))
theorem fc20:fcomp Tryz.prog Tryz.f20 = some (c20.erase,[.mov (.t 2)],75):=by kernel_rfl
def spec_SchemaOK_L2 (s_1:GSchema):List GColumn → Option (Fl Bool Unit)
  | [] =>
    some (.go ())
  | x_539 :: xs =>
    ((if (!(x_539.Ref == [])) then
    (spec_l04Find s_1 x_539.Ref).bind fun r_548 =>
    some (decide (r_548 < 0))
    else
    some false:Option Bool)).bind fun s74_545 =>
    if s74_545 then
    some (.ret false)
    else
    spec_SchemaOK_L2 s_1 xs 

def spec_SchemaOK_L1 (s_1:GSchema):List GTable → Nat → Option (Fl Bool Unit)
  | [],i_311 =>
    some (.go ())
  | x_472 :: xs,i_311 =>
    (((spec_l04Table x_472).bind fun r_483 =>
    if (!r_483) then
    some true
    else
    if (decide ((i_311:Int) > 0)) then
    (idx s_1.Tables (w64 ((i_311:Int) - 1))).bind fun x_487 =>
    some (!Op.bytesLess x_487.Name x_472.Name)
    else
    some false:Option Bool)).bind fun s44_481 =>
    if s44_481 then
    some (.ret false)
    else
    (spec_SchemaOK_L2 s_1 x_472.Columns ).bind fun q => (match q with
    | .ret r => some (.ret r)
    | .go _ =>
    spec_SchemaOK_L1 s_1 xs (i_311 + 1))

def spec_SchemaOK (s_1:GSchema):Option Bool :=
    (spec_l01In (s_1.Tables.length:Int) 1 4).bind fun r_3 =>
    if (!r_3) then
    some false
    else
    (spec_SchemaOK_L1 s_1 s_1.Tables 0).bind fun q => (match q with
    | .ret r => some r
    | .go _ =>
    some true)
theorem w_spec_SchemaOK (s_1:GSchema) (r:Bool) (hf:spec_SchemaOK s_1 = some r):CallOK Tryz.prog 20 .flat [(encGSchema s_1)] (.bool r):=by
 refine CallOK.of_awp mixed Tryz.func20 fc20 nle ?_;rw [argT_eq];unfold spec_SchemaOK at hf;unfold c20;refine (show awp Tryz.prog false 0 _ (ofL [(0,(encGSchema s_1))]) [] _ from ?_);refine sr<|s_do (o_box (j:=0) (c:=(.agg [(.lst 4 (s_1.Tables.map encGTable))])) rfl trivial rfl rfl)<|s_mov (.bool false) rfl<|dk<|awp_seq<|sr<|?_
 obtain ⟨r_3,er4,hf⟩:=ob hf
 refine s_q (.ptr 0 0 0) rfl trivial rfl<|s_q (.lst 4 (s_1.Tables.map encGTable)) rfl nle rfl<|s_dof (o_len (enc:=encGTable) rfl) fun hl2 => s_do (o_call (w_spec_l01In _ _ _ _ er4) rfl (.refl _) rfl)<|s_q (.bool (!r_3)) rfl trivial rfl<|dk<|?_
 rcases oi hf with ⟨c5,hf⟩ | ⟨c5,hf⟩
 ·refine w_condt rfl c5<|sr<|s_mov (.bool false) rfl<|dk<|w_ret<|?_;obtain rfl:=os hf;exact r_flat ⟨trivial,trivial⟩ rfl (.refl _)
 ·refine w_condf rfl (bf c5)<|w_skip<|k_seq<|awp_seq<|sr<|s_mov (.int .i64 0) rfl<|dk<|?_
  obtain ⟨p465,hb1,hf⟩:=ob hf
  refine awp_cutx (X:={q:Unit // p465 = .go q}) (fun q => ([],[])) ?_ ?_
  ·refine awp_loop (X:={q:Nat // spec_SchemaOK_L1 s_1 (s_1.Tables.drop q) q = some p465}) (fun q => ([(1,(.ptr 0 0 0)),(3,(.int .i64 (q.1:Int)))],[.box 1 (.agg [(.lst 4 (s_1.Tables.map encGTable))])])) (fun q => s_1.Tables.length - q.1) ⟨0,hb1⟩ ⟨[],[0],_,_,rfl,rfl,⟨.refl _,⟨.refl _,trivial⟩⟩,(.refl _)⟩ ?_
   rintro ⟨i_311,hc1⟩
   have hc1:spec_SchemaOK_L1 s_1 (s_1.Tables.drop i_311) i_311 = some p465:=hc1
   refine (show awp Tryz.prog false 0 _ (ofL [(1,(.ptr 0 0 0)),(3,(.int .i64 (i_311:Int)))]) [.box 1 (.agg [(.lst 4 (s_1.Tables.map encGTable))])] _ from ?_)
   rcases dropc s_1.Tables i_311 with ⟨hie468,hd471⟩ | ⟨hlt466,x_472,hx467,hd471⟩
   ·rw [hd471,spec_SchemaOK_L1.eq_1] at hc1
    have hq470:=dlf hie468
    refine awp_seq<|sr<|s_mov (.int .i64 (i_311:Int)) rfl<|s_q (.ptr 0 0 0) rfl trivial rfl<|s_q (.lst 4 (s_1.Tables.map encGTable)) rfl nle rfl<|s_dof (o_len (enc:=encGTable) rfl) fun hl473 => s_q (.bool (decide ((i_311:Int) < (s_1.Tables.length:Int)))) rfl rfl rfl<|dk<|w_condf rfl hq470<|w_exit<|k_seqx<|k_loopx<|k_blkx<|?_;obtain rfl:=os hc1;exact k_cutn ⟨_,rfl⟩ ⟨[],[],_,_,rfl,rfl,trivial,(.refl _)⟩
   ·rw [hd471,spec_SchemaOK_L1.eq_2] at hc1
    have hq470:=dlt hlt466
    refine awp_seq<|sr<|s_mov (.int .i64 (i_311:Int)) rfl<|s_q (.ptr 0 0 0) rfl trivial rfl<|s_q (.lst 4 (s_1.Tables.map encGTable)) rfl nle rfl<|s_dof (o_len (enc:=encGTable) rfl) fun hl474 => s_q (.bool (decide ((i_311:Int) < (s_1.Tables.length:Int)))) rfl rfl rfl<|dk<|w_condt rfl hq470<|w_skip<|k_seq<|awp_seq<|w_blk<|awp_seq<|awp_seq<|?_
    obtain ⟨s44_481,hb2,hc1⟩:=ob hc1
    refine awp_cut ([(1,(.ptr 0 0 0)),(3,(.int .i64 (i_311:Int))),(44,(.bool s44_481))],[.box 1 (.agg [(.lst 4 (s_1.Tables.map encGTable))])]) ?_ ?_
    ·refine w_reg<|s_q (.ptr 0 0 0) rfl trivial rfl<|s_q (.lst 4 (s_1.Tables.map encGTable)) rfl nle rfl<|s_mov (.int .i64 (i_311:Int)) rfl<|s_do (o_iaddrn (enc:=encGTable) rfl rfl hx467)<|s_q (encGTable x_472) rfl nle rfl<|?_
     obtain ⟨r_483,er484,hb2⟩:=ob hb2
     refine s_dol (o_call (w_spec_l04Table _ _ er484) rfl (.refl _) rfl) a_same trivial<|s_q (.bool (!r_483)) rfl trivial rfl<|s_mov (.bool (!r_483)) rfl<|?_
     rcases oi hb2 with ⟨c485,hb2⟩ | ⟨c485,hb2⟩
     ·refine s_lit (s:=25) (b:=true) rfl c485<|s_off rfl rfl<|s_off rfl rfl<|s_off rfl rfl<|s_offs rfl<|s_offs rfl<|s_offs rfl<|s_offs rfl<|s_offs rfl<|s_offs rfl<|s_offs rfl<|s_offs rfl<|s_offs rfl<|s_offs rfl<|s_offs rfl<|s_offs rfl<|s_offs rfl<|s_offs rfl<|s_off rfl rfl<|s_q (.bool true) rfl trivial rfl<|w_done<|?_;obtain rfl:=os hb2;exact ⟨[],[0],_,_,rfl,rfl,⟨.refl _,⟨.refl _,⟨.refl _,trivial⟩⟩⟩,(.refl _)⟩
     ·refine s_lit (s:=25) (b:=false) rfl (bf c485)<|s_on rfl<|s_mov (.int .i64 (i_311:Int)) rfl<|s_on rfl<|s_q (.bool (decide ((i_311:Int) > 0))) rfl rfl rfl<|s_on rfl<|s_mov (.bool (decide ((i_311:Int) > 0))) rfl<|?_
      rcases oi hb2 with ⟨c486,hb2⟩ | ⟨c486,hb2⟩
      ·refine s_lit (s:=28) (b:=true) rfl c486<|s_on rfl<|s_q (.ptr 0 0 0) rfl trivial rfl<|s_on rfl<|s_q (.lst 4 (s_1.Tables.map encGTable)) rfl nle rfl<|s_on rfl<|s_mov (.int .i64 (i_311:Int)) rfl<|s_on rfl<|s_q (.int .i64 (w64 ((i_311:Int) - 1))) rfl rfl rfl<|s_on rfl<|?_
       obtain ⟨x_487,ex488,hb2⟩:=ob hb2
       refine s_do (o_iaddr (enc:=encGTable) rfl rfl (idx0 ex488) (idx1 ex488))<|s_on rfl<|s_q (.iptr (encGTable x_487) 0) rfl trivial rfl<|s_on rfl<|s_q (.str x_487.Name) rfl nle rfl<|s_on rfl<|s_q (.ptr 0 0 0) rfl trivial rfl<|s_on rfl<|s_q (.lst 4 (s_1.Tables.map encGTable)) rfl nle rfl<|s_on rfl<|s_mov (.int .i64 (i_311:Int)) rfl<|s_on rfl<|s_do (o_iaddrn (enc:=encGTable) rfl rfl hx467)<|s_on rfl<|s_q (.iptr (encGTable x_472) 0) rfl trivial rfl<|s_on rfl<|s_q (.str x_472.Name) rfl nle rfl<|s_on rfl<|s_q (.bool (!Op.bytesLess x_487.Name x_472.Name)) rfl trivial rfl<|s_on rfl<|s_q (.bool (!Op.bytesLess x_487.Name x_472.Name)) rfl trivial rfl<|s_q (.bool (!Op.bytesLess x_487.Name x_472.Name)) rfl trivial rfl<|?_
       refine w_done ?_;obtain rfl:=os hb2;exact ⟨[],[0],_,_,rfl,rfl,⟨.refl _,⟨.refl _,⟨.refl _,trivial⟩⟩⟩,(.refl _)⟩
      ·refine s_lit (s:=28) (b:=false) rfl (bf c486)<|s_off rfl rfl<|s_off rfl rfl<|s_off rfl rfl<|s_off rfl rfl<|s_off rfl rfl<|s_off rfl rfl<|s_off rfl rfl<|s_off rfl rfl<|s_off rfl rfl<|s_off rfl rfl<|s_off rfl rfl<|s_off rfl rfl<|s_off rfl rfl<|s_off rfl rfl<|s_on rfl<|s_q (.bool false) rfl trivial rfl<|s_q (.bool false) rfl trivial rfl<|w_done<|?_;obtain rfl:=os hb2;exact ⟨[],[0],_,_,rfl,rfl,⟨.refl _,⟨.refl _,⟨.refl _,trivial⟩⟩⟩,(.refl _)⟩
    ·rcases oi hc1 with ⟨c489,hc1⟩ | ⟨c489,hc1⟩
     ·refine w_condt rfl c489<|sr<|s_mov (.bool false) rfl<|dk<|w_ret<|?_;obtain rfl:=os hc1;obtain rfl:=os hf;exact r_flat ⟨trivial,trivial⟩ rfl (.refl _)
     ·refine w_condf rfl (bf c489)<|w_skip<|k_seq<|sr<|s_mov (.int .i64 0) rfl<|dk<|?_
      obtain ⟨p532,hb2,hc1⟩:=ob hc1
      refine awp_cutxb (X:={q:Unit // p532 = .go q}) (fun q => ([(1,(.ptr 0 0 0)),(3,(.int .i64 (i_311:Int)))],[.box 1 (.agg [(.lst 4 (s_1.Tables.map encGTable))])])) ?_ ?_
      ·refine awp_loop (X:={q:Nat // spec_SchemaOK_L2 s_1 (x_472.Columns.drop q)  = some p532}) (fun q => ([(1,(.ptr 0 0 0)),(3,(.int .i64 (i_311:Int))),(4,(.int .i64 (q.1:Int)))],[.box 1 (.agg [(.lst 4 (s_1.Tables.map encGTable))])])) (fun q => x_472.Columns.length - q.1) ⟨0,hb2⟩ ⟨[],[0],_,_,rfl,rfl,⟨.refl _,⟨.refl _,⟨.refl _,trivial⟩⟩⟩,(.refl _)⟩ ?_
       rintro ⟨k_517,hc2⟩
       have hc2:spec_SchemaOK_L2 s_1 (x_472.Columns.drop k_517)  = some p532:=hc2
       refine (show awp Tryz.prog false 0 _ (ofL [(1,(.ptr 0 0 0)),(3,(.int .i64 (i_311:Int))),(4,(.int .i64 (k_517:Int)))]) [.box 1 (.agg [(.lst 4 (s_1.Tables.map encGTable))])] _ from ?_)
       rcases dropc x_472.Columns k_517 with ⟨hie535,hd538⟩ | ⟨hlt533,x_539,hx534,hd538⟩
       ·rw [hd538,spec_SchemaOK_L2.eq_1] at hc2
        have hq537:=dlf hie535
        refine awp_seq<|sr<|s_mov (.int .i64 (k_517:Int)) rfl<|s_q (.ptr 0 0 0) rfl trivial rfl<|s_q (.lst 4 (s_1.Tables.map encGTable)) rfl nle rfl<|s_mov (.int .i64 (i_311:Int)) rfl<|s_do (o_iaddrn (enc:=encGTable) rfl rfl hx467)<|s_q (.iptr (encGTable x_472) 1) rfl trivial rfl<|s_q (.lst 8 (x_472.Columns.map encGColumn)) rfl nle rfl<|s_dof (o_len (enc:=encGColumn) rfl) fun hl540 => s_q (.bool (decide ((k_517:Int) < (x_472.Columns.length:Int)))) rfl rfl rfl<|dk<|w_condf rfl hq537<|w_exit<|k_seqx<|k_loopx<|k_blkx<|k_blk<|?_;obtain rfl:=os hc2;exact k_cutn ⟨_,rfl⟩ ⟨[],[0],_,_,rfl,rfl,⟨.refl _,⟨.refl _,trivial⟩⟩,(.refl _)⟩
       ·rw [hd538,spec_SchemaOK_L2.eq_2] at hc2
        have hq537:=dlt hlt533
        refine awp_seq<|sr<|s_mov (.int .i64 (k_517:Int)) rfl<|s_q (.ptr 0 0 0) rfl trivial rfl<|s_q (.lst 4 (s_1.Tables.map encGTable)) rfl nle rfl<|s_mov (.int .i64 (i_311:Int)) rfl<|s_do (o_iaddrn (enc:=encGTable) rfl rfl hx467)<|s_q (.iptr (encGTable x_472) 1) rfl trivial rfl<|s_q (.lst 8 (x_472.Columns.map encGColumn)) rfl nle rfl<|s_dof (o_len (enc:=encGColumn) rfl) fun hl541 => s_q (.bool (decide ((k_517:Int) < (x_472.Columns.length:Int)))) rfl rfl rfl<|dk<|w_condt rfl hq537<|w_skip<|k_seq<|awp_seq<|w_blk<|sr<|s_q (.ptr 0 0 0) rfl trivial rfl<|s_q (.lst 4 (s_1.Tables.map encGTable)) rfl nle rfl<|s_mov (.int .i64 (i_311:Int)) rfl<|?_
        refine s_do (o_iaddrn (enc:=encGTable) rfl rfl hx467)<|s_q (.iptr (encGTable x_472) 1) rfl trivial rfl<|s_q (.lst 8 (x_472.Columns.map encGColumn)) rfl nle rfl<|s_mov (.int .i64 (k_517:Int)) rfl<|s_do (o_iaddrn (enc:=encGColumn) rfl rfl hx534)<|s_q (encGColumn x_539) rfl nle rfl<|s_do (o_box (j:=1) (c:=(.agg [(.str []),(.int .i64 0),(.int .i64 0),(.int .i64 0),(.int .i64 0),(.int .i64 0),(.str []),(.bool false)])) rfl trivial rfl rfl)<|s_do0 (o_storebox (v:=(.agg [(.str x_539.Name),(.int .i64 x_539.Kind),(.int .i64 x_539.Min),(.int .i64 x_539.Max),(.int .i64 x_539.Low),(.int .i64 x_539.High),(.str x_539.Ref),(.bool x_539.Strong)])) (y':=(.agg [(.str x_539.Name),(.int .i64 x_539.Kind),(.int .i64 x_539.Min),(.int .i64 x_539.Max),(.int .i64 x_539.Low),(.int .i64 x_539.High),(.str x_539.Ref),(.bool x_539.Strong)])) rfl rfl rfl trivial ⟨rfl,nle⟩ ⟨⟨rfl,trivial⟩,⟨⟨rfl,trivial⟩,⟨⟨rfl,trivial⟩,⟨⟨rfl,trivial⟩,⟨⟨rfl,trivial⟩,⟨⟨rfl,trivial⟩,⟨⟨rfl,trivial⟩,⟨⟨rfl,trivial⟩,trivial⟩⟩⟩⟩⟩⟩⟩⟩ rfl)<|?_
        refine dk<|awp_seq<|?_
        obtain ⟨s74_545,hb3,hc2⟩:=ob hc2
        refine awp_cut ([(1,(.ptr 0 0 0)),(3,(.int .i64 (i_311:Int))),(4,(.int .i64 (k_517:Int))),(74,(.bool s74_545))],[.box 1 (.agg [(.lst 4 (s_1.Tables.map encGTable))])]) ?_ ?_
        ·refine w_reg ?_
         rcases oi hb3 with ⟨c547,hb3⟩ | ⟨c547,hb3⟩
         ·obtain ⟨r_548,er549,hb3⟩:=ob hb3
          refine s_q (.ptr 1 0 6) rfl trivial rfl<|s_q (.str x_539.Ref) rfl nle rfl<|s_q (.bool (!(x_539.Ref == []))) rfl trivial rfl<|s_mov (.bool (!(x_539.Ref == []))) rfl<|s_lit (s:=68) (b:=true) rfl c547<|s_on rfl<|s_q (.agg [(.lst 4 (s_1.Tables.map encGTable))]) rfl nle rfl<|s_on rfl<|s_q (.ptr 1 0 6) rfl trivial rfl<|s_on rfl<|s_q (.str x_539.Ref) rfl nle rfl<|s_on rfl<|s_do (o_call (w_spec_l04Find _ _ _ er549) rfl (.refl _) rfl)<|s_on rfl<|s_q (.bool (decide (r_548 < 0))) rfl rfl rfl<|s_q (.bool (decide (r_548 < 0))) rfl trivial rfl<|w_done<|?_;obtain rfl:=os hb3;exact ⟨[],[0],_,_,rfl,rfl,⟨.refl _,⟨.refl _,⟨.refl _,⟨.refl _,trivial⟩⟩⟩⟩,(.refl _)⟩
         ·refine s_q (.ptr 1 0 6) rfl trivial rfl<|s_q (.str x_539.Ref) rfl nle rfl<|s_q (.bool (!(x_539.Ref == []))) rfl trivial rfl<|s_mov (.bool (!(x_539.Ref == []))) rfl<|s_lit (s:=68) (b:=false) rfl (bf c547)<|s_off rfl rfl<|s_off rfl rfl<|s_off rfl rfl<|s_off rfl rfl<|s_off rfl rfl<|s_q (.bool false) rfl trivial rfl<|w_done<|?_;obtain rfl:=os hb3;exact ⟨[],[0],_,_,rfl,rfl,⟨.refl _,⟨.refl _,⟨.refl _,⟨.refl _,trivial⟩⟩⟩⟩,(.refl _)⟩
        ·rcases oi hc2 with ⟨c550,hc2⟩ | ⟨c550,hc2⟩
         ·refine w_condt rfl c550<|sr<|s_mov (.bool false) rfl<|dk<|w_ret<|?_;obtain rfl:=os hc2;obtain rfl:=os hc1;obtain rfl:=os hf;exact r_flat ⟨trivial,trivial⟩ rfl (.refl _)
         ·refine w_condf rfl (bf c550)<|w_skip<|k_blk<|k_seq<|w_reg<|s_mov (.int .i64 (k_517:Int)) rfl<|s_q (.int .i64 (w64 ((k_517:Int) + 1))) rfl rfl rfl<|s_mov (.int .i64 (w64 ((k_517:Int) + 1))) rfl<|w_done<|?_;exact k_loopn ⟨(k_517 + 1),hc2⟩ (mul hlt533) ⟨[],[0],_,_,rfl,rfl,⟨.refl _,⟨.refl _,⟨.of_eq (congrArg (AV.int _) (w64_incr hlt533 hl541)),trivial⟩⟩⟩,(.refl _)⟩
      ·rintro ⟨_,rfl⟩
       refine w_reg<|s_mov (.int .i64 (i_311:Int)) rfl<|s_q (.int .i64 (w64 ((i_311:Int) + 1))) rfl rfl rfl<|s_mov (.int .i64 (w64 ((i_311:Int) + 1))) rfl<|w_done<|?_;exact k_loopn ⟨(i_311 + 1),hc1⟩ (mul hlt466) ⟨[],[0],_,_,rfl,rfl,⟨.refl _,⟨.of_eq (congrArg (AV.int _) (w64_incr hlt466 hl474)),trivial⟩⟩,(.refl _)⟩
  ·rintro ⟨_,rfl⟩
   refine sr<|s_mov (.bool true) rfl<|dk<|w_ret<|?_;obtain rfl:=os hf;exact r_flat ⟨trivial,trivial⟩ rfl (.refl _)

/- spec.l01Text -/
def c179:ACode :=
 (.seq (.reg (tm 2 (.c (.bool false)) .done))
 (.seq (.seq (.reg (tm 3 (.c (.int .i64 0)) .done))
 (.block 0 (.loop (.seq (.seq (.reg (tm 4 (.t 3) (tm 5 (.t 0) (tq 6 (.lenS (.t 5)) (tq 7 (.bin .lss (.t 4) (.t 6)) .done)))))
 (.cond (.t 7) .skip
 (.exit 0)))
 (.seq (.block 1 (.seq (.reg (tm 10 (.t 0) (tm 11 (.t 3) (tq 12 (.idxs (.t 10) (.t 11)) (tq 13 (.bin .lss (.t 12) (.c (.int .u8 32))) (tm 14 (.t 13) (tg 15 14 false (.mov (.t 0)) (tg 16 14 false (.mov (.t 3)) (tg 17 14 false (.idxs (.t 15) (.t 16)) (tg 18 14 false (.bin .gtr (.t 17) (.c (.int .u8 126))) (tq 19 (.pick (.t 14) (.c (.bool true)) (.t 18)) .done)))))))))))
 (.cut (.cond (.t 19) (.seq (.reg (tm 2 (.c (.bool false)) .done))
 .ret)
 .skip))))
 (.reg (tm 8 (.t 3) (tq 9 (.bin .add (.t 8) (.c (.int .i64 1))) (tm 3 (.t 9) .done)))))))))
 (.cut (.seq (.reg (tm 20 (.t 0) (tq 21 (.lenS (.t 20)) (tq 22 (.bin .leq (.t 21) (.c (.int .i64 200))) (tm 2 (.t 22) .done)))))
 .ret))))
theorem fc179:fcomp Tryz.prog Tryz.f179 = some (c179.erase,[.mov (.t 2)],23):=by kernel_rfl
def spec_l01Text_L1 :List UInt8 → Option (Fl Bool Unit)
  | [] =>
    some (.go ())
  | x_57 :: xs =>
    ((if (decide ((x_57.toNat:Int) < 32)) then
    some true
    else
    some (decide ((x_57.toNat:Int) > 126)):Option Bool)).bind fun s19_61 =>
    if s19_61 then
    some (.ret false)
    else
    spec_l01Text_L1 xs 

def spec_l01Text (t_1:Str):Option Bool :=
    (spec_l01Text_L1 t_1 ).bind fun q => (match q with
    | .ret r => some r
    | .go _ =>
    some (decide ((t_1.length:Int) ≤ 200)))
theorem w_spec_l01Text (t_1:Str) (r:Bool) (hf:spec_l01Text t_1 = some r):CallOK Tryz.prog 179 .flat [(.str t_1)] (.bool r):=by
 refine CallOK.of_awp mixed Tryz.func179 fc179 nle ?_;rw [argT_eq];unfold spec_l01Text at hf;unfold c179;refine (show awp Tryz.prog false 0 _ (ofL [(0,(.str t_1))]) [] _ from ?_);refine sr<|s_mov (.bool false) rfl<|dk<|awp_seq<|sr<|s_mov (.int .i64 0) rfl<|dk<|?_
 obtain ⟨p50,hb1,hf⟩:=ob hf
 refine awp_cutx (X:={q:Unit // p50 = .go q}) (fun q => ([(0,(.str t_1))],[])) ?_ ?_
 ·refine awp_loop (X:={q:Nat // spec_l01Text_L1 (t_1.drop q)  = some p50}) (fun q => ([(0,(.str t_1)),(3,(.int .i64 (q.1:Int)))],[])) (fun q => t_1.length - q.1) ⟨0,hb1⟩ ⟨[],[],_,_,rfl,rfl,⟨.refl _,⟨.refl _,trivial⟩⟩,(.refl _)⟩ ?_
  rintro ⟨i_33,hc1⟩
  have hc1:spec_l01Text_L1 (t_1.drop i_33)  = some p50:=hc1
  refine (show awp Tryz.prog false 0 _ (ofL [(0,(.str t_1)),(3,(.int .i64 (i_33:Int)))]) [] _ from ?_)
  rcases dropc t_1 i_33 with ⟨hie53,hd56⟩ | ⟨hlt51,x_57,hx52,hd56⟩
  ·rw [hd56,spec_l01Text_L1.eq_1] at hc1
   have hq55:=dlf hie53
   refine awp_seq<|sr<|s_mov (.int .i64 (i_33:Int)) rfl<|s_mov (.str t_1) rfl<|s_dof (o_lenS rfl) fun hl58 => s_q (.bool (decide ((i_33:Int) < (t_1.length:Int)))) rfl rfl rfl<|dk<|w_condf rfl hq55<|w_exit<|k_seqx<|k_loopx<|k_blkx<|?_;obtain rfl:=os hc1;exact k_cutn ⟨_,rfl⟩ ⟨[],[],_,_,rfl,rfl,⟨.refl _,trivial⟩,(.refl _)⟩
  ·rw [hd56,spec_l01Text_L1.eq_2] at hc1
   have hq55:=dlt hlt51
   refine awp_seq<|sr<|s_mov (.int .i64 (i_33:Int)) rfl<|s_mov (.str t_1) rfl<|s_dof (o_lenS rfl) fun hl59 => s_q (.bool (decide ((i_33:Int) < (t_1.length:Int)))) rfl rfl rfl<|dk<|w_condt rfl hq55<|w_skip<|k_seq<|awp_seq<|w_blk<|awp_seq<|?_
   obtain ⟨s19_61,hb2,hc1⟩:=ob hc1
   refine awp_cut ([(0,(.str t_1)),(3,(.int .i64 (i_33:Int))),(19,(.bool s19_61))],[]) ?_ ?_
   ·refine w_reg ?_
    rcases oi hb2 with ⟨c63,hb2⟩ | ⟨c63,hb2⟩
    ·refine s_mov (.str t_1) rfl<|s_mov (.int .i64 (i_33:Int)) rfl<|s_do (o_idxsn rfl rfl hx52)<|s_q (.bool (decide ((x_57.toNat:Int) < 32))) rfl rfl rfl<|s_mov (.bool (decide ((x_57.toNat:Int) < 32))) rfl<|s_lit (s:=14) (b:=true) rfl c63<|s_off rfl rfl<|s_off rfl rfl<|s_off rfl rfl<|s_off rfl rfl<|s_q (.bool true) rfl trivial rfl<|w_done<|?_;obtain rfl:=os hb2;exact ⟨[],[],_,_,rfl,rfl,⟨.refl _,⟨.refl _,⟨.refl _,trivial⟩⟩⟩,(.refl _)⟩
    ·refine s_mov (.str t_1) rfl<|s_mov (.int .i64 (i_33:Int)) rfl<|s_do (o_idxsn rfl rfl hx52)<|s_q (.bool (decide ((x_57.toNat:Int) < 32))) rfl rfl rfl<|s_mov (.bool (decide ((x_57.toNat:Int) < 32))) rfl<|s_lit (s:=14) (b:=false) rfl (bf c63)<|s_on rfl<|s_mov (.str t_1) rfl<|s_on rfl<|s_mov (.int .i64 (i_33:Int)) rfl<|s_on rfl<|s_do (o_idxsn rfl rfl hx52)<|s_on rfl<|s_q (.bool (decide ((x_57.toNat:Int) > 126))) rfl rfl rfl<|s_q (.bool (decide ((x_57.toNat:Int) > 126))) rfl trivial rfl<|w_done<|?_;obtain rfl:=os hb2;exact ⟨[],[],_,_,rfl,rfl,⟨.refl _,⟨.refl _,⟨.refl _,trivial⟩⟩⟩,(.refl _)⟩
   ·rcases oi hc1 with ⟨c64,hc1⟩ | ⟨c64,hc1⟩
    ·refine w_condt rfl c64<|sr<|s_mov (.bool false) rfl<|dk<|w_ret<|?_;obtain rfl:=os hc1;obtain rfl:=os hf;exact r_flat ⟨trivial,trivial⟩ rfl (.refl _)
    ·refine w_condf rfl (bf c64)<|w_skip<|k_blk<|k_seq<|w_reg<|s_mov (.int .i64 (i_33:Int)) rfl<|s_q (.int .i64 (w64 ((i_33:Int) + 1))) rfl rfl rfl<|s_mov (.int .i64 (w64 ((i_33:Int) + 1))) rfl<|w_done<|?_;exact k_loopn ⟨(i_33 + 1),hc1⟩ (mul hlt51) ⟨[],[],_,_,rfl,rfl,⟨.refl _,⟨.of_eq (congrArg (AV.int _) (w64_incr hlt51 hl59)),trivial⟩⟩,(.refl _)⟩
 ·rintro ⟨_,rfl⟩
  refine sr<|s_mov (.str t_1) rfl<|s_dof (o_lenS rfl) fun hl65 => s_q (.bool (decide ((t_1.length:Int) ≤ 200))) rfl rfl rfl<|s_mov (.bool (decide ((t_1.length:Int) ≤ 200))) rfl<|dk<|w_ret<|?_;obtain rfl:=os hf;exact r_flat ⟨trivial,trivial⟩ rfl (.refl _)

/- spec.AtomOK -/
def c154:ACode :=
 (.seq (.reg (tq 1 (.box 3 (.t 0)) (tm 2 (.c (.bool false)) .done)))
 (.seq (.seq (.reg (tq 3 (.faddr 0 (.t 1)) (tq 4 (.load 1 false (.t 3)) .done)))
 (.block 0 (.seq (.reg (tq 6 (.bin .eql (.t 4) (.c (.int .i64 1))) (tm 5 (.t 6) .done)))
 (.cond (.t 5) (.seq (.reg (tq 7 (.faddr 1 (.t 1)) (tq 8 (.load 1 false (.t 7)) (tq 9 (.call 48 [(.t 8),(.c (.int .i64 (-1000000000))),(.c (.int .i64 1000000000))]) (tm 10 (.t 9) (tg 11 10 true (.faddr 2 (.t 1)) (tg 12 10 true (.load 1 false (.t 11)) (tg 13 10 true (.bin .eql (.t 12) (.c (.str []))) (tq 14 (.pick (.t 10) (.t 13) (.c (.bool false))) (tm 2 (.t 14) .done))))))))))
 .ret)
 (.seq (.reg (tq 16 (.bin .eql (.t 4) (.c (.int .i64 2))) (tm 15 (.t 16) .done)))
 (.cond (.t 15) (.seq (.reg (tq 17 (.faddr 1 (.t 1)) (tq 18 (.load 1 false (.t 17)) (tq 19 (.bin .eql (.t 18) (.c (.int .i64 0))) (tm 20 (.t 19) (tg 21 20 true (.faddr 2 (.t 1)) (tg 22 20 true (.load 1 false (.t 21)) (tg 23 20 true (.call 179 [(.t 22)]) (tq 24 (.pick (.t 20) (.t 23) (.c (.bool false))) (tm 2 (.t 24) .done))))))))))
 .ret)
 (.seq (.reg (tq 26 (.bin .eql (.t 4) (.c (.int .i64 3))) (tm 25 (.t 26) .done)))
 (.cond (.t 25) (.seq (.reg (tq 27 (.faddr 1 (.t 1)) (tq 28 (.load 1 false (.t 27)) (tq 29 (.call 48 [(.t 28),(.c (.int .i64 0)),(.c (.int .i64 1))]) (tm 30 (.t 29) (tg 31 30 true (.faddr 2 (.t 1)) (tg 32 30 true (.load 1 false (.t 31)) (tg 33 30 true (.bin .eql (.t 32) (.c (.str []))) (tq 34 (.pick (.t 30) (.t 33) (.c (.bool false))) (tm 2 (.t 34) .done))))))))))
 .ret)
 (.seq (.reg (tq 36 (.bin .eql (.t 4) (.c (.int .i64 4))) (tm 35 (.t 36) .done)))
 (.cond (.t 35) (.seq (.reg (tq 37 (.faddr 1 (.t 1)) (tq 38 (.load 1 false (.t 37)) (tq 39 (.call 48 [(.t 38),(.c (.int .i64 1)),(.c (.int .i64 1000000))]) (tm 40 (.t 39) (tg 41 40 true (.faddr 2 (.t 1)) (tg 42 40 true (.load 1 false (.t 41)) (tg 43 40 true (.bin .eql (.t 42) (.c (.str []))) (tq 44 (.pick (.t 40) (.t 43) (.c (.bool false))) (tm 2 (.t 44) .done))))))))))
 .ret)
 .skip))))))))))
 (.seq (.reg (tm 2 (.c (.bool false)) .done))
 .ret)))
theorem fc154:fcomp Tryz.prog Tryz.f154 = some (c154.erase,[.mov (.t 2)],45):=by kernel_rfl
def spec_AtomOK (a_1:GAtom):Option Bool :=
    if (a_1.Kind == 1) then
    (spec_l01In a_1.N (-1000000000) 1000000000).bind fun r_3 =>
    if r_3 then
    some (a_1.T == [])
    else
    some false
    else
    if (a_1.Kind == 2) then
    if (a_1.N == 0) then
    (spec_l01Text a_1.T).bind fun r_8 =>
    some r_8
    else
    some false
    else
    if (a_1.Kind == 3) then
    (spec_l01In a_1.N 0 1).bind fun r_11 =>
    if r_11 then
    some (a_1.T == [])
    else
    some false
    else
    if (a_1.Kind == 4) then
    (spec_l01In a_1.N 1 1000000).bind fun r_15 =>
    if r_15 then
    some (a_1.T == [])
    else
    some false
    else
    some false
theorem w_spec_AtomOK (a_1:GAtom) (r:Bool) (hf:spec_AtomOK a_1 = some r):CallOK Tryz.prog 154 .flat [(encGAtom a_1)] (.bool r):=by
 refine CallOK.of_awp mixed Tryz.func154 fc154 nle ?_;rw [argT_eq];unfold spec_AtomOK at hf;unfold c154;refine (show awp Tryz.prog false 0 _ (ofL [(0,(encGAtom a_1))]) [] _ from ?_);refine sr<|s_do (o_box (j:=0) (c:=(.agg [(.int .i64 a_1.Kind),(.int .i64 a_1.N),(.str a_1.T)])) rfl trivial rfl rfl)<|s_mov (.bool false) rfl<|dk<|awp_seq<|sr<|s_q (.ptr 0 0 0) rfl trivial rfl<|s_q (.int .i64 a_1.Kind) rfl nle rfl<|dk<|w_blk<|sr<|s_q (.bool (a_1.Kind == 1)) rfl rfl rfl<|s_mov (.bool (a_1.Kind == 1)) rfl<|dk<|?_
 rcases oi hf with ⟨c2,hf⟩ | ⟨c2,hf⟩
 ·refine w_condt rfl c2<|sr<|?_
  obtain ⟨r_3,er4,hf⟩:=ob hf
  rcases oi hf with ⟨c5,hf⟩ | ⟨c5,hf⟩
  ·refine s_q (.ptr 0 0 1) rfl trivial rfl<|s_q (.int .i64 a_1.N) rfl nle rfl<|s_do (o_call (w_spec_l01In _ _ _ _ er4) rfl (.refl _) rfl)<|s_mov (.bool r_3) rfl<|s_lit (s:=10) (b:=true) rfl c5<|s_on rfl<|s_q (.ptr 0 0 2) rfl trivial rfl<|s_on rfl<|s_q (.str a_1.T) rfl nle rfl<|s_on rfl<|s_q (.bool (a_1.T == [])) rfl trivial rfl<|s_q (.bool (a_1.T == [])) rfl trivial rfl<|s_mov (.bool (a_1.T == [])) rfl<|dk<|w_ret<|?_;obtain rfl:=os hf;exact r_flat ⟨trivial,trivial⟩ rfl (.refl _)
  ·refine s_q (.ptr 0 0 1) rfl trivial rfl<|s_q (.int .i64 a_1.N) rfl nle rfl<|s_do (o_call (w_spec_l01In _ _ _ _ er4) rfl (.refl _) rfl)<|s_mov (.bool r_3) rfl<|s_lit (s:=10) (b:=false) rfl (bf c5)<|s_off rfl rfl<|s_off rfl rfl<|s_off rfl rfl<|s_q (.bool false) rfl trivial rfl<|s_mov (.bool false) rfl<|dk<|w_ret<|?_;obtain rfl:=os hf;exact r_flat ⟨trivial,trivial⟩ rfl (.refl _)
 ·refine w_condf rfl (bf c2)<|sr<|s_q (.bool (a_1.Kind == 2)) rfl rfl rfl<|s_mov (.bool (a_1.Kind == 2)) rfl<|dk<|?_
  rcases oi hf with ⟨c6,hf⟩ | ⟨c6,hf⟩
  ·refine w_condt rfl c6<|sr<|?_
   rcases oi hf with ⟨c7,hf⟩ | ⟨c7,hf⟩
   ·obtain ⟨r_8,er9,hf⟩:=ob hf
    refine s_q (.ptr 0 0 1) rfl trivial rfl<|s_q (.int .i64 a_1.N) rfl nle rfl<|s_q (.bool (a_1.N == 0)) rfl rfl rfl<|s_mov (.bool (a_1.N == 0)) rfl<|s_lit (s:=20) (b:=true) rfl c7<|s_on rfl<|s_q (.ptr 0 0 2) rfl trivial rfl<|s_on rfl<|s_q (.str a_1.T) rfl nle rfl<|s_on rfl<|s_do (o_call (w_spec_l01Text _ _ er9) rfl (.refl _) rfl)<|s_q (.bool r_8) rfl trivial rfl<|s_mov (.bool r_8) rfl<|dk<|w_ret<|?_;obtain rfl:=os hf;exact r_flat ⟨trivial,trivial⟩ rfl (.refl _)
   ·refine s_q (.ptr 0 0 1) rfl trivial rfl<|s_q (.int .i64 a_1.N) rfl nle rfl<|s_q (.bool (a_1.N == 0)) rfl rfl rfl<|s_mov (.bool (a_1.N == 0)) rfl<|s_lit (s:=20) (b:=false) rfl (bf c7)<|s_off rfl rfl<|s_off rfl rfl<|s_off rfl rfl<|s_q (.bool false) rfl trivial rfl<|s_mov (.bool false) rfl<|dk<|w_ret<|?_;obtain rfl:=os hf;exact r_flat ⟨trivial,trivial⟩ rfl (.refl _)
  ·refine w_condf rfl (bf c6)<|sr<|s_q (.bool (a_1.Kind == 3)) rfl rfl rfl<|s_mov (.bool (a_1.Kind == 3)) rfl<|dk<|?_
   rcases oi hf with ⟨c10,hf⟩ | ⟨c10,hf⟩
   ·refine w_condt rfl c10<|sr<|?_
    obtain ⟨r_11,er12,hf⟩:=ob hf
    rcases oi hf with ⟨c13,hf⟩ | ⟨c13,hf⟩
    ·refine s_q (.ptr 0 0 1) rfl trivial rfl<|s_q (.int .i64 a_1.N) rfl nle rfl<|s_do (o_call (w_spec_l01In _ _ _ _ er12) rfl (.refl _) rfl)<|s_mov (.bool r_11) rfl<|s_lit (s:=30) (b:=true) rfl c13<|s_on rfl<|s_q (.ptr 0 0 2) rfl trivial rfl<|s_on rfl<|s_q (.str a_1.T) rfl nle rfl<|s_on rfl<|s_q (.bool (a_1.T == [])) rfl trivial rfl<|s_q (.bool (a_1.T == [])) rfl trivial rfl<|s_mov (.bool (a_1.T == [])) rfl<|dk<|w_ret<|?_;obtain rfl:=os hf;exact r_flat ⟨trivial,trivial⟩ rfl (.refl _)
    ·refine s_q (.ptr 0 0 1) rfl trivial rfl<|s_q (.int .i64 a_1.N) rfl nle rfl<|s_do (o_call (w_spec_l01In _ _ _ _ er12) rfl (.refl _) rfl)<|s_mov (.bool r_11) rfl<|s_lit (s:=30) (b:=false) rfl (bf c13)<|s_off rfl rfl<|s_off rfl rfl<|s_off rfl rfl<|s_q (.bool false) rfl trivial rfl<|s_mov (.bool false) rfl<|dk<|w_ret<|?_;obtain rfl:=os hf;exact r_flat ⟨trivial,trivial⟩ rfl (.refl _)
   ·refine w_condf rfl (bf c10)<|sr<|s_q (.bool (a_1.Kind == 4)) rfl rfl rfl<|s_mov (.bool (a_1.Kind == 4)) rfl<|dk<|?_
    rcases oi hf with ⟨c14,hf⟩ | ⟨c14,hf⟩
    ·refine w_condt rfl c14<|sr<|?_
     obtain ⟨r_15,er16,hf⟩:=ob hf
     rcases oi hf with ⟨c17,hf⟩ | ⟨c17,hf⟩
     ·refine s_q (.ptr 0 0 1) rfl trivial rfl<|s_q (.int .i64 a_1.N) rfl nle rfl<|s_do (o_call (w_spec_l01In _ _ _ _ er16) rfl (.refl _) rfl)<|s_mov (.bool r_15) rfl<|s_lit (s:=40) (b:=true) rfl c17<|s_on rfl<|s_q (.ptr 0 0 2) rfl trivial rfl<|s_on rfl<|s_q (.str a_1.T) rfl nle rfl<|s_on rfl<|s_q (.bool (a_1.T == [])) rfl trivial rfl<|s_q (.bool (a_1.T == [])) rfl trivial rfl<|s_mov (.bool (a_1.T == [])) rfl<|dk<|w_ret<|?_;obtain rfl:=os hf;exact r_flat ⟨trivial,trivial⟩ rfl (.refl _)
     ·refine s_q (.ptr 0 0 1) rfl trivial rfl<|s_q (.int .i64 a_1.N) rfl nle rfl<|s_do (o_call (w_spec_l01In _ _ _ _ er16) rfl (.refl _) rfl)<|s_mov (.bool r_15) rfl<|s_lit (s:=40) (b:=false) rfl (bf c17)<|s_off rfl rfl<|s_off rfl rfl<|s_off rfl rfl<|s_q (.bool false) rfl trivial rfl<|s_mov (.bool false) rfl<|dk<|w_ret<|?_;obtain rfl:=os hf;exact r_flat ⟨trivial,trivial⟩ rfl (.refl _)
    ·refine w_condf rfl (bf c14)<|w_skip<|k_blk<|k_seq<|sr<|s_mov (.bool false) rfl<|dk<|w_ret<|?_;obtain rfl:=os hf;exact r_flat ⟨trivial,trivial⟩ rfl (.refl _)

/- spec.l01Bit -/
def c180:ACode :=
 (.seq (.reg (tm 2 (.c (.int .i64 0)) .done))
 (.seq (.seq (.reg (tm 3 (.t 0) .done))
 (.cond (.t 3) (.seq (.reg (tm 2 (.c (.int .i64 1)) .done))
 .ret)
 .skip))
 (.seq (.reg (tm 2 (.c (.int .i64 0)) .done))
 .ret)))
theorem fc180:fcomp Tryz.prog Tryz.f180 = some (c180.erase,[.mov (.t 2)],4):=by kernel_rfl
def spec_l01Bit (b_1:Bool):Option Int :=
    if b_1 then
    some 1
    else
    some 0
theorem w_spec_l01Bit (b_1:Bool) (r:Int) (hf:spec_l01Bit b_1 = some r):CallOK Tryz.prog 180 .flat [(.bool b_1)] (.int .i64 r):=by
  refine CallOK.of_awp mixed Tryz.func180 fc180 nle ?_
  rw [argT_eq]
  unfold spec_l01Bit at hf
  unfold c180
  refine (show awp Tryz.prog false 0 _ (ofL [(0,(.bool b_1))]) [] _ from ?_)
  refine awp_seq ?_
  refine w_reg ?_
  refine s_do (o_mov (.int .i64 0) rfl) ?_
  refine w_done ?_
  refine k_seq ?_
  refine awp_seq ?_
  refine awp_seq ?_
  refine w_reg ?_
  refine s_do (o_mov (.bool b_1) rfl) ?_
  refine w_done ?_
  refine k_seq ?_
  rcases oi hf with ⟨c2,hf⟩ | ⟨c2,hf⟩
  · refine w_condt rfl c2 ?_
    refine awp_seq ?_
    refine w_reg ?_
    refine s_do (o_mov (.int .i64 1) rfl) ?_
    refine w_done ?_
    refine k_seq ?_
    refine w_ret ?_
    obtain rfl:=os hf
    exact r_flat ⟨trivial,trivial⟩ rfl (.refl _)
  · refine w_condf rfl (bf c2) ?_
    refine w_skip ?_
    refine k_seq ?_
    refine awp_seq ?_
    refine w_reg ?_
    refine s_do (o_mov (.int .i64 0) rfl) ?_
    refine w_done ?_
    refine k_seq ?_
    refine w_ret ?_
    obtain rfl:=os hf
    exact r_flat ⟨trivial,trivial⟩ rfl (.refl _)

/- spec.l03Order -/
def c155:ACode :=
 (.seq (.reg (tq 2 (.box 3 (.t 0)) (tq 3 (.box 3 (.t 1)) (tm 4 (.c (.int .i64 0)) .done))))
 (.seq (.block 0 (.seq (.reg (tq 6 (.faddr 0 (.t 2)) (tq 7 (.load 1 false (.t 6)) (tq 8 (.faddr 0 (.t 3)) (tq 9 (.load 1 false (.t 8)) (tq 10 (.bin .neq (.t 7) (.t 9)) (tm 5 (.t 10) .done)))))))
 (.cond (.t 5) (.seq (.reg (tq 11 (.faddr 0 (.t 2)) (tq 12 (.load 1 false (.t 11)) (tq 13 (.faddr 0 (.t 3)) (tq 14 (.load 1 false (.t 13)) (tq 15 (.bin .lss (.t 12) (.t 14)) (tq 16 (.call 180 [(.t 15)]) (tq 17 (.bin .mul (.c (.int .i64 2)) (.t 16)) (tq 18 (.bin .sub (.c (.int .i64 1)) (.t 17)) (tm 4 (.t 18) .done))))))))))
 .ret)
 (.seq (.reg (tq 20 (.faddr 1 (.t 2)) (tq 21 (.load 1 false (.t 20)) (tq 22 (.faddr 1 (.t 3)) (tq 23 (.load 1 false (.t 22)) (tq 24 (.bin .neq (.t 21) (.t 23)) (tm 19 (.t 24) .done)))))))
 (.cond (.t 19) (.seq (.reg (tq 25 (.faddr 1 (.t 2)) (tq 26 (.load 1 false (.t 25)) (tq 27 (.faddr 1 (.t 3)) (tq 28 (.load 1 false (.t 27)) (tq 29 (.bin .lss (.t 26) (.t 28)) (tq 30 (.call 180 [(.t 29)]) (tq 31 (.bin .mul (.c (.int .i64 2)) (.t 30)) (tq 32 (.bin .sub (.c (.int .i64 1)) (.t 31)) (tm 4 (.t 32) .done))))))))))
 .ret)
 (.seq (.reg (tq 34 (.faddr 2 (.t 2)) (tq 35 (.load 1 false (.t 34)) (tq 36 (.faddr 2 (.t 3)) (tq 37 (.load 1 false (.t 36)) (tq 38 (.bin .neq (.t 35) (.t 37)) (tm 33 (.t 38) .done)))))))
 (.cond (.t 33) (.seq (.reg (tq 39 (.faddr 2 (.t 2)) (tq 40 (.load 1 false (.t 39)) (tq 41 (.faddr 2 (.t 3)) (tq 42 (.load 1 false (.t 41)) (tq 43 (.bin .lss (.t 40) (.t 42)) (tq 44 (.call 180 [(.t 43)]) (tq 45 (.bin .mul (.c (.int .i64 2)) (.t 44)) (tq 46 (.bin .sub (.c (.int .i64 1)) (.t 45)) (tm 4 (.t 46) .done))))))))))
 .ret)
 .skip)))))))
 (.seq (.reg (tm 4 (.c (.int .i64 0)) .done))
 .ret)))
theorem fc155:fcomp Tryz.prog Tryz.f155 = some (c155.erase,[.mov (.t 4)],47):=by kernel_rfl
def spec_l03Order (a_1:GAtom) (b_2:GAtom):Option Int :=
    if (a_1.Kind != b_2.Kind) then
    (spec_l01Bit (decide (a_1.Kind < b_2.Kind))).bind fun r_4 =>
    some (w64 (1 - (w64 (2 * r_4))))
    else
    if (a_1.N != b_2.N) then
    (spec_l01Bit (decide (a_1.N < b_2.N))).bind fun r_7 =>
    some (w64 (1 - (w64 (2 * r_7))))
    else
    if (!(a_1.T == b_2.T)) then
    (spec_l01Bit (Op.bytesLess a_1.T b_2.T)).bind fun r_10 =>
    some (w64 (1 - (w64 (2 * r_10))))
    else
    some 0
theorem w_spec_l03Order (a_1:GAtom) (b_2:GAtom) (r:Int) (hf:spec_l03Order a_1 b_2 = some r):CallOK Tryz.prog 155 .flat [(encGAtom a_1),(encGAtom b_2)] (.int .i64 r):=by
 refine CallOK.of_awp mixed Tryz.func155 fc155 nle ?_;rw [argT_eq];unfold spec_l03Order at hf;unfold c155;refine (show awp Tryz.prog false 0 _ (ofL [(0,(encGAtom a_1)),(1,(encGAtom b_2))]) [] _ from ?_);refine sr<|s_do (o_box (j:=0) (c:=(.agg [(.int .i64 a_1.Kind),(.int .i64 a_1.N),(.str a_1.T)])) rfl trivial rfl rfl)<|s_do (o_box (j:=1) (c:=(.agg [(.int .i64 b_2.Kind),(.int .i64 b_2.N),(.str b_2.T)])) rfl trivial rfl rfl)<|s_mov (.int .i64 0) rfl<|dk<|awp_seq<|w_blk<|sr<|s_q (.ptr 0 0 0) rfl trivial rfl<|s_q (.int .i64 a_1.Kind) rfl nle rfl<|s_q (.ptr 1 0 0) rfl trivial rfl<|s_q (.int .i64 b_2.Kind) rfl nle rfl<|s_q (.bool (a_1.Kind != b_2.Kind)) rfl rfl rfl<|?_
 refine s_mov (.bool (a_1.Kind != b_2.Kind)) rfl<|dk<|?_
 rcases oi hf with ⟨c3,hf⟩ | ⟨c3,hf⟩
 ·refine w_condt rfl c3<|sr<|?_
  obtain ⟨r_4,er5,hf⟩:=ob hf
  refine s_q (.ptr 0 0 0) rfl trivial rfl<|s_q (.int .i64 a_1.Kind) rfl nle rfl<|s_q (.ptr 1 0 0) rfl trivial rfl<|s_q (.int .i64 b_2.Kind) rfl nle rfl<|s_q (.bool (decide (a_1.Kind < b_2.Kind))) rfl rfl rfl<|s_do (o_call (w_spec_l01Bit _ _ er5) rfl (.refl _) rfl)<|s_q (.int .i64 (w64 (2 * r_4))) rfl rfl rfl<|s_q (.int .i64 (w64 (1 - (w64 (2 * r_4))))) rfl rfl rfl<|s_mov (.int .i64 (w64 (1 - (w64 (2 * r_4))))) rfl<|dk<|w_ret<|?_;obtain rfl:=os hf;exact r_flat ⟨trivial,trivial⟩ rfl (.refl _)
 ·refine w_condf rfl (bf c3)<|sr<|s_q (.ptr 0 0 1) rfl trivial rfl<|s_q (.int .i64 a_1.N) rfl nle rfl<|s_q (.ptr 1 0 1) rfl trivial rfl<|s_q (.int .i64 b_2.N) rfl nle rfl<|s_q (.bool (a_1.N != b_2.N)) rfl rfl rfl<|s_mov (.bool (a_1.N != b_2.N)) rfl<|dk<|?_
  rcases oi hf with ⟨c6,hf⟩ | ⟨c6,hf⟩
  ·refine w_condt rfl c6<|sr<|?_
   obtain ⟨r_7,er8,hf⟩:=ob hf
   refine s_q (.ptr 0 0 1) rfl trivial rfl<|s_q (.int .i64 a_1.N) rfl nle rfl<|s_q (.ptr 1 0 1) rfl trivial rfl<|s_q (.int .i64 b_2.N) rfl nle rfl<|s_q (.bool (decide (a_1.N < b_2.N))) rfl rfl rfl<|s_do (o_call (w_spec_l01Bit _ _ er8) rfl (.refl _) rfl)<|s_q (.int .i64 (w64 (2 * r_7))) rfl rfl rfl<|s_q (.int .i64 (w64 (1 - (w64 (2 * r_7))))) rfl rfl rfl<|s_mov (.int .i64 (w64 (1 - (w64 (2 * r_7))))) rfl<|dk<|w_ret<|?_;obtain rfl:=os hf;exact r_flat ⟨trivial,trivial⟩ rfl (.refl _)
  ·refine w_condf rfl (bf c6)<|sr<|s_q (.ptr 0 0 2) rfl trivial rfl<|s_q (.str a_1.T) rfl nle rfl<|s_q (.ptr 1 0 2) rfl trivial rfl<|s_q (.str b_2.T) rfl nle rfl<|s_q (.bool (!(a_1.T == b_2.T))) rfl trivial rfl<|s_mov (.bool (!(a_1.T == b_2.T))) rfl<|dk<|?_
   rcases oi hf with ⟨c9,hf⟩ | ⟨c9,hf⟩
   ·refine w_condt rfl c9<|sr<|?_
    obtain ⟨r_10,er11,hf⟩:=ob hf
    refine s_q (.ptr 0 0 2) rfl trivial rfl<|s_q (.str a_1.T) rfl nle rfl<|s_q (.ptr 1 0 2) rfl trivial rfl<|s_q (.str b_2.T) rfl nle rfl<|s_q (.bool (Op.bytesLess a_1.T b_2.T)) rfl trivial rfl<|s_do (o_call (w_spec_l01Bit _ _ er11) rfl (.refl _) rfl)<|s_q (.int .i64 (w64 (2 * r_10))) rfl rfl rfl<|s_q (.int .i64 (w64 (1 - (w64 (2 * r_10))))) rfl rfl rfl<|s_mov (.int .i64 (w64 (1 - (w64 (2 * r_10))))) rfl<|dk<|w_ret<|?_;obtain rfl:=os hf;exact r_flat ⟨trivial,trivial⟩ rfl (.refl _)
   ·refine w_condf rfl (bf c9)<|w_skip<|k_blk<|k_seq<|sr<|s_mov (.int .i64 0) rfl<|dk<|w_ret<|?_;obtain rfl:=os hf;exact r_flat ⟨trivial,trivial⟩ rfl (.refl _)

/- spec.DatumOK -/
def c104:ACode :=
 (.seq (.reg (tm 2 (.c (.bool false)) .done))
 (.seq (.seq (.reg (tm 4 (.t 0) (tq 5 (.len (.t 4)) (tq 6 (.bin .gtr (.t 5) (.c (.int .i64 4096))) .done))))
 (.cond (.t 6) (.seq (.reg (tm 2 (.c (.bool false)) .done))
 .ret)
 .skip))
 (.seq (.seq (.reg (tm 3 (.c (.int .i64 0)) .done))
 (.block 0 (.loop (.seq (.seq (.reg (tm 7 (.t 3) (tm 8 (.t 0) (tq 9 (.len (.t 8)) (tq 10 (.bin .lss (.t 7) (.t 9)) .done)))))
 (.cond (.t 10) .skip
 (.exit 0)))
 (.seq (.block 1 (.seq (.reg (tm 13 (.t 0) (tm 14 (.t 3) (tq 15 (.iaddr 3 (.t 13) (.t 14)) (tq 16 (.load 3 true (.t 15)) (.l ⟨(some 17),none,.call 154 [(.t 16)]⟩ []
 (tq 18 (.not (.t 17)) (tm 19 (.t 18) (tg 20 19 false (.mov (.t 0)) (tg 21 19 false (.mov (.t 3)) (tg 22 19 false (.iaddr 3 (.t 20) (.t 21)) (tg 23 19 false (.faddr 0 (.t 22)) (tg 24 19 false (.load 1 false (.t 23)) (tg 25 19 false (.mov (.t 0)) (tg 26 19 false (.iaddr 3 (.t 25) (.c (.int .i64 0))) (tg 27 19 false (.faddr 0 (.t 26)) (tg 28 19 false (.load 1 false (.t 27)) (tg 29 19 false (.bin .neq (.t 24) (.t 28)) (tq 30 (.pick (.t 19) (.c (.bool true)) (.t 29)) (tm 31 (.t 30) (tg 32 31 false (.mov (.t 3)) (tg 33 31 false (.bin .gtr (.t 32) (.c (.int .i64 0))) (tg 34 31 false (.mov (.t 33)) (tg 35 34 true (.mov (.t 0)) (tg 36 34 true (.mov (.t 3)) (tg 37 34 true (.bin .sub (.t 36) (.c (.int .i64 1))) (tg 38 34 true (.iaddr 3 (.t 35) (.t 37)) (tg 39 34 true (.load 3 true (.t 38)) (tg 40 34 true (.mov (.t 0)) (tg 41 34 true (.mov (.t 3)) (tg 42 34 true (.iaddr 3 (.t 40) (.t 41)) (tg 43 34 true (.load 3 true (.t 42)) (.l ⟨(some 44),(some (34,true)),.call 155 [(.t 39),(.t 43)]⟩ []
 (tg 45 34 true (.bin .geq (.t 44) (.c (.int .i64 0))) (tg 46 31 false (.pick (.t 34) (.t 45) (.c (.bool false))) (tq 47 (.pick (.t 31) (.c (.bool true)) (.t 46)) .done))) .non))))))))))))))))))))))))))) .non))))))
 (.cut (.cond (.t 47) (.seq (.reg (tm 2 (.c (.bool false)) .done))
 .ret)
 .skip))))
 (.reg (tm 11 (.t 3) (tq 12 (.bin .add (.t 11) (.c (.int .i64 1))) (tm 3 (.t 12) .done)))))))))
 (.cut (.seq (.reg (tm 48 (.t 0) (tq 49 (.len (.t 48)) (tq 50 (.bin .leq (.t 49) (.c (.int .i64 8))) (tm 2 (.t 50) .done)))))
 .ret)))))
theorem fc104:fcomp Tryz.prog Tryz.f104 = some (c104.erase,[.mov (.t 2)],51):=by kernel_rfl
def spec_DatumOK_L1 (d_1:(List GAtom)):List GAtom → Nat → Option (Fl Bool Unit)
  | [],i_83 =>
    some (.go ())
  | x_131 :: xs,i_83 =>
    (((spec_AtomOK x_131).bind fun r_147 =>
    if (!r_147) then
    some true
    else
    (idx d_1 0).bind fun x_150 =>
    if (x_131.Kind != x_150.Kind) then
    some true
    else
    if (decide ((i_83:Int) > 0)) then
    (idx d_1 (w64 ((i_83:Int) - 1))).bind fun x_154 =>
    (spec_l03Order x_154 x_131).bind fun r_156 =>
    some (decide (r_156 ≥ 0))
    else
    some false:Option Bool)).bind fun s47_145 =>
    if s47_145 then
    some (.ret false)
    else
    spec_DatumOK_L1 d_1 xs (i_83 + 1)

def spec_DatumOK (d_1:(List GAtom)):Option Bool :=
    if (decide ((d_1.length:Int) > 4096)) then
    some false
    else
    (spec_DatumOK_L1 d_1 d_1 0).bind fun q => (match q with
    | .ret r => some r
    | .go _ =>
    some (decide ((d_1.length:Int) ≤ 8)))
theorem w_spec_DatumOK (d_1:(List GAtom)) (r:Bool) (hf:spec_DatumOK d_1 = some r):CallOK Tryz.prog 104 .flat [(.lst 3 (d_1.map encGAtom))] (.bool r):=by
 refine CallOK.of_awp mixed Tryz.func104 fc104 nle ?_;rw [argT_eq];unfold spec_DatumOK at hf;unfold c104;refine (show awp Tryz.prog false 0 _ (ofL [(0,(.lst 3 (d_1.map encGAtom)))]) [] _ from ?_);refine sr<|s_mov (.bool false) rfl<|dk<|awp_seq<|sr<|s_mov (.lst 3 (d_1.map encGAtom)) rfl<|s_dof (o_len (enc:=encGAtom) rfl) fun hl2 => s_q (.bool (decide ((d_1.length:Int) > 4096))) rfl rfl rfl<|dk<|?_
 rcases oi hf with ⟨c3,hf⟩ | ⟨c3,hf⟩
 ·refine w_condt rfl c3<|sr<|s_mov (.bool false) rfl<|dk<|w_ret<|?_;obtain rfl:=os hf;exact r_flat ⟨trivial,trivial⟩ rfl (.refl _)
 ·refine w_condf rfl (bf c3)<|w_skip<|k_seq<|awp_seq<|sr<|s_mov (.int .i64 0) rfl<|dk<|?_
  obtain ⟨p124,hb1,hf⟩:=ob hf
  refine awp_cutx (X:={q:Unit // p124 = .go q}) (fun q => ([(0,(.lst 3 (d_1.map encGAtom)))],[])) ?_ ?_
  ·refine awp_loop (X:={q:Nat // spec_DatumOK_L1 d_1 (d_1.drop q) q = some p124}) (fun q => ([(0,(.lst 3 (d_1.map encGAtom))),(3,(.int .i64 (q.1:Int)))],[])) (fun q => d_1.length - q.1) ⟨0,hb1⟩ ⟨[],[],_,_,rfl,rfl,⟨.refl _,⟨.refl _,trivial⟩⟩,(.refl _)⟩ ?_
   rintro ⟨i_83,hc1⟩
   have hc1:spec_DatumOK_L1 d_1 (d_1.drop i_83) i_83 = some p124:=hc1
   refine (show awp Tryz.prog false 0 _ (ofL [(0,(.lst 3 (d_1.map encGAtom))),(3,(.int .i64 (i_83:Int)))]) [] _ from ?_)
   rcases dropc d_1 i_83 with ⟨hie127,hd130⟩ | ⟨hlt125,x_131,hx126,hd130⟩
   ·rw [hd130,spec_DatumOK_L1.eq_1] at hc1
    have hq129:=dlf hie127
    refine awp_seq<|sr<|s_mov (.int .i64 (i_83:Int)) rfl<|s_mov (.lst 3 (d_1.map encGAtom)) rfl<|s_dof (o_len (enc:=encGAtom) rfl) fun hl132 => s_q (.bool (decide ((i_83:Int) < (d_1.length:Int)))) rfl rfl rfl<|dk<|w_condf rfl hq129<|w_exit<|k_seqx<|k_loopx<|k_blkx<|?_;obtain rfl:=os hc1;exact k_cutn ⟨_,rfl⟩ ⟨[],[],_,_,rfl,rfl,⟨.refl _,trivial⟩,(.refl _)⟩
   ·rw [hd130,spec_DatumOK_L1.eq_2] at hc1
    have hq129:=dlt hlt125
    refine awp_seq<|sr<|s_mov (.int .i64 (i_83:Int)) rfl<|s_mov (.lst 3 (d_1.map encGAtom)) rfl<|s_dof (o_len (enc:=encGAtom) rfl) fun hl133 => s_q (.bool (decide ((i_83:Int) < (d_1.length:Int)))) rfl rfl rfl<|dk<|w_condt rfl hq129<|w_skip<|k_seq<|awp_seq<|w_blk<|awp_seq<|?_
    obtain ⟨s47_145,hb2,hc1⟩:=ob hc1
    refine awp_cut ([(0,(.lst 3 (d_1.map encGAtom))),(3,(.int .i64 (i_83:Int))),(47,(.bool s47_145))],[]) ?_ ?_
    ·refine w_reg<|s_mov (.lst 3 (d_1.map encGAtom)) rfl<|s_mov (.int .i64 (i_83:Int)) rfl<|s_do (o_iaddrn (enc:=encGAtom) rfl rfl hx126)<|s_q (encGAtom x_131) rfl nle rfl<|?_
     obtain ⟨r_147,er148,hb2⟩:=ob hb2
     refine s_dol (o_call (w_spec_AtomOK _ _ er148) rfl (.refl _) rfl) a_same trivial<|s_q (.bool (!r_147)) rfl trivial rfl<|s_mov (.bool (!r_147)) rfl<|?_
     rcases oi hb2 with ⟨c149,hb2⟩ | ⟨c149,hb2⟩
     ·refine s_lit (s:=19) (b:=true) rfl c149<|s_off rfl rfl<|s_off rfl rfl<|s_off rfl rfl<|s_off rfl rfl<|s_off rfl rfl<|s_off rfl rfl<|s_off rfl rfl<|s_off rfl rfl<|s_off rfl rfl<|s_off rfl rfl<|s_q (.bool true) rfl trivial rfl<|s_mov (.bool true) rfl<|s_off rfl rfl<|s_off rfl rfl<|s_off rfl rfl<|s_offs rfl<|s_offs rfl<|s_offs rfl<|s_offs rfl<|s_offs rfl<|s_offs rfl<|s_offs rfl<|s_offs rfl<|s_offs rfl<|s_offsl rfl trivial<|s_offs rfl<|s_off rfl rfl<|s_q (.bool true) rfl trivial rfl<|w_done<|?_;obtain rfl:=os hb2;exact ⟨[],[],_,_,rfl,rfl,⟨.refl _,⟨.refl _,⟨.refl _,trivial⟩⟩⟩,(.refl _)⟩
     ·refine s_lit (s:=19) (b:=false) rfl (bf c149)<|s_on rfl<|s_mov (.lst 3 (d_1.map encGAtom)) rfl<|s_on rfl<|s_mov (.int .i64 (i_83:Int)) rfl<|s_on rfl<|s_do (o_iaddrn (enc:=encGAtom) rfl rfl hx126)<|s_on rfl<|s_q (.iptr (encGAtom x_131) 0) rfl trivial rfl<|s_on rfl<|s_q (.int .i64 x_131.Kind) rfl nle rfl<|s_on rfl<|s_mov (.lst 3 (d_1.map encGAtom)) rfl<|s_on rfl<|?_
      obtain ⟨x_150,ex151,hb2⟩:=ob hb2
      refine s_do (o_iaddr (enc:=encGAtom) rfl rfl (idx0 ex151) (idx1 ex151))<|s_on rfl<|s_q (.iptr (encGAtom x_150) 0) rfl trivial rfl<|s_on rfl<|s_q (.int .i64 x_150.Kind) rfl nle rfl<|s_on rfl<|s_q (.bool (x_131.Kind != x_150.Kind)) rfl rfl rfl<|s_q (.bool (x_131.Kind != x_150.Kind)) rfl trivial rfl<|s_mov (.bool (x_131.Kind != x_150.Kind)) rfl<|?_
      rcases oi hb2 with ⟨c152,hb2⟩ | ⟨c152,hb2⟩
      ·refine s_lit (s:=31) (b:=true) rfl c152<|s_off rfl rfl<|s_off rfl rfl<|s_off rfl rfl<|s_offs rfl<|s_offs rfl<|s_offs rfl<|s_offs rfl<|s_offs rfl<|s_offs rfl<|s_offs rfl<|s_offs rfl<|s_offs rfl<|s_offsl rfl trivial<|s_offs rfl<|s_off rfl rfl<|s_q (.bool true) rfl trivial rfl<|w_done<|?_;obtain rfl:=os hb2;exact ⟨[],[],_,_,rfl,rfl,⟨.refl _,⟨.refl _,⟨.refl _,trivial⟩⟩⟩,(.refl _)⟩
      ·refine s_lit (s:=31) (b:=false) rfl (bf c152)<|s_on rfl<|s_mov (.int .i64 (i_83:Int)) rfl<|s_on rfl<|s_q (.bool (decide ((i_83:Int) > 0))) rfl rfl rfl<|s_on rfl<|s_mov (.bool (decide ((i_83:Int) > 0))) rfl<|?_
       rcases oi hb2 with ⟨c153,hb2⟩ | ⟨c153,hb2⟩
       ·refine s_lit (s:=34) (b:=true) rfl c153<|s_on rfl<|s_mov (.lst 3 (d_1.map encGAtom)) rfl<|s_on rfl<|s_mov (.int .i64 (i_83:Int)) rfl<|s_on rfl<|s_q (.int .i64 (w64 ((i_83:Int) - 1))) rfl rfl rfl<|s_on rfl<|?_
        obtain ⟨x_154,ex155,hb2⟩:=ob hb2
        refine s_do (o_iaddr (enc:=encGAtom) rfl rfl (idx0 ex155) (idx1 ex155))<|s_on rfl<|s_q (encGAtom x_154) rfl nle rfl<|s_on rfl<|s_mov (.lst 3 (d_1.map encGAtom)) rfl<|s_on rfl<|s_mov (.int .i64 (i_83:Int)) rfl<|s_on rfl<|s_do (o_iaddrn (enc:=encGAtom) rfl rfl hx126)<|s_on rfl<|s_q (encGAtom x_131) rfl nle rfl<|s_onl rfl<|?_
        obtain ⟨r_156,er157,hb2⟩:=ob hb2
        refine s_dol (o_call (w_spec_l03Order _ _ _ er157) rfl (.refl _) rfl) a_same trivial<|s_on rfl<|s_q (.bool (decide (r_156 ≥ 0))) rfl rfl rfl<|s_on rfl<|s_q (.bool (decide (r_156 ≥ 0))) rfl trivial rfl<|s_q (.bool (decide (r_156 ≥ 0))) rfl trivial rfl<|w_done<|?_;obtain rfl:=os hb2;exact ⟨[],[],_,_,rfl,rfl,⟨.refl _,⟨.refl _,⟨.refl _,trivial⟩⟩⟩,(.refl _)⟩
       ·refine s_lit (s:=34) (b:=false) rfl (bf c153)<|s_off rfl rfl<|s_off rfl rfl<|s_off rfl rfl<|s_off rfl rfl<|s_off rfl rfl<|s_off rfl rfl<|s_off rfl rfl<|s_off rfl rfl<|s_off rfl rfl<|s_offl rfl rfl trivial<|s_off rfl rfl<|s_on rfl<|s_q (.bool false) rfl trivial rfl<|s_q (.bool false) rfl trivial rfl<|w_done<|?_;obtain rfl:=os hb2;exact ⟨[],[],_,_,rfl,rfl,⟨.refl _,⟨.refl _,⟨.refl _,trivial⟩⟩⟩,(.refl _)⟩
    ·rcases oi hc1 with ⟨c158,hc1⟩ | ⟨c158,hc1⟩
     ·refine w_condt rfl c158<|sr<|s_mov (.bool false) rfl<|dk<|w_ret<|?_;obtain rfl:=os hc1;obtain rfl:=os hf;exact r_flat ⟨trivial,trivial⟩ rfl (.refl _)
     ·refine w_condf rfl (bf c158)<|w_skip<|k_blk<|k_seq<|w_reg<|s_mov (.int .i64 (i_83:Int)) rfl<|s_q (.int .i64 (w64 ((i_83:Int) + 1))) rfl rfl rfl<|s_mov (.int .i64 (w64 ((i_83:Int) + 1))) rfl<|w_done<|?_;exact k_loopn ⟨(i_83 + 1),hc1⟩ (mul hlt125) ⟨[],[],_,_,rfl,rfl,⟨.refl _,⟨.of_eq (congrArg (AV.int _) (w64_incr hlt125 hl133)),trivial⟩⟩,(.refl _)⟩
  ·rintro ⟨_,rfl⟩
   refine sr<|s_mov (.lst 3 (d_1.map encGAtom)) rfl<|s_dof (o_len (enc:=encGAtom) rfl) fun hl159 => s_q (.bool (decide ((d_1.length:Int) ≤ 8))) rfl rfl rfl<|s_mov (.bool (decide ((d_1.length:Int) ≤ 8))) rfl<|dk<|w_ret<|?_;obtain rfl:=os hf;exact r_flat ⟨trivial,trivial⟩ rfl (.refl _)

/- spec.l06OK -/
def c123:ACode :=
 (.seq (.reg (tq 1 (.box 3 (.t 0)) (tm 2 (.c (.bool false)) .done)))
 (.seq (.reg (tq 3 (.faddr 1 (.t 1)) (tq 4 (.load 1 false (.t 3)) (tq 5 (.call 48 [(.t 4),(.c (.int .i64 1)),(.c (.int .i64 8))]) (tm 6 (.t 5) (tg 7 6 true (.faddr 2 (.t 1)) (tg 8 6 true (.load 1 false (.t 7)) (tg 9 6 true (.call 104 [(.t 8)]) (tq 10 (.pick (.t 6) (.t 9) (.c (.bool false))) (tm 11 (.t 10) (tg 12 11 true (.faddr 0 (.t 1)) (tg 13 11 true (.load 1 false (.t 12)) (tg 14 11 true (.lenS (.t 13)) (tg 15 11 true (.bin .leq (.t 14) (.c (.int .i64 40))) (tq 16 (.pick (.t 11) (.t 15) (.c (.bool false))) (tm 2 (.t 16) .done))))))))))))))))
 .ret))
theorem fc123:fcomp Tryz.prog Tryz.f123 = some (c123.erase,[.mov (.t 2)],17):=by kernel_rfl
def spec_l06OK (c_1:GCond):Option Bool :=
    (spec_l01In c_1.Func 1 8).bind fun r_2 =>
    if r_2 then
    (spec_DatumOK c_1.Value).bind fun r_5 =>
    some (bif r_5 then (decide ((c_1.Column.length:Int) ≤ 40)) else false)
    else
    some false
theorem w_spec_l06OK (c_1:GCond) (r:Bool) (hf:spec_l06OK c_1 = some r):CallOK Tryz.prog 123 .flat [(encGCond c_1)] (.bool r):=by
 refine CallOK.of_awp mixed Tryz.func123 fc123 nle ?_;rw [argT_eq];unfold spec_l06OK at hf;unfold c123;refine (show awp Tryz.prog false 0 _ (ofL [(0,(encGCond c_1))]) [] _ from ?_);refine sr<|s_do (o_box (j:=0) (c:=(.agg [(.str c_1.Column),(.int .i64 c_1.Func),(.lst 3 (c_1.Value.map encGAtom))])) rfl trivial rfl rfl)<|s_mov (.bool false) rfl<|dk<|sr<|s_q (.ptr 0 0 1) rfl trivial rfl<|s_q (.int .i64 c_1.Func) rfl nle rfl<|?_
 obtain ⟨r_2,er3,hf⟩:=ob hf
 refine s_do (o_call (w_spec_l01In _ _ _ _ er3) rfl (.refl _) rfl)<|s_mov (.bool r_2) rfl<|?_
 rcases oi hf with ⟨c4,hf⟩ | ⟨c4,hf⟩
 ·refine s_lit (s:=6) (b:=true) rfl c4<|s_on rfl<|s_q (.ptr 0 0 2) rfl trivial rfl<|s_on rfl<|s_q (.lst 3 (c_1.Value.map encGAtom)) rfl nle rfl<|s_on rfl<|?_
  obtain ⟨r_5,er6,hf⟩:=ob hf
  refine s_do (o_call (w_spec_DatumOK _ _ er6) rfl (.refl _) rfl)<|s_q (.bool r_5) rfl trivial rfl<|s_mov (.bool r_5) rfl<|?_;refine s_g (v:=r_5) (.ptr 0 0 0) rfl (fun hv => by (try simp only [gs_on hv]);exact ⟨rfl,trivial,rfl⟩) ?_;refine s_g (v:=r_5) (.str c_1.Column) rfl (fun hv => by (try simp only [gs_on hv]);exact ⟨rfl,nle,rfl⟩) ?_;refine s_g (v:=r_5) (.int .i64 (c_1.Column.length:Int)) rfl (fun hv => by (try simp only [gs_on hv]);exact ⟨rfl,trivial,rfl⟩) ?_;refine s_g (v:=r_5) (.bool (decide ((c_1.Column.length:Int) ≤ 40))) rfl (fun hv => by (try simp only [gs_on hv]);exact ⟨rfl,rfl,rfl⟩) ?_;refine s_pick (x:=(decide ((c_1.Column.length:Int) ≤ 40))) (y:=false) rfl (fun hv => by (try simp only [gs_on hv]);rfl) (fun hv => by (try simp only [gs_on hv]);rfl) ?_
  refine s_mov (.bool (bif r_5 then (decide ((c_1.Column.length:Int) ≤ 40)) else false)) rfl<|dk<|w_ret<|?_;obtain rfl:=os hf;exact r_flat ⟨trivial,trivial⟩ rfl (.refl _)
 ·refine s_lit (s:=6) (b:=false) rfl (bf c4)<|s_off rfl rfl<|s_off rfl rfl<|s_off rfl rfl<|s_q (.bool false) rfl trivial rfl<|s_mov (.bool false) rfl<|s_off rfl rfl<|s_off rfl rfl<|s_off rfl rfl<|s_off rfl rfl<|s_q (.bool false) rfl trivial rfl<|s_mov (.bool false) rfl<|dk<|w_ret<|?_;obtain rfl:=os hf;exact r_flat ⟨trivial,trivial⟩ rfl (.refl _)

/- spec.l06List -/
def c69:ACode :=
 (.seq (.reg (tm 2 (.c (.bool false)) .done))
 (.seq (.seq (.reg (tm 3 (.c (.int .i64 0)) .done))
 (.block 0 (.loop (.seq (.seq (.reg (tm 4 (.t 3) (tm 5 (.t 0) (tq 6 (.len (.t 5)) (tq 7 (.bin .lss (.t 4) (.t 6)) .done)))))
 (.cond (.t 7) .skip
 (.exit 0)))
 (.seq (.block 1 (.seq (.reg (tm 10 (.t 0) (tm 11 (.t 3) (tq 12 (.iaddr 3 (.t 10) (.t 11)) (tq 13 (.load 3 true (.t 12)) (tq 14 (.call 123 [(.t 13)]) (tq 15 (.not (.t 14)) .done)))))))
 (.cond (.t 15) (.seq (.reg (tm 2 (.c (.bool false)) .done))
 .ret)
 .skip)))
 (.reg (tm 8 (.t 3) (tq 9 (.bin .add (.t 8) (.c (.int .i64 1))) (tm 3 (.t 9) .done)))))))))
 (.cut (.seq (.reg (tm 16 (.t 0) (tq 17 (.len (.t 16)) (tq 18 (.bin .leq (.t 17) (.c (.int .i64 8))) (tm 2 (.t 18) .done)))))
 .ret))))
theorem fc69:fcomp Tryz.prog Tryz.f69 = some (c69.erase,[.mov (.t 2)],19):=by kernel_rfl
def spec_l06List_L1 :List GCond → Option (Fl Bool Unit)
  | [] =>
    some (.go ())
  | x_33 :: xs =>
    (spec_l06OK x_33).bind fun r_36 =>
    if (!r_36) then
    some (.ret false)
    else
    spec_l06List_L1 xs 

def spec_l06List (list_1:(List GCond)):Option Bool :=
    (spec_l06List_L1 list_1 ).bind fun q => (match q with
    | .ret r => some r
    | .go _ =>
    some (decide ((list_1.length:Int) ≤ 8)))
theorem w_spec_l06List (list_1:(List GCond)) (r:Bool) (hf:spec_l06List list_1 = some r):CallOK Tryz.prog 69 .flat [(.lst 3 (list_1.map encGCond))] (.bool r):=by
 refine CallOK.of_awp mixed Tryz.func69 fc69 nle ?_;rw [argT_eq];unfold spec_l06List at hf;unfold c69;refine (show awp Tryz.prog false 0 _ (ofL [(0,(.lst 3 (list_1.map encGCond)))]) [] _ from ?_);refine sr<|s_mov (.bool false) rfl<|dk<|awp_seq<|sr<|s_mov (.int .i64 0) rfl<|dk<|?_
 obtain ⟨p26,hb1,hf⟩:=ob hf
 refine awp_cutx (X:={q:Unit // p26 = .go q}) (fun q => ([(0,(.lst 3 (list_1.map encGCond)))],[])) ?_ ?_
 ·refine awp_loop (X:={q:Nat // spec_l06List_L1 (list_1.drop q)  = some p26}) (fun q => ([(0,(.lst 3 (list_1.map encGCond))),(3,(.int .i64 (q.1:Int)))],[])) (fun q => list_1.length - q.1) ⟨0,hb1⟩ ⟨[],[],_,_,rfl,rfl,⟨.refl _,⟨.refl _,trivial⟩⟩,(.refl _)⟩ ?_
  rintro ⟨i_17,hc1⟩
  have hc1:spec_l06List_L1 (list_1.drop i_17)  = some p26:=hc1
  refine (show awp Tryz.prog false 0 _ (ofL [(0,(.lst 3 (list_1.map encGCond))),(3,(.int .i64 (i_17:Int)))]) [] _ from ?_)
  rcases dropc list_1 i_17 with ⟨hie29,hd32⟩ | ⟨hlt27,x_33,hx28,hd32⟩
  ·rw [hd32,spec_l06List_L1.eq_1] at hc1
   have hq31:=dlf hie29
   refine awp_seq<|sr<|s_mov (.int .i64 (i_17:Int)) rfl<|s_mov (.lst 3 (list_1.map encGCond)) rfl<|s_dof (o_len (enc:=encGCond) rfl) fun hl34 => s_q (.bool (decide ((i_17:Int) < (list_1.length:Int)))) rfl rfl rfl<|dk<|w_condf rfl hq31<|w_exit<|k_seqx<|k_loopx<|k_blkx<|?_;obtain rfl:=os hc1;exact k_cutn ⟨_,rfl⟩ ⟨[],[],_,_,rfl,rfl,⟨.refl _,trivial⟩,(.refl _)⟩
  ·rw [hd32,spec_l06List_L1.eq_2] at hc1
   have hq31:=dlt hlt27
   refine awp_seq<|sr<|s_mov (.int .i64 (i_17:Int)) rfl<|s_mov (.lst 3 (list_1.map encGCond)) rfl<|s_dof (o_len (enc:=encGCond) rfl) fun hl35 => s_q (.bool (decide ((i_17:Int) < (list_1.length:Int)))) rfl rfl rfl<|dk<|w_condt rfl hq31<|w_skip<|k_seq<|awp_seq<|w_blk<|sr<|?_
   obtain ⟨r_36,er37,hc1⟩:=ob hc1
   refine s_mov (.lst 3 (list_1.map encGCond)) rfl<|s_mov (.int .i64 (i_17:Int)) rfl<|s_do (o_iaddrn (enc:=encGCond) rfl rfl hx28)<|s_q (encGCond x_33) rfl nle rfl<|s_do (o_call (w_spec_l06OK _ _ er37) rfl (.refl _) rfl)<|s_q (.bool (!r_36)) rfl trivial rfl<|dk<|?_
   rcases oi hc1 with ⟨c38,hc1⟩ | ⟨c38,hc1⟩
   ·refine w_condt rfl c38<|sr<|s_mov (.bool false) rfl<|dk<|w_ret<|?_;obtain rfl:=os hc1;obtain rfl:=os hf;exact r_flat ⟨trivial,trivial⟩ rfl (.refl _)
   ·refine w_condf rfl (bf c38)<|w_skip<|k_blk<|k_seq<|w_reg<|s_mov (.int .i64 (i_17:Int)) rfl<|s_q (.int .i64 (w64 ((i_17:Int) + 1))) rfl rfl rfl<|s_mov (.int .i64 (w64 ((i_17:Int) + 1))) rfl<|w_done<|?_;exact k_loopn ⟨(i_17 + 1),hc1⟩ (mul hlt27) ⟨[],[],_,_,rfl,rfl,⟨.refl _,⟨.of_eq (congrArg (AV.int _) (w64_incr hlt27 hl35)),trivial⟩⟩,(.refl _)⟩
 ·rintro ⟨_,rfl⟩
  refine sr<|s_mov (.lst 3 (list_1.map encGCond)) rfl<|s_dof (o_len (enc:=encGCond) rfl) fun hl39 => s_q (.bool (decide ((list_1.length:Int) ≤ 8))) rfl rfl rfl<|s_mov (.bool (decide ((list_1.length:Int) ≤ 8))) rfl<|dk<|w_ret<|?_;obtain rfl:=os hf;exact r_flat ⟨trivial,trivial⟩ rfl (.refl _)

/- spec.l07OK -/
def c124:ACode :=
 (.seq (.reg (tq 1 (.box 3 (.t 0)) (tm 2 (.c (.bool false)) .done)))
 (.seq (.reg (tq 3 (.faddr 1 (.t 1)) (tq 4 (.load 1 false (.t 3)) (tq 5 (.call 48 [(.t 4),(.c (.int .i64 1)),(.c (.int .i64 7))]) (tm 6 (.t 5) (tg 7 6 true (.faddr 2 (.t 1)) (tg 8 6 true (.load 1 false (.t 7)) (tg 9 6 true (.call 104 [(.t 8)]) (tq 10 (.pick (.t 6) (.t 9) (.c (.bool false))) (tm 11 (.t 10) (tg 12 11 true (.faddr 0 (.t 1)) (tg 13 11 true (.load 1 false (.t 12)) (tg 14 11 true (.lenS (.t 13)) (tg 15 11 true (.bin .leq (.t 14) (.c (.int .i64 40))) (tq 16 (.pick (.t 11) (.t 15) (.c (.bool false))) (tm 2 (.t 16) .done))))))))))))))))
 .ret))
theorem fc124:fcomp Tryz.prog Tryz.f124 = some (c124.erase,[.mov (.t 2)],17):=by kernel_rfl
def spec_l07OK (m_1:GMut):Option Bool :=
    (spec_l01In m_1.Func 1 7).bind fun r_2 =>
    if r_2 then
    (spec_DatumOK m_1.Value).bind fun r_5 =>
    some (bif r_5 then (decide ((m_1.Column.length:Int) ≤ 40)) else false)
    else
    some false
theorem w_spec_l07OK (m_1:GMut) (r:Bool) (hf:spec_l07OK m_1 = some r):CallOK Tryz.prog 124 .flat [(encGMut m_1)] (.bool r):=by
 refine CallOK.of_awp mixed Tryz.func124 fc124 nle ?_;rw [argT_eq];unfold spec_l07OK at hf;unfold c124;refine (show awp Tryz.prog false 0 _ (ofL [(0,(encGMut m_1))]) [] _ from ?_);refine sr<|s_do (o_box (j:=0) (c:=(.agg [(.str m_1.Column),(.int .i64 m_1.Func),(.lst 3 (m_1.Value.map encGAtom))])) rfl trivial rfl rfl)<|s_mov (.bool false) rfl<|dk<|sr<|s_q (.ptr 0 0 1) rfl trivial rfl<|s_q (.int .i64 m_1.Func) rfl nle rfl<|?_
 obtain ⟨r_2,er3,hf⟩:=ob hf
 refine s_do (o_call (w_spec_l01In _ _ _ _ er3) rfl (.refl _) rfl)<|s_mov (.bool r_2) rfl<|?_
 rcases oi hf with ⟨c4,hf⟩ | ⟨c4,hf⟩
 ·refine s_lit (s:=6) (b:=true) rfl c4<|s_on rfl<|s_q (.ptr 0 0 2) rfl trivial rfl<|s_on rfl<|s_q (.lst 3 (m_1.Value.map encGAtom)) rfl nle rfl<|s_on rfl<|?_
  obtain ⟨r_5,er6,hf⟩:=ob hf
  refine s_do (o_call (w_spec_DatumOK _ _ er6) rfl (.refl _) rfl)<|s_q (.bool r_5) rfl trivial rfl<|s_mov (.bool r_5) rfl<|?_;refine s_g (v:=r_5) (.ptr 0 0 0) rfl (fun hv => by (try simp only [gs_on hv]);exact ⟨rfl,trivial,rfl⟩) ?_;refine s_g (v:=r_5) (.str m_1.Column) rfl (fun hv => by (try simp only [gs_on hv]);exact ⟨rfl,nle,rfl⟩) ?_;refine s_g (v:=r_5) (.int .i64 (m_1.Column.length:Int)) rfl (fun hv => by (try simp only [gs_on hv]);exact ⟨rfl,trivial,rfl⟩) ?_;refine s_g (v:=r_5) (.bool (decide ((m_1.Column.length:Int) ≤ 40))) rfl (fun hv => by (try simp only [gs_on hv]);exact ⟨rfl,rfl,rfl⟩) ?_;refine s_pick (x:=(decide ((m_1.Column.length:Int) ≤ 40))) (y:=false) rfl (fun hv => by (try simp only [gs_on hv]);rfl) (fun hv => by (try simp only [gs_on hv]);rfl) ?_
  refine s_mov (.bool (bif r_5 then (decide ((m_1.Column.length:Int) ≤ 40)) else false)) rfl<|dk<|w_ret<|?_;obtain rfl:=os hf;exact r_flat ⟨trivial,trivial⟩ rfl (.refl _)
 ·refine s_lit (s:=6) (b:=false) rfl (bf c4)<|s_off rfl rfl<|s_off rfl rfl<|s_off rfl rfl<|s_q (.bool false) rfl trivial rfl<|s_mov (.bool false) rfl<|s_off rfl rfl<|s_off rfl rfl<|s_off rfl rfl<|s_off rfl rfl<|s_q (.bool false) rfl trivial rfl<|s_mov (.bool false) rfl<|dk<|w_ret<|?_;obtain rfl:=os hf;exact r_flat ⟨trivial,trivial⟩ rfl (.refl _)

/- spec.l07List -/
def c70:ACode :=
 (.seq (.reg (tm 2 (.c (.bool false)) .done))
 (.seq (.seq (.reg (tm 3 (.c (.int .i64 0)) .done))
 (.block 0 (.loop (.seq (.seq (.reg (tm 4 (.t 3) (tm 5 (.t 0) (tq 6 (.len (.t 5)) (tq 7 (.bin .lss (.t 4) (.t 6)) .done)))))
 (.cond (.t 7) .skip
 (.exit 0)))
 (.seq (.block 1 (.seq (.reg (tm 10 (.t 0) (tm 11 (.t 3) (tq 12 (.iaddr 3 (.t 10) (.t 11)) (tq 13 (.load 3 true (.t 12)) (tq 14 (.call 124 [(.t 13)]) (tq 15 (.not (.t 14)) .done)))))))
 (.cond (.t 15) (.seq (.reg (tm 2 (.c (.bool false)) .done))
 .ret)
 .skip)))
 (.reg (tm 8 (.t 3) (tq 9 (.bin .add (.t 8) (.c (.int .i64 1))) (tm 3 (.t 9) .done)))))))))
 (.cut (.seq (.reg (tm 16 (.t 0) (tq 17 (.len (.t 16)) (tq 18 (.bin .leq (.t 17) (.c (.int .i64 8))) (tm 2 (.t 18) .done)))))
 .ret))))
theorem fc70:fcomp Tryz.prog Tryz.f70 = some (c70.erase,[.mov (.t 2)],19):=by kernel_rfl
def spec_l07List_L1 :List GMut → Option (Fl Bool Unit)
  | [] =>
    some (.go ())
  | x_33 :: xs =>
    (spec_l07OK x_33).bind fun r_36 =>
    if (!r_36) then
    some (.ret false)
    else
    spec_l07List_L1 xs 

def spec_l07List (list_1:(List GMut)):Option Bool :=
    (spec_l07List_L1 list_1 ).bind fun q => (match q with
    | .ret r => some r
    | .go _ =>
    some (decide ((list_1.length:Int) ≤ 8)))
theorem w_spec_l07List (list_1:(List GMut)) (r:Bool) (hf:spec_l07List list_1 = some r):CallOK Tryz.prog 70 .flat [(.lst 3 (list_1.map encGMut))] (.bool r):=by
 refine CallOK.of_awp mixed Tryz.func70 fc70 nle ?_;rw [argT_eq];unfold spec_l07List at hf;unfold c70;refine (show awp Tryz.prog false 0 _ (ofL [(0,(.lst 3 (list_1.map encGMut)))]) [] _ from ?_);refine sr<|s_mov (.bool false) rfl<|dk<|awp_seq<|sr<|s_mov (.int .i64 0) rfl<|dk<|?_
 obtain ⟨p26,hb1,hf⟩:=ob hf
 refine awp_cutx (X:={q:Unit // p26 = .go q}) (fun q => ([(0,(.lst 3 (list_1.map encGMut)))],[])) ?_ ?_
 ·refine awp_loop (X:={q:Nat // spec_l07List_L1 (list_1.drop q)  = some p26}) (fun q => ([(0,(.lst 3 (list_1.map encGMut))),(3,(.int .i64 (q.1:Int)))],[])) (fun q => list_1.length - q.1) ⟨0,hb1⟩ ⟨[],[],_,_,rfl,rfl,⟨.refl _,⟨.refl _,trivial⟩⟩,(.refl _)⟩ ?_
  rintro ⟨i_17,hc1⟩
  have hc1:spec_l07List_L1 (list_1.drop i_17)  = some p26:=hc1
  refine (show awp Tryz.prog false 0 _ (ofL [(0,(.lst 3 (list_1.map encGMut))),(3,(.int .i64 (i_17:Int)))]) [] _ from ?_)
  rcases dropc list_1 i_17 with ⟨hie29,hd32⟩ | ⟨hlt27,x_33,hx28,hd32⟩
  ·rw [hd32,spec_l07List_L1.eq_1] at hc1
   have hq31:=dlf hie29
   refine awp_seq<|sr<|s_mov (.int .i64 (i_17:Int)) rfl<|s_mov (.lst 3 (list_1.map encGMut)) rfl<|s_dof (o_len (enc:=encGMut) rfl) fun hl34 => s_q (.bool (decide ((i_17:Int) < (list_1.length:Int)))) rfl rfl rfl<|dk<|w_condf rfl hq31<|w_exit<|k_seqx<|k_loopx<|k_blkx<|?_;obtain rfl:=os hc1;exact k_cutn ⟨_,rfl⟩ ⟨[],[],_,_,rfl,rfl,⟨.refl _,trivial⟩,(.refl _)⟩
  ·rw [hd32,spec_l07List_L1.eq_2] at hc1
   have hq31:=dlt hlt27
   refine awp_seq<|sr<|s_mov (.int .i64 (i_17:Int)) rfl<|s_mov (.lst 3 (list_1.map encGMut)) rfl<|s_dof (o_len (enc:=encGMut) rfl) fun hl35 => s_q (.bool (decide ((i_17:Int) < (list_1.length:Int)))) rfl rfl rfl<|dk<|w_condt rfl hq31<|w_skip<|k_seq<|awp_seq<|w_blk<|sr<|?_
   obtain ⟨r_36,er37,hc1⟩:=ob hc1
   refine s_mov (.lst 3 (list_1.map encGMut)) rfl<|s_mov (.int .i64 (i_17:Int)) rfl<|s_do (o_iaddrn (enc:=encGMut) rfl rfl hx28)<|s_q (encGMut x_33) rfl nle rfl<|s_do (o_call (w_spec_l07OK _ _ er37) rfl (.refl _) rfl)<|s_q (.bool (!r_36)) rfl trivial rfl<|dk<|?_
   rcases oi hc1 with ⟨c38,hc1⟩ | ⟨c38,hc1⟩
   ·refine w_condt rfl c38<|sr<|s_mov (.bool false) rfl<|dk<|w_ret<|?_;obtain rfl:=os hc1;obtain rfl:=os hf;exact r_flat ⟨trivial,trivial⟩ rfl (.refl _)
   ·refine w_condf rfl (bf c38)<|w_skip<|k_blk<|k_seq<|w_reg<|s_mov (.int .i64 (i_17:Int)) rfl<|s_q (.int .i64 (w64 ((i_17:Int) + 1))) rfl rfl rfl<|s_mov (.int .i64 (w64 ((i_17:Int) + 1))) rfl<|w_done<|?_;exact k_loopn ⟨(i_17 + 1),hc1⟩ (mul hlt27) ⟨[],[],_,_,rfl,rfl,⟨.refl _,⟨.of_eq (congrArg (AV.int _) (w64_incr hlt27 hl35)),trivial⟩⟩,(.refl _)⟩
 ·rintro ⟨_,rfl⟩
  refine sr<|s_mov (.lst 3 (list_1.map encGMut)) rfl<|s_dof (o_len (enc:=encGMut) rfl) fun hl39 => s_q (.bool (decide ((list_1.length:Int) ≤ 8))) rfl rfl rfl<|s_mov (.bool (decide ((list_1.length:Int) ≤ 8))) rfl<|dk<|w_ret<|?_;obtain rfl:=os hf;exact r_flat ⟨trivial,trivial⟩ rfl (.refl _)

/- spec.l08Names -/
def c125:ACode :=
 (.seq (.reg (tm 2 (.c (.bool false)) .done))
 (.seq (.seq (.reg (tm 3 (.c (.int .i64 0)) .done))
 (.block 0 (.loop (.seq (.seq (.reg (tm 4 (.t 3) (tm 5 (.t 0) (tq 6 (.len (.t 5)) (tq 7 (.bin .lss (.t 4) (.t 6)) .done)))))
 (.cond (.t 7) .skip
 (.exit 0)))
 (.seq (.block 1 (.seq (.reg (tm 10 (.t 0) (tm 11 (.t 3) (tq 12 (.iaddr 1 (.t 10) (.t 11)) (tq 13 (.load 1 false (.t 12)) (tq 14 (.call 72 [(.t 13)]) (tq 15 (.not (.t 14)) .done)))))))
 (.cond (.t 15) (.seq (.reg (tm 2 (.c (.bool false)) .done))
 .ret)
 .skip)))
 (.reg (tm 8 (.t 3) (tq 9 (.bin .add (.t 8) (.c (.int .i64 1))) (tm 3 (.t 9) .done)))))))))
 (.cut (.seq (.reg (tm 16 (.t 0) (tq 17 (.len (.t 16)) (tq 18 (.bin .leq (.t 17) (.c (.int .i64 8))) (tm 2 (.t 18) .done)))))
 .ret))))
theorem fc125:fcomp Tryz.prog Tryz.f125 = some (c125.erase,[.mov (.t 2)],19):=by kernel_rfl
def spec_l08Names_L1 :List Str → Option (Fl Bool Unit)
  | [] =>
    some (.go ())
  | x_33 :: xs =>
    (spec_NameOK x_33).bind fun r_36 =>
    if (!r_36) then
    some (.ret false)
    else
    spec_l08Names_L1 xs 

def spec_l08Names (list_1:(List Str)):Option Bool :=
    (spec_l08Names_L1 list_1 ).bind fun q => (match q with
    | .ret r => some r
    | .go _ =>
    some (decide ((list_1.length:Int) ≤ 8)))
theorem w_spec_l08Names (list_1:(List Str)) (r:Bool) (hf:spec_l08Names list_1 = some r):CallOK Tryz.prog 125 .flat [(.lst 1 (list_1.map AV.str))] (.bool r):=by
 refine CallOK.of_awp mixed Tryz.func125 fc125 nle ?_;rw [argT_eq];unfold spec_l08Names at hf;unfold c125;refine (show awp Tryz.prog false 0 _ (ofL [(0,(.lst 1 (list_1.map AV.str)))]) [] _ from ?_);refine sr<|s_mov (.bool false) rfl<|dk<|awp_seq<|sr<|s_mov (.int .i64 0) rfl<|dk<|?_
 obtain ⟨p26,hb1,hf⟩:=ob hf
 refine awp_cutx (X:={q:Unit // p26 = .go q}) (fun q => ([(0,(.lst 1 (list_1.map AV.str)))],[])) ?_ ?_
 ·refine awp_loop (X:={q:Nat // spec_l08Names_L1 (list_1.drop q)  = some p26}) (fun q => ([(0,(.lst 1 (list_1.map AV.str))),(3,(.int .i64 (q.1:Int)))],[])) (fun q => list_1.length - q.1) ⟨0,hb1⟩ ⟨[],[],_,_,rfl,rfl,⟨.refl _,⟨.refl _,trivial⟩⟩,(.refl _)⟩ ?_
  rintro ⟨i_17,hc1⟩
  have hc1:spec_l08Names_L1 (list_1.drop i_17)  = some p26:=hc1
  refine (show awp Tryz.prog false 0 _ (ofL [(0,(.lst 1 (list_1.map AV.str))),(3,(.int .i64 (i_17:Int)))]) [] _ from ?_)
  rcases dropc list_1 i_17 with ⟨hie29,hd32⟩ | ⟨hlt27,x_33,hx28,hd32⟩
  ·rw [hd32,spec_l08Names_L1.eq_1] at hc1
   have hq31:=dlf hie29
   refine awp_seq<|sr<|s_mov (.int .i64 (i_17:Int)) rfl<|s_mov (.lst 1 (list_1.map AV.str)) rfl<|s_dof (o_len (enc:=AV.str) rfl) fun hl34 => s_q (.bool (decide ((i_17:Int) < (list_1.length:Int)))) rfl rfl rfl<|dk<|w_condf rfl hq31<|w_exit<|k_seqx<|k_loopx<|k_blkx<|?_;obtain rfl:=os hc1;exact k_cutn ⟨_,rfl⟩ ⟨[],[],_,_,rfl,rfl,⟨.refl _,trivial⟩,(.refl _)⟩
  ·rw [hd32,spec_l08Names_L1.eq_2] at hc1
   have hq31:=dlt hlt27
   refine awp_seq<|sr<|s_mov (.int .i64 (i_17:Int)) rfl<|s_mov (.lst 1 (list_1.map AV.str)) rfl<|s_dof (o_len (enc:=AV.str) rfl) fun hl35 => s_q (.bool (decide ((i_17:Int) < (list_1.length:Int)))) rfl rfl rfl<|dk<|w_condt rfl hq31<|w_skip<|k_seq<|awp_seq<|w_blk<|sr<|?_
   obtain ⟨r_36,er37,hc1⟩:=ob hc1
   refine s_mov (.lst 1 (list_1.map AV.str)) rfl<|s_mov (.int .i64 (i_17:Int)) rfl<|s_do (o_iaddrn (enc:=AV.str) rfl rfl hx28)<|s_q (.str x_33) rfl ⟨rfl,rfl⟩ rfl<|s_do (o_call (w_spec_NameOK _ _ er37) rfl (.refl _) rfl)<|s_q (.bool (!r_36)) rfl trivial rfl<|dk<|?_
   rcases oi hc1 with ⟨c38,hc1⟩ | ⟨c38,hc1⟩
   ·refine w_condt rfl c38<|sr<|s_mov (.bool false) rfl<|dk<|w_ret<|?_;obtain rfl:=os hc1;obtain rfl:=os hf;exact r_flat ⟨trivial,trivial⟩ rfl (.refl _)
   ·refine w_condf rfl (bf c38)<|w_skip<|k_blk<|k_seq<|w_reg<|s_mov (.int .i64 (i_17:Int)) rfl<|s_q (.int .i64 (w64 ((i_17:Int) + 1))) rfl rfl rfl<|s_mov (.int .i64 (w64 ((i_17:Int) + 1))) rfl<|w_done<|?_;exact k_loopn ⟨(i_17 + 1),hc1⟩ (mul hlt27) ⟨[],[],_,_,rfl,rfl,⟨.refl _,⟨.of_eq (congrArg (AV.int _) (w64_incr hlt27 hl35)),trivial⟩⟩,(.refl _)⟩
 ·rintro ⟨_,rfl⟩
  refine sr<|s_mov (.lst 1 (list_1.map AV.str)) rfl<|s_dof (o_len (enc:=AV.str) rfl) fun hl39 => s_q (.bool (decide ((list_1.length:Int) ≤ 8))) rfl rfl rfl<|s_mov (.bool (decide ((list_1.length:Int) ≤ 8))) rfl<|dk<|w_ret<|?_;obtain rfl:=os hf;exact r_flat ⟨trivial,trivial⟩ rfl (.refl _)

/- spec.l08Set -/
def c71:ACode :=
 (.seq (.reg (tq 1 (.box 3 (.t 0)) (tm 2 (.c (.bool false)) .done)))
 (.seq (.reg (tq 3 (.faddr 0 (.t 1)) (tq 4 (.load 1 false (.t 3)) (tq 5 (.lenS (.t 4)) (tq 6 (.bin .leq (.t 5) (.c (.int .i64 40))) (tm 7 (.t 6) (tg 8 7 true (.faddr 1 (.t 1)) (tg 9 7 true (.load 1 false (.t 8)) (tg 10 7 true (.call 104 [(.t 9)]) (tq 11 (.pick (.t 7) (.t 10) (.c (.bool false))) (tm 12 (.t 11) (tg 13 12 true (.faddr 2 (.t 1)) (tg 14 12 true (.load 1 false (.t 13)) (tg 15 12 true (.call 125 [(.t 14)]) (tq 16 (.pick (.t 12) (.t 15) (.c (.bool false))) (tm 17 (.t 16) (tg 18 17 true (.faddr 2 (.t 1)) (tg 19 17 true (.load 1 false (.t 18)) (tg 20 17 true (.len (.t 19)) (tg 21 17 true (.bin .eql (.t 20) (.c (.int .i64 0))) (tg 22 17 true (.mov (.t 21)) (tg 23 22 false (.faddr 1 (.t 1)) (tg 24 22 false (.load 1 false (.t 23)) (tg 25 22 false (.len (.t 24)) (tg 26 22 false (.bin .eql (.t 25) (.c (.int .i64 0))) (tg 27 17 true (.pick (.t 22) (.c (.bool true)) (.t 26)) (tq 28 (.pick (.t 17) (.t 27) (.c (.bool false))) (tm 2 (.t 28) .done))))))))))))))))))))))))))))
 .ret))
theorem fc71:fcomp Tryz.prog Tryz.f71 = some (c71.erase,[.mov (.t 2)],29):=by kernel_rfl
def spec_l08Set (x_1:GSet):Option Bool :=
    if (decide ((x_1.Column.length:Int) ≤ 40)) then
    (spec_DatumOK x_1.Value).bind fun r_4 =>
    if r_4 then
    (spec_l08Names x_1.Names).bind fun r_7 =>
    some (bif r_7 then (bif ((x_1.Names.length:Int) == 0) then true else ((x_1.Value.length:Int) == 0)) else false)
    else
    some false
    else
    some false
theorem w_spec_l08Set (x_1:GSet) (r:Bool) (hf:spec_l08Set x_1 = some r):CallOK Tryz.prog 71 .flat [(encGSet x_1)] (.bool r):=by
 refine CallOK.of_awp mixed Tryz.func71 fc71 nle ?_;rw [argT_eq];unfold spec_l08Set at hf;unfold c71;refine (show awp Tryz.prog false 0 _ (ofL [(0,(encGSet x_1))]) [] _ from ?_);refine sr<|s_do (o_box (j:=0) (c:=(.agg [(.str x_1.Column),(.lst 3 (x_1.Value.map encGAtom)),(.lst 1 (x_1.Names.map AV.str))])) rfl trivial rfl rfl)<|s_mov (.bool false) rfl<|dk<|sr<|s_q (.ptr 0 0 0) rfl trivial rfl<|s_q (.str x_1.Column) rfl nle rfl<|s_dof (o_lenS rfl) fun hl2 => s_q (.bool (decide ((x_1.Column.length:Int) ≤ 40))) rfl rfl rfl<|s_mov (.bool (decide ((x_1.Column.length:Int) ≤ 40))) rfl<|?_
 rcases oi hf with ⟨c3,hf⟩ | ⟨c3,hf⟩
 ·refine s_lit (s:=7) (b:=true) rfl c3<|s_on rfl<|s_q (.ptr 0 0 1) rfl trivial rfl<|s_on rfl<|s_q (.lst 3 (x_1.Value.map encGAtom)) rfl nle rfl<|s_on rfl<|?_
  obtain ⟨r_4,er5,hf⟩:=ob hf
  refine s_do (o_call (w_spec_DatumOK _ _ er5) rfl (.refl _) rfl)<|s_q (.bool r_4) rfl trivial rfl<|s_mov (.bool r_4) rfl<|?_
  rcases oi hf with ⟨c6,hf⟩ | ⟨c6,hf⟩
  ·refine s_lit (s:=12) (b:=true) rfl c6<|s_on rfl<|s_q (.ptr 0 0 2) rfl trivial rfl<|s_on rfl<|s_q (.lst 1 (x_1.Names.map AV.str)) rfl nle rfl<|s_on rfl<|?_
   obtain ⟨r_7,er8,hf⟩:=ob hf
   refine s_do (o_call (w_spec_l08Names _ _ er8) rfl (.refl _) rfl)<|s_q (.bool r_7) rfl trivial rfl<|s_mov (.bool r_7) rfl<|?_;refine s_g (v:=r_7) (.ptr 0 0 2) rfl (fun hv => by (try simp only [gs_on hv]);exact ⟨rfl,trivial,rfl⟩) ?_;refine s_g (v:=r_7) (.lst 1 (x_1.Names.map AV.str)) rfl (fun hv => by (try simp only [gs_on hv]);exact ⟨rfl,nle,rfl⟩) ?_;refine s_g (v:=r_7) (.int .i64 (x_1.Names.length:Int)) rfl (fun hv => by (try simp only [gs_on hv]);exact ⟨rfl,trivial,lenV _ _⟩) ?_;refine s_g (v:=r_7) (.bool ((x_1.Names.length:Int) == 0)) rfl (fun hv => by (try simp only [gs_on hv]);exact ⟨rfl,rfl,rfl⟩) ?_;refine s_g (v:=r_7) (.bool ((x_1.Names.length:Int) == 0)) rfl (fun hv => by (try simp only [gs_on hv]);exact ⟨rfl,trivial,rfl⟩) ?_
   refine s_gg (v1:=r_7) (b1:=true) (v2:=((x_1.Names.length:Int) == 0)) (.ptr 0 0 1) rfl (fun hv hw => by (try simp only [gs_on hv,gs_on hw]);exact ⟨rfl,trivial,rfl⟩) ?_;refine s_gg (v1:=r_7) (b1:=true) (v2:=((x_1.Names.length:Int) == 0)) (.lst 3 (x_1.Value.map encGAtom)) rfl (fun hv hw => by (try simp only [gs_on hv,gs_on hw]);exact ⟨rfl,nle,rfl⟩) ?_;refine s_gg (v1:=r_7) (b1:=true) (v2:=((x_1.Names.length:Int) == 0)) (.int .i64 (x_1.Value.length:Int)) rfl (fun hv hw => by (try simp only [gs_on hv,gs_on hw]);exact ⟨rfl,trivial,lenV _ _⟩) ?_;refine s_gg (v1:=r_7) (b1:=true) (v2:=((x_1.Names.length:Int) == 0)) (.bool ((x_1.Value.length:Int) == 0)) rfl (fun hv hw => by (try simp only [gs_on hv,gs_on hw]);exact ⟨rfl,rfl,rfl⟩) ?_
   refine s_gp (v1:=r_7) (b1:=true) (v2:=((x_1.Names.length:Int) == 0)) (x:=true) (y:=((x_1.Value.length:Int) == 0)) rfl (fun hv => by (try simp only [gs_on hv]);rfl) (fun hv hw => by (try simp only [gs_on hv,gs_on hw]);rfl) (fun hv hw => by (try simp only [gs_on hv,gs_on hw]);rfl) ?_;refine s_pick (x:=(bif ((x_1.Names.length:Int) == 0) then true else ((x_1.Value.length:Int) == 0))) (y:=false) rfl (fun hv => by (try simp only [gs_on hv]);rfl) (fun hv => by (try simp only [gs_on hv]);rfl) ?_;refine s_mov (.bool (bif r_7 then (bif ((x_1.Names.length:Int) == 0) then true else ((x_1.Value.length:Int) == 0)) else false)) rfl<|dk<|w_ret<|?_;obtain rfl:=os hf;exact r_flat ⟨trivial,trivial⟩ rfl (.refl _)
  ·refine s_lit (s:=12) (b:=false) rfl (bf c6)<|s_off rfl rfl<|s_off rfl rfl<|s_off rfl rfl<|s_q (.bool false) rfl trivial rfl<|s_mov (.bool false) rfl<|s_off rfl rfl<|s_off rfl rfl<|s_off rfl rfl<|s_off rfl rfl<|s_off rfl rfl<|s_offs rfl<|s_offs rfl<|s_offs rfl<|s_offs rfl<|s_off rfl rfl<|s_q (.bool false) rfl trivial rfl<|s_mov (.bool false) rfl<|dk<|w_ret<|?_;obtain rfl:=os hf;exact r_flat ⟨trivial,trivial⟩ rfl (.refl _)
 ·refine s_lit (s:=7) (b:=false) rfl (bf c3)<|s_off rfl rfl<|s_off rfl rfl<|s_off rfl rfl<|s_q (.bool false) rfl trivial rfl<|s_mov (.bool false) rfl<|s_off rfl rfl<|s_off rfl rfl<|s_off rfl rfl<|s_q (.bool false) rfl trivial rfl<|s_mov (.bool false) rfl<|s_off rfl rfl<|s_off rfl rfl<|s_off rfl rfl<|s_off rfl rfl<|s_off rfl rfl<|s_offs rfl<|s_offs rfl<|s_offs rfl<|s_offs rfl<|s_off rfl rfl<|s_q (.bool false) rfl trivial rfl<|s_mov (.bool false) rfl<|dk<|w_ret<|?_;obtain rfl:=os hf;exact r_flat ⟨trivial,trivial⟩ rfl (.refl _)

/- spec.OpOK -/
def c33:ACode :=
 (.seq (.reg (tq 1 (.box 8 (.t 0)) (tm 2 (.c (.bool false)) .done)))
 (.seq (.seq (.reg (tq 9 (.faddr 0 (.t 1)) (tq 10 (.load 1 false (.t 9)) (tq 11 (.call 48 [(.t 10),(.c (.int .i64 1)),(.c (.int .i64 10))]) (tq 12 (.not (.t 11)) (tm 13 (.t 12) (tg 14 13 false (.faddr 1 (.t 1)) (tg 15 13 false (.load 1 false (.t 14)) (tg 16 13 false (.lenS (.t 15)) (tg 17 13 false (.bin .gtr (.t 16) (.c (.int .i64 40))) (tq 18 (.pick (.t 13) (.c (.bool true)) (.t 17)) (tm 19 (.t 18) (tg 20 19 false (.faddr 2 (.t 1)) (tg 21 19 false (.load 1 false (.t 20)) (tg 22 19 false (.lenS (.t 21)) (tg 23 19 false (.bin .gtr (.t 22) (.c (.int .i64 40))) (tq 24 (.pick (.t 19) (.c (.bool true)) (.t 23)) (tm 25 (.t 24) (tg 26 25 false (.faddr 3 (.t 1)) (tg 27 25 false (.load 1 false (.t 26)) (tg 28 25 false (.call 69 [(.t 27)]) (tg 29 25 false (.not (.t 28)) (tq 30 (.pick (.t 25) (.c (.bool true)) (.t 29)) (tm 31 (.t 30) (tg 32 31 false (.faddr 5 (.t 1)) (tg 33 31 false (.load 1 false (.t 32)) (tg 34 31 false (.call 70 [(.t 33)]) (tg 35 31 false (.not (.t 34)) (tq 36 (.pick (.t 31) (.c (.bool true)) (.t 35)) (tm 37 (.t 36) (tg 38 37 false (.faddr 4 (.t 1)) (tg 39 37 false (.load 1 false (.t 38)) (tg 40 37 false (.len (.t 39)) (tg 41 37 false (.bin .gtr (.t 40) (.c (.int .i64 6))) (tq 42 (.pick (.t 37) (.c (.bool true)) (.t 41)) (tm 43 (.t 42) (tg 44 43 false (.faddr 6 (.t 1)) (tg 45 43 false (.load 1 false (.t 44)) (tg 46 43 false (.len (.t 45)) (tg 47 43 false (.bin .gtr (.t 46) (.c (.int .i64 6))) (tq 48 (.pick (.t 43) (.c (.bool true)) (.t 47)) .done)))))))))))))))))))))))))))))))))))))))))
 (.cut (.cond (.t 48) (.seq (.reg (tm 2 (.c (.bool false)) .done))
 .ret)
 .skip)))
 (.seq (.seq (.reg (tm 3 (.c (.int .i64 0)) .done))
 (.block 0 (.loop (.seq (.seq (.reg (tm 49 (.t 3) (tq 50 (.faddr 4 (.t 1)) (tq 51 (.load 1 false (.t 50)) (tq 52 (.len (.t 51)) (tq 53 (.bin .lss (.t 49) (.t 52)) .done))))))
 (.cond (.t 53) .skip
 (.exit 0)))
 (.seq (.block 1 (.seq (.reg (tq 56 (.faddr 4 (.t 1)) (tq 57 (.load 1 false (.t 56)) (tm 58 (.t 3) (tq 59 (.iaddr 3 (.t 57) (.t 58)) (tq 60 (.load 3 true (.t 59)) (tq 61 (.call 71 [(.t 60)]) (tq 62 (.not (.t 61)) .done))))))))
 (.cond (.t 62) (.seq (.reg (tm 2 (.c (.bool false)) .done))
 .ret)
 .skip)))
 (.reg (tm 54 (.t 3) (tq 55 (.bin .add (.t 54) (.c (.int .i64 1))) (tm 3 (.t 55) .done)))))))))
 (.cut (.seq (.seq (.reg (tm 4 (.c (.int .i64 0)) .done))
 (.block 2 (.loop (.seq (.seq (.reg (tm 63 (.t 4) (tq 64 (.faddr 6 (.t 1)) (tq 65 (.load 1 false (.t 64)) (tq 66 (.len (.t 65)) (tq 67 (.bin .lss (.t 63) (.t 66)) .done))))))
 (.cond (.t 67) .skip
 (.exit 2)))
 (.seq (.block 3 (.seq (.reg (tq 70 (.faddr 6 (.t 1)) (tq 71 (.load 1 false (.t 70)) (tm 72 (.t 4) (tq 73 (.iaddr 1 (.t 71) (.t 72)) (tq 74 (.load 1 false (.t 73)) (tq 75 (.lenS (.t 74)) (tq 76 (.bin .gtr (.t 75) (.c (.int .i64 40))) .done))))))))
 (.cond (.t 76) (.seq (.reg (tm 2 (.c (.bool false)) .done))
 .ret)
 .skip)))
 (.reg (tm 68 (.t 4) (tq 69 (.bin .add (.t 68) (.c (.int .i64 1))) (tm 4 (.t 69) .done)))))))))
 (.cut (.seq (.reg (tq 77 (.faddr 0 (.t 1)) (tq 78 (.load 1 false (.t 77)) (tq 79 (.call 48 [(.t 78),(.c (.int .i64 1)),(.c (.int .i64 6))]) (tm 5 (.t 79) .done)))))
 (.seq (.reg (tq 80 (.faddr 0 (.t 1)) (tq 81 (.load 1 false (.t 80)) (tq 82 (.call 48 [(.t 81),(.c (.int .i64 2)),(.c (.int .i64 6))]) (tm 6 (.t 82) .done)))))
 (.seq (.reg (tq 83 (.faddr 0 (.t 1)) (tq 84 (.load 1 false (.t 83)) (tq 85 (.bin .eql (.t 84) (.c (.int .i64 1))) (tm 86 (.t 85) (tg 87 86 false (.faddr 0 (.t 1)) (tg 88 86 false (.load 1 false (.t 87)) (tg 89 86 false (.bin .geq (.t 88) (.c (.int .i64 9))) (tq 90 (.pick (.t 86) (.c (.bool true)) (.t 89)) (tm 7 (.t 90) .done))))))))))
 (.cut (.seq (.reg (tq 91 (.faddr 0 (.t 1)) (tq 92 (.load 1 false (.t 91)) (tq 93 (.bin .eql (.t 92) (.c (.int .i64 1))) (tm 94 (.t 93) (tg 95 94 false (.faddr 0 (.t 1)) (tg 96 94 false (.load 1 false (.t 95)) (tg 97 94 false (.bin .eql (.t 96) (.c (.int .i64 3))) (tq 98 (.pick (.t 94) (.c (.bool true)) (.t 97)) (tm 99 (.t 98) (tg 100 99 false (.faddr 0 (.t 1)) (tg 101 99 false (.load 1 false (.t 100)) (tg 102 99 false (.bin .eql (.t 101) (.c (.int .i64 6))) (tq 103 (.pick (.t 99) (.c (.bool true)) (.t 102)) (tm 8 (.t 103) .done)))))))))))))))
 (.cut (.seq (.reg (tm 104 (.t 5) (tm 105 (.t 104) (tg 106 105 false (.faddr 1 (.t 1)) (tg 107 105 false (.load 1 false (.t 106)) (tg 108 105 false (.bin .eql (.t 107) (.c (.str []))) (tq 109 (.pick (.t 105) (.c (.bool true)) (.t 108)) (tm 110 (.t 109) (tg 111 110 true (.mov (.t 6)) (tg 112 110 true (.mov (.t 111)) (tg 113 112 false (.faddr 3 (.t 1)) (tg 114 112 false (.load 1 false (.t 113)) (tg 115 112 false (.len (.t 114)) (tg 116 112 false (.bin .eql (.t 115) (.c (.int .i64 0))) (tg 117 110 true (.pick (.t 112) (.c (.bool true)) (.t 116)) (tq 118 (.pick (.t 110) (.t 117) (.c (.bool false))) (tm 119 (.t 118) (tg 120 119 true (.mov (.t 7)) (tg 121 119 true (.mov (.t 120)) (tg 122 121 false (.faddr 2 (.t 1)) (tg 123 121 false (.load 1 false (.t 122)) (tg 124 121 false (.bin .eql (.t 123) (.c (.str []))) (tg 125 119 true (.pick (.t 121) (.c (.bool true)) (.t 124)) (tq 126 (.pick (.t 119) (.t 125) (.c (.bool false))) (tm 127 (.t 126) (tg 128 127 true (.mov (.t 8)) (tg 129 127 true (.mov (.t 128)) (tg 130 129 false (.faddr 4 (.t 1)) (tg 131 129 false (.load 1 false (.t 130)) (tg 132 129 false (.len (.t 131)) (tg 133 129 false (.bin .eql (.t 132) (.c (.int .i64 0))) (tg 134 127 true (.pick (.t 129) (.c (.bool true)) (.t 133)) (tq 135 (.pick (.t 127) (.t 134) (.c (.bool false))) (tm 136 (.t 135) (tg 137 136 true (.faddr 0 (.t 1)) (tg 138 136 true (.load 1 false (.t 137)) (tg 139 136 true (.bin .eql (.t 138) (.c (.int .i64 4))) (tg 140 136 true (.mov (.t 139)) (tg 141 140 false (.faddr 5 (.t 1)) (tg 142 140 false (.load 1 false (.t 141)) (tg 143 140 false (.len (.t 142)) (tg 144 140 false (.bin .eql (.t 143) (.c (.int .i64 0))) (tg 145 136 true (.pick (.t 140) (.c (.bool true)) (.t 144)) (tq 146 (.pick (.t 136) (.t 145) (.c (.bool false))) (tm 147 (.t 146) (tg 148 147 true (.faddr 0 (.t 1)) (tg 149 147 true (.load 1 false (.t 148)) (tg 150 147 true (.bin .eql (.t 149) (.c (.int .i64 2))) (tg 151 147 true (.mov (.t 150)) (tg 152 151 false (.faddr 6 (.t 1)) (tg 153 151 false (.load 1 false (.t 152)) (tg 154 151 false (.len (.t 153)) (tg 155 151 false (.bin .eql (.t 154) (.c (.int .i64 0))) (tg 156 147 true (.pick (.t 151) (.c (.bool true)) (.t 155)) (tq 157 (.pick (.t 147) (.t 156) (.c (.bool false))) (tm 158 (.t 157) (tg 159 158 true (.faddr 0 (.t 1)) (tg 160 158 true (.load 1 false (.t 159)) (tg 161 158 true (.bin .eql (.t 160) (.c (.int .i64 6))) (tg 162 158 true (.mov (.t 161)) (tg 163 162 false (.faddr 7 (.t 1)) (tg 164 162 false (.load 1 false (.t 163)) (tg 165 162 false (.not (.t 164)) (tg 166 158 true (.pick (.t 162) (.c (.bool true)) (.t 165)) (tq 167 (.pick (.t 158) (.t 166) (.c (.bool false))) (tm 2 (.t 167) .done))))))))))))))))))))))))))))))))))))))))))))))))))))))))))))))))))
 .ret)))))))))))))
theorem fc33:fcomp Tryz.prog Tryz.f33 = some (c33.erase,[.mov (.t 2)],168):=by kernel_rfl
def spec_OpOK_L1 :List GSet → Option (Fl Bool Unit)
  | [] =>
    some (.go ())
  | x_60 :: xs =>
    (spec_l08Set x_60).bind fun r_63 =>
    if (!r_63) then
    some (.ret false)
    else
    spec_OpOK_L1 xs 

def spec_OpOK_L2 :List Str → Option (Fl Bool Unit)
  | [] =>
    some (.go ())
  | x_94 :: xs =>
    if (decide ((x_94.length:Int) > 40)) then
    some (.ret false)
    else
    spec_OpOK_L2 xs 

def spec_OpOK (o_1:GOp):Option Bool :=
    (((spec_l01In o_1.Kind 1 10).bind fun r_16 =>
    if (bif (bif (!r_16) then true else (decide ((o_1.Table.length:Int) > 40))) then true else (decide ((o_1.Name.length:Int) > 40))) then
    some true
    else
    (spec_l06List o_1.Where).bind fun r_21 =>
    if (!r_21) then
    some true
    else
    (spec_l07List o_1.Muts).bind fun r_24 =>
    some (bif (bif (!r_24) then true else (decide ((o_1.Row.length:Int) > 6))) then true else (decide ((o_1.Columns.length:Int) > 6))):Option Bool)).bind fun s48_14 =>
    if s48_14 then
    some false
    else
    (spec_OpOK_L1 o_1.Row ).bind fun q => (match q with
    | .ret r => some r
    | .go _ =>
    (spec_OpOK_L2 o_1.Columns ).bind fun q => (match q with
    | .ret r => some r
    | .go _ =>
    (spec_l01In o_1.Kind 1 6).bind fun r_99 =>
    (spec_l01In o_1.Kind 2 6).bind fun r_101 =>
    ((if (o_1.Kind == 1) then
    some true
    else
    some (decide (o_1.Kind ≥ 9)):Option Bool)).bind fun name_104 =>
    ((some ():Option Unit)).bind fun _ =>
    some (bif (bif (bif (bif (bif (bif (bif r_99 then true else (o_1.Table == [])) then (bif r_101 then true else ((o_1.Where.length:Int) == 0)) else false) then (bif name_104 then true else (o_1.Name == [])) else false) then (bif (bif (bif (o_1.Kind == 1) then true else (o_1.Kind == 3)) then true else (o_1.Kind == 6)) then true else ((o_1.Row.length:Int) == 0)) else false) then (bif (o_1.Kind == 4) then true else ((o_1.Muts.length:Int) == 0)) else false) then (bif (o_1.Kind == 2) then true else ((o_1.Columns.length:Int) == 0)) else false) then (bif (o_1.Kind == 6) then true else (!o_1.Until)) else false)))
theorem w_spec_OpOK (o_1:GOp) (r:Bool) (hf:spec_OpOK o_1 = some r):CallOK Tryz.prog 33 .flat [(encGOp o_1)] (.bool r):=by
 refine CallOK.of_awp mixed Tryz.func33 fc33 nle ?_;rw [argT_eq];unfold spec_OpOK at hf;unfold c33;refine (show awp Tryz.prog false 0 _ (ofL [(0,(encGOp o_1))]) [] _ from ?_);refine sr<|s_do (o_box (j:=0) (c:=(.agg [(.int .i64 o_1.Kind),(.str o_1.Table),(.str o_1.Name),(.lst 3 (o_1.Where.map encGCond)),(.lst 3 (o_1.Row.map encGSet)),(.lst 3 (o_1.Muts.map encGMut)),(.lst 1 (o_1.Columns.map AV.str)),(.bool o_1.Until)])) rfl trivial rfl rfl)<|s_mov (.bool false) rfl<|dk<|awp_seq<|awp_seq<|?_
 obtain ⟨s48_14,hb1,hf⟩:=ob hf
 refine awp_cut ([(1,(.ptr 0 0 0)),(48,(.bool s48_14))],[.box 8 (.agg [(.int .i64 o_1.Kind),(.str o_1.Table),(.str o_1.Name),(.lst 3 (o_1.Where.map encGCond)),(.lst 3 (o_1.Row.map encGSet)),(.lst 3 (o_1.Muts.map encGMut)),(.lst 1 (o_1.Columns.map AV.str)),(.bool o_1.Until)])]) ?_ ?_
 ·refine w_reg<|s_q (.ptr 0 0 0) rfl trivial rfl<|s_q (.int .i64 o_1.Kind) rfl nle rfl<|?_
  obtain ⟨r_16,er17,hb1⟩:=ob hb1
  refine s_do (o_call (w_spec_l01In _ _ _ _ er17) rfl (.refl _) rfl)<|s_q (.bool (!r_16)) rfl trivial rfl<|s_mov (.bool (!r_16)) rfl<|?_;refine s_g (v:=(!r_16)) (.ptr 0 0 1) rfl (fun hv => by (try simp only [gs_on hv]);exact ⟨rfl,trivial,rfl⟩) ?_;refine s_g (v:=(!r_16)) (.str o_1.Table) rfl (fun hv => by (try simp only [gs_on hv]);exact ⟨rfl,nle,rfl⟩) ?_;refine s_g (v:=(!r_16)) (.int .i64 (o_1.Table.length:Int)) rfl (fun hv => by (try simp only [gs_on hv]);exact ⟨rfl,trivial,rfl⟩) ?_;refine s_g (v:=(!r_16)) (.bool (decide ((o_1.Table.length:Int) > 40))) rfl (fun hv => by (try simp only [gs_on hv]);exact ⟨rfl,rfl,rfl⟩) ?_;refine s_pick (x:=true) (y:=(decide ((o_1.Table.length:Int) > 40))) rfl (fun hv => by (try simp only [gs_on hv]);rfl) (fun hv => by (try simp only [gs_on hv]);rfl) ?_
  refine s_mov (.bool (bif (!r_16) then true else (decide ((o_1.Table.length:Int) > 40)))) rfl ?_;refine s_g (v:=(bif (!r_16) then true else (decide ((o_1.Table.length:Int) > 40)))) (.ptr 0 0 2) rfl (fun hv => by (try simp only [gs_on hv]);exact ⟨rfl,trivial,rfl⟩) ?_;refine s_g (v:=(bif (!r_16) then true else (decide ((o_1.Table.length:Int) > 40)))) (.str o_1.Name) rfl (fun hv => by (try simp only [gs_on hv]);exact ⟨rfl,nle,rfl⟩) ?_;refine s_g (v:=(bif (!r_16) then true else (decide ((o_1.Table.length:Int) > 40)))) (.int .i64 (o_1.Name.length:Int)) rfl (fun hv => by (try simp only [gs_on hv]);exact ⟨rfl,trivial,rfl⟩) ?_;refine s_g (v:=(bif (!r_16) then true else (decide ((o_1.Table.length:Int) > 40)))) (.bool (decide ((o_1.Name.length:Int) > 40))) rfl (fun hv => by (try simp only [gs_on hv]);exact ⟨rfl,rfl,rfl⟩) ?_
  refine s_pick (x:=true) (y:=(decide ((o_1.Name.length:Int) > 40))) rfl (fun hv => by (try simp only [gs_on hv]);rfl) (fun hv => by (try simp only [gs_on hv]);rfl) ?_;refine s_mov (.bool (bif (bif (!r_16) then true else (decide ((o_1.Table.length:Int) > 40))) then true else (decide ((o_1.Name.length:Int) > 40)))) rfl ?_
  rcases oi hb1 with ⟨c20,hb1⟩ | ⟨c20,hb1⟩
  ·refine s_lit (s:=25) (b:=true) rfl c20<|s_off rfl rfl<|s_off rfl rfl<|s_off rfl rfl<|s_off rfl rfl<|s_q (.bool true) rfl trivial rfl<|s_mov (.bool true) rfl<|s_off rfl rfl<|s_off rfl rfl<|s_off rfl rfl<|s_off rfl rfl<|s_q (.bool true) rfl trivial rfl<|s_mov (.bool true) rfl<|s_off rfl rfl<|s_off rfl rfl<|s_off rfl rfl<|s_off rfl rfl<|s_q (.bool true) rfl trivial rfl<|s_mov (.bool true) rfl<|s_off rfl rfl<|s_off rfl rfl<|s_off rfl rfl<|s_off rfl rfl<|s_q (.bool true) rfl trivial rfl<|w_done<|?_;obtain rfl:=os hb1;exact ⟨[],[0],_,_,rfl,rfl,⟨.refl _,⟨.refl _,trivial⟩⟩,(.refl _)⟩
  ·refine s_lit (s:=25) (b:=false) rfl (bf c20)<|s_on rfl<|s_q (.ptr 0 0 3) rfl trivial rfl<|s_on rfl<|s_q (.lst 3 (o_1.Where.map encGCond)) rfl nle rfl<|s_on rfl<|?_
   obtain ⟨r_21,er22,hb1⟩:=ob hb1
   refine s_do (o_call (w_spec_l06List _ _ er22) rfl (.refl _) rfl)<|s_on rfl<|s_q (.bool (!r_21)) rfl trivial rfl<|s_q (.bool (!r_21)) rfl trivial rfl<|s_mov (.bool (!r_21)) rfl<|?_
   rcases oi hb1 with ⟨c23,hb1⟩ | ⟨c23,hb1⟩
   ·refine s_lit (s:=31) (b:=true) rfl c23<|s_off rfl rfl<|s_off rfl rfl<|s_off rfl rfl<|s_off rfl rfl<|s_q (.bool true) rfl trivial rfl<|s_mov (.bool true) rfl<|s_off rfl rfl<|s_off rfl rfl<|s_off rfl rfl<|s_off rfl rfl<|s_q (.bool true) rfl trivial rfl<|s_mov (.bool true) rfl<|s_off rfl rfl<|s_off rfl rfl<|s_off rfl rfl<|s_off rfl rfl<|s_q (.bool true) rfl trivial rfl<|w_done<|?_;obtain rfl:=os hb1;exact ⟨[],[0],_,_,rfl,rfl,⟨.refl _,⟨.refl _,trivial⟩⟩,(.refl _)⟩
   ·refine s_lit (s:=31) (b:=false) rfl (bf c23)<|s_on rfl<|s_q (.ptr 0 0 5) rfl trivial rfl<|s_on rfl<|s_q (.lst 3 (o_1.Muts.map encGMut)) rfl nle rfl<|s_on rfl<|?_
    obtain ⟨r_24,er25,hb1⟩:=ob hb1
    refine s_do (o_call (w_spec_l07List _ _ er25) rfl (.refl _) rfl)<|s_on rfl<|s_q (.bool (!r_24)) rfl trivial rfl<|s_q (.bool (!r_24)) rfl trivial rfl<|s_mov (.bool (!r_24)) rfl<|?_;refine s_g (v:=(!r_24)) (.ptr 0 0 4) rfl (fun hv => by (try simp only [gs_on hv]);exact ⟨rfl,trivial,rfl⟩) ?_;refine s_g (v:=(!r_24)) (.lst 3 (o_1.Row.map encGSet)) rfl (fun hv => by (try simp only [gs_on hv]);exact ⟨rfl,nle,rfl⟩) ?_;refine s_g (v:=(!r_24)) (.int .i64 (o_1.Row.length:Int)) rfl (fun hv => by (try simp only [gs_on hv]);exact ⟨rfl,trivial,lenV _ _⟩) ?_;refine s_g (v:=(!r_24)) (.bool (decide ((o_1.Row.length:Int) > 6))) rfl (fun hv => by (try simp only [gs_on hv]);exact ⟨rfl,rfl,rfl⟩) ?_
    refine s_pick (x:=true) (y:=(decide ((o_1.Row.length:Int) > 6))) rfl (fun hv => by (try simp only [gs_on hv]);rfl) (fun hv => by (try simp only [gs_on hv]);rfl) ?_;refine s_mov (.bool (bif (!r_24) then true else (decide ((o_1.Row.length:Int) > 6)))) rfl ?_;refine s_g (v:=(bif (!r_24) then true else (decide ((o_1.Row.length:Int) > 6)))) (.ptr 0 0 6) rfl (fun hv => by (try simp only [gs_on hv]);exact ⟨rfl,trivial,rfl⟩) ?_;refine s_g (v:=(bif (!r_24) then true else (decide ((o_1.Row.length:Int) > 6)))) (.lst 1 (o_1.Columns.map AV.str)) rfl (fun hv => by (try simp only [gs_on hv]);exact ⟨rfl,nle,rfl⟩) ?_;refine s_g (v:=(bif (!r_24) then true else (decide ((o_1.Row.length:Int) > 6)))) (.int .i64 (o_1.Columns.length:Int)) rfl (fun hv => by (try simp only [gs_on hv]);exact ⟨rfl,trivial,lenV _ _⟩) ?_
    refine s_g (v:=(bif (!r_24) then true else (decide ((o_1.Row.length:Int) > 6)))) (.bool (decide ((o_1.Columns.length:Int) > 6))) rfl (fun hv => by (try simp only [gs_on hv]);exact ⟨rfl,rfl,rfl⟩) ?_;refine s_pick (x:=true) (y:=(decide ((o_1.Columns.length:Int) > 6))) rfl (fun hv => by (try simp only [gs_on hv]);rfl) (fun hv => by (try simp only [gs_on hv]);rfl) ?_;refine w_done ?_;obtain rfl:=os hb1;exact ⟨[],[0],_,_,rfl,rfl,⟨.refl _,⟨.refl _,trivial⟩⟩,(.refl _)⟩
 ·rcases oi hf with ⟨c28,hf⟩ | ⟨c28,hf⟩
  ·refine w_condt rfl c28<|sr<|s_mov (.bool false) rfl<|dk<|w_ret<|?_;obtain rfl:=os hf;exact r_flat ⟨trivial,trivial⟩ rfl (.refl _)
  ·refine w_condf rfl (bf c28)<|w_skip<|k_seq<|awp_seq<|sr<|s_mov (.int .i64 0) rfl<|dk<|?_
   obtain ⟨p53,hb1,hf⟩:=ob hf
   refine awp_cutx (X:={q:Unit // p53 = .go q}) (fun q => ([(1,(.ptr 0 0 0))],[.box 8 (.agg [(.int .i64 o_1.Kind),(.str o_1.Table),(.str o_1.Name),(.lst 3 (o_1.Where.map encGCond)),(.lst 3 (o_1.Row.map encGSet)),(.lst 3 (o_1.Muts.map encGMut)),(.lst 1 (o_1.Columns.map AV.str)),(.bool o_1.Until)])])) ?_ ?_
   ·refine awp_loop (X:={q:Nat // spec_OpOK_L1 (o_1.Row.drop q)  = some p53}) (fun q => ([(1,(.ptr 0 0 0)),(3,(.int .i64 (q.1:Int)))],[.box 8 (.agg [(.int .i64 o_1.Kind),(.str o_1.Table),(.str o_1.Name),(.lst 3 (o_1.Where.map encGCond)),(.lst 3 (o_1.Row.map encGSet)),(.lst 3 (o_1.Muts.map encGMut)),(.lst 1 (o_1.Columns.map AV.str)),(.bool o_1.Until)])])) (fun q => o_1.Row.length - q.1) ⟨0,hb1⟩ ⟨[],[0],_,_,rfl,rfl,⟨.refl _,⟨.refl _,trivial⟩⟩,(.refl _)⟩ ?_
    rintro ⟨i_44,hc1⟩
    have hc1:spec_OpOK_L1 (o_1.Row.drop i_44)  = some p53:=hc1
    refine (show awp Tryz.prog false 0 _ (ofL [(1,(.ptr 0 0 0)),(3,(.int .i64 (i_44:Int)))]) [.box 8 (.agg [(.int .i64 o_1.Kind),(.str o_1.Table),(.str o_1.Name),(.lst 3 (o_1.Where.map encGCond)),(.lst 3 (o_1.Row.map encGSet)),(.lst 3 (o_1.Muts.map encGMut)),(.lst 1 (o_1.Columns.map AV.str)),(.bool o_1.Until)])] _ from ?_)
    rcases dropc o_1.Row i_44 with ⟨hie56,hd59⟩ | ⟨hlt54,x_60,hx55,hd59⟩
    ·rw [hd59,spec_OpOK_L1.eq_1] at hc1
     have hq58:=dlf hie56
     refine awp_seq<|sr<|s_mov (.int .i64 (i_44:Int)) rfl<|s_q (.ptr 0 0 4) rfl trivial rfl<|s_q (.lst 3 (o_1.Row.map encGSet)) rfl nle rfl<|s_dof (o_len (enc:=encGSet) rfl) fun hl61 => s_q (.bool (decide ((i_44:Int) < (o_1.Row.length:Int)))) rfl rfl rfl<|dk<|w_condf rfl hq58<|w_exit<|k_seqx<|k_loopx<|k_blkx<|?_;obtain rfl:=os hc1;exact k_cutn ⟨_,rfl⟩ ⟨[],[0],_,_,rfl,rfl,⟨.refl _,trivial⟩,(.refl _)⟩
    ·rw [hd59,spec_OpOK_L1.eq_2] at hc1
     have hq58:=dlt hlt54
     refine awp_seq<|sr<|s_mov (.int .i64 (i_44:Int)) rfl<|s_q (.ptr 0 0 4) rfl trivial rfl<|s_q (.lst 3 (o_1.Row.map encGSet)) rfl nle rfl<|s_dof (o_len (enc:=encGSet) rfl) fun hl62 => s_q (.bool (decide ((i_44:Int) < (o_1.Row.length:Int)))) rfl rfl rfl<|dk<|w_condt rfl hq58<|w_skip<|k_seq<|awp_seq<|w_blk<|sr<|?_
     obtain ⟨r_63,er64,hc1⟩:=ob hc1
     refine s_q (.ptr 0 0 4) rfl trivial rfl<|s_q (.lst 3 (o_1.Row.map encGSet)) rfl nle rfl<|s_mov (.int .i64 (i_44:Int)) rfl<|s_do (o_iaddrn (enc:=encGSet) rfl rfl hx55)<|s_q (encGSet x_60) rfl nle rfl<|s_do (o_call (w_spec_l08Set _ _ er64) rfl (.refl _) rfl)<|s_q (.bool (!r_63)) rfl trivial rfl<|dk<|?_
     rcases oi hc1 with ⟨c65,hc1⟩ | ⟨c65,hc1⟩
     ·refine w_condt rfl c65<|sr<|s_mov (.bool false) rfl<|dk<|w_ret<|?_;obtain rfl:=os hc1;obtain rfl:=os hf;exact r_flat ⟨trivial,trivial⟩ rfl (.refl _)
     ·refine w_condf rfl (bf c65)<|w_skip<|k_blk<|k_seq<|w_reg<|s_mov (.int .i64 (i_44:Int)) rfl<|s_q (.int .i64 (w64 ((i_44:Int) + 1))) rfl rfl rfl<|s_mov (.int .i64 (w64 ((i_44:Int) + 1))) rfl<|w_done<|?_;exact k_loopn ⟨(i_44 + 1),hc1⟩ (mul hlt54) ⟨[],[0],_,_,rfl,rfl,⟨.refl _,⟨.of_eq (congrArg (AV.int _) (w64_incr hlt54 hl62)),trivial⟩⟩,(.refl _)⟩
   ·rintro ⟨_,rfl⟩
    refine awp_seq<|sr<|s_mov (.int .i64 0) rfl<|dk<|?_
    obtain ⟨p87,hb1,hf⟩:=ob hf
    refine awp_cutx (X:={q:Unit // p87 = .go q}) (fun q => ([(1,(.ptr 0 0 0))],[.box 8 (.agg [(.int .i64 o_1.Kind),(.str o_1.Table),(.str o_1.Name),(.lst 3 (o_1.Where.map encGCond)),(.lst 3 (o_1.Row.map encGSet)),(.lst 3 (o_1.Muts.map encGMut)),(.lst 1 (o_1.Columns.map AV.str)),(.bool o_1.Until)])])) ?_ ?_
    ·refine awp_loop (X:={q:Nat // spec_OpOK_L2 (o_1.Columns.drop q)  = some p87}) (fun q => ([(1,(.ptr 0 0 0)),(4,(.int .i64 (q.1:Int)))],[.box 8 (.agg [(.int .i64 o_1.Kind),(.str o_1.Table),(.str o_1.Name),(.lst 3 (o_1.Where.map encGCond)),(.lst 3 (o_1.Row.map encGSet)),(.lst 3 (o_1.Muts.map encGMut)),(.lst 1 (o_1.Columns.map AV.str)),(.bool o_1.Until)])])) (fun q => o_1.Columns.length - q.1) ⟨0,hb1⟩ ⟨[],[0],_,_,rfl,rfl,⟨.refl _,⟨.refl _,trivial⟩⟩,(.refl _)⟩ ?_
     rintro ⟨i_79,hc1⟩
     have hc1:spec_OpOK_L2 (o_1.Columns.drop i_79)  = some p87:=hc1
     refine (show awp Tryz.prog false 0 _ (ofL [(1,(.ptr 0 0 0)),(4,(.int .i64 (i_79:Int)))]) [.box 8 (.agg [(.int .i64 o_1.Kind),(.str o_1.Table),(.str o_1.Name),(.lst 3 (o_1.Where.map encGCond)),(.lst 3 (o_1.Row.map encGSet)),(.lst 3 (o_1.Muts.map encGMut)),(.lst 1 (o_1.Columns.map AV.str)),(.bool o_1.Until)])] _ from ?_)
     rcases dropc o_1.Columns i_79 with ⟨hie90,hd93⟩ | ⟨hlt88,x_94,hx89,hd93⟩
     ·rw [hd93,spec_OpOK_L2.eq_1] at hc1
      have hq92:=dlf hie90
      refine awp_seq<|sr<|s_mov (.int .i64 (i_79:Int)) rfl<|s_q (.ptr 0 0 6) rfl trivial rfl<|s_q (.lst 1 (o_1.Columns.map AV.str)) rfl nle rfl<|s_dof (o_len (enc:=AV.str) rfl) fun hl95 => s_q (.bool (decide ((i_79:Int) < (o_1.Columns.length:Int)))) rfl rfl rfl<|dk<|w_condf rfl hq92<|w_exit<|k_seqx<|k_loopx<|k_blkx<|?_;obtain rfl:=os hc1;exact k_cutn ⟨_,rfl⟩ ⟨[],[0],_,_,rfl,rfl,⟨.refl _,trivial⟩,(.refl _)⟩
     ·rw [hd93,spec_OpOK_L2.eq_2] at hc1
      have hq92:=dlt hlt88
      refine awp_seq<|sr<|s_mov (.int .i64 (i_79:Int)) rfl<|s_q (.ptr 0 0 6) rfl trivial rfl<|s_q (.lst 1 (o_1.Columns.map AV.str)) rfl nle rfl<|s_dof (o_len (enc:=AV.str) rfl) fun hl96 => s_q (.bool (decide ((i_79:Int) < (o_1.Columns.length:Int)))) rfl rfl rfl<|dk<|w_condt rfl hq92<|w_skip<|k_seq<|awp_seq<|w_blk<|sr<|s_q (.ptr 0 0 6) rfl trivial rfl<|s_q (.lst 1 (o_1.Columns.map AV.str)) rfl nle rfl<|s_mov (.int .i64 (i_79:Int)) rfl<|s_do (o_iaddrn (enc:=AV.str) rfl rfl hx89)<|s_q (.str x_94) rfl ⟨rfl,rfl⟩ rfl<|s_dof (o_lenS rfl) fun hl97 => s_q (.bool (decide ((x_94.length:Int) > 40))) rfl rfl rfl<|w_done<|?_
      refine k_seq ?_
      rcases oi hc1 with ⟨c98,hc1⟩ | ⟨c98,hc1⟩
      ·refine w_condt rfl c98<|sr<|s_mov (.bool false) rfl<|dk<|w_ret<|?_;obtain rfl:=os hc1;obtain rfl:=os hf;exact r_flat ⟨trivial,trivial⟩ rfl (.refl _)
      ·refine w_condf rfl (bf c98)<|w_skip<|k_blk<|k_seq<|w_reg<|s_mov (.int .i64 (i_79:Int)) rfl<|s_q (.int .i64 (w64 ((i_79:Int) + 1))) rfl rfl rfl<|s_mov (.int .i64 (w64 ((i_79:Int) + 1))) rfl<|w_done<|?_;exact k_loopn ⟨(i_79 + 1),hc1⟩ (mul hlt88) ⟨[],[0],_,_,rfl,rfl,⟨.refl _,⟨.of_eq (congrArg (AV.int _) (w64_incr hlt88 hl96)),trivial⟩⟩,(.refl _)⟩
    ·rintro ⟨_,rfl⟩
     refine sr<|?_
     obtain ⟨r_99,er100,hf⟩:=ob hf
     refine s_q (.ptr 0 0 0) rfl trivial rfl<|s_q (.int .i64 o_1.Kind) rfl nle rfl<|s_do (o_call (w_spec_l01In _ _ _ _ er100) rfl (.refl _) rfl)<|s_mov (.bool r_99) rfl<|dk<|sr<|?_
     obtain ⟨r_101,er102,hf⟩:=ob hf
     refine s_q (.ptr 0 0 0) rfl trivial rfl<|s_q (.int .i64 o_1.Kind) rfl nle rfl<|s_do (o_call (w_spec_l01In _ _ _ _ er102) rfl (.refl _) rfl)<|s_mov (.bool r_101) rfl<|dk<|awp_seq<|?_
     obtain ⟨name_104,hb1,hf⟩:=ob hf
     refine awp_cut ([(1,(.ptr 0 0 0)),(5,(.bool r_99)),(6,(.bool r_101)),(7,(.bool name_104))],[.box 8 (.agg [(.int .i64 o_1.Kind),(.str o_1.Table),(.str o_1.Name),(.lst 3 (o_1.Where.map encGCond)),(.lst 3 (o_1.Row.map encGSet)),(.lst 3 (o_1.Muts.map encGMut)),(.lst 1 (o_1.Columns.map AV.str)),(.bool o_1.Until)])]) ?_ ?_
     ·refine w_reg ?_
      rcases oi hb1 with ⟨c106,hb1⟩ | ⟨c106,hb1⟩
      ·refine s_q (.ptr 0 0 0) rfl trivial rfl<|s_q (.int .i64 o_1.Kind) rfl nle rfl<|s_q (.bool (o_1.Kind == 1)) rfl rfl rfl<|s_mov (.bool (o_1.Kind == 1)) rfl<|s_lit (s:=86) (b:=true) rfl c106<|s_off rfl rfl<|s_off rfl rfl<|s_off rfl rfl<|s_q (.bool true) rfl trivial rfl<|s_mov (.bool true) rfl<|w_done<|?_;obtain rfl:=os hb1;exact ⟨[],[0],_,_,rfl,rfl,⟨.refl _,⟨.refl _,⟨.refl _,⟨.refl _,trivial⟩⟩⟩⟩,(.refl _)⟩
      ·refine s_q (.ptr 0 0 0) rfl trivial rfl<|s_q (.int .i64 o_1.Kind) rfl nle rfl<|s_q (.bool (o_1.Kind == 1)) rfl rfl rfl<|s_mov (.bool (o_1.Kind == 1)) rfl<|s_lit (s:=86) (b:=false) rfl (bf c106)<|s_on rfl<|s_q (.ptr 0 0 0) rfl trivial rfl<|s_on rfl<|s_q (.int .i64 o_1.Kind) rfl nle rfl<|s_on rfl<|s_q (.bool (decide (o_1.Kind ≥ 9))) rfl rfl rfl<|s_q (.bool (decide (o_1.Kind ≥ 9))) rfl trivial rfl<|s_mov (.bool (decide (o_1.Kind ≥ 9))) rfl<|w_done<|?_;obtain rfl:=os hb1;exact ⟨[],[0],_,_,rfl,rfl,⟨.refl _,⟨.refl _,⟨.refl _,⟨.refl _,trivial⟩⟩⟩⟩,(.refl _)⟩
     ·refine awp_seq ?_
      obtain ⟨p107,hb1,hf⟩:=ob hf
      refine awp_cut ([(1,(.ptr 0 0 0)),(5,(.bool r_99)),(6,(.bool r_101)),(7,(.bool name_104)),(8,(.bool (bif (bif (o_1.Kind == 1) then true else (o_1.Kind == 3)) then true else (o_1.Kind == 6))))],[.box 8 (.agg [(.int .i64 o_1.Kind),(.str o_1.Table),(.str o_1.Name),(.lst 3 (o_1.Where.map encGCond)),(.lst 3 (o_1.Row.map encGSet)),(.lst 3 (o_1.Muts.map encGMut)),(.lst 1 (o_1.Columns.map AV.str)),(.bool o_1.Until)])]) ?_ ?_
      ·refine w_reg<|s_q (.ptr 0 0 0) rfl trivial rfl<|s_q (.int .i64 o_1.Kind) rfl nle rfl<|s_q (.bool (o_1.Kind == 1)) rfl rfl rfl<|s_mov (.bool (o_1.Kind == 1)) rfl<|?_;refine s_g (v:=(o_1.Kind == 1)) (.ptr 0 0 0) rfl (fun hv => by (try simp only [gs_on hv]);exact ⟨rfl,trivial,rfl⟩) ?_;refine s_g (v:=(o_1.Kind == 1)) (.int .i64 o_1.Kind) rfl (fun hv => by (try simp only [gs_on hv]);exact ⟨rfl,nle,rfl⟩) ?_;refine s_g (v:=(o_1.Kind == 1)) (.bool (o_1.Kind == 3)) rfl (fun hv => by (try simp only [gs_on hv]);exact ⟨rfl,rfl,rfl⟩) ?_;refine s_pick (x:=true) (y:=(o_1.Kind == 3)) rfl (fun hv => by (try simp only [gs_on hv]);rfl) (fun hv => by (try simp only [gs_on hv]);rfl) ?_;refine s_mov (.bool (bif (o_1.Kind == 1) then true else (o_1.Kind == 3))) rfl ?_
       refine s_g (v:=(bif (o_1.Kind == 1) then true else (o_1.Kind == 3))) (.ptr 0 0 0) rfl (fun hv => by (try simp only [gs_on hv]);exact ⟨rfl,trivial,rfl⟩) ?_;refine s_g (v:=(bif (o_1.Kind == 1) then true else (o_1.Kind == 3))) (.int .i64 o_1.Kind) rfl (fun hv => by (try simp only [gs_on hv]);exact ⟨rfl,nle,rfl⟩) ?_;refine s_g (v:=(bif (o_1.Kind == 1) then true else (o_1.Kind == 3))) (.bool (o_1.Kind == 6)) rfl (fun hv => by (try simp only [gs_on hv]);exact ⟨rfl,rfl,rfl⟩) ?_;refine s_pick (x:=true) (y:=(o_1.Kind == 6)) rfl (fun hv => by (try simp only [gs_on hv]);rfl) (fun hv => by (try simp only [gs_on hv]);rfl) ?_;refine s_mov (.bool (bif (bif (o_1.Kind == 1) then true else (o_1.Kind == 3)) then true else (o_1.Kind == 6))) rfl ?_
       refine w_done ?_;obtain rfl:=os hb1;exact ⟨[],[0],_,_,rfl,rfl,⟨.refl _,⟨.refl _,⟨.refl _,⟨.refl _,⟨.refl _,trivial⟩⟩⟩⟩⟩,(.refl _)⟩
      ·refine sr<|s_mov (.bool r_99) rfl<|s_mov (.bool r_99) rfl<|?_;refine s_g (v:=r_99) (.ptr 0 0 1) rfl (fun hv => by (try simp only [gs_on hv]);exact ⟨rfl,trivial,rfl⟩) ?_;refine s_g (v:=r_99) (.str o_1.Table) rfl (fun hv => by (try simp only [gs_on hv]);exact ⟨rfl,nle,rfl⟩) ?_;refine s_g (v:=r_99) (.bool (o_1.Table == [])) rfl (fun hv => by (try simp only [gs_on hv]);exact ⟨rfl,trivial,rfl⟩) ?_;refine s_pick (x:=true) (y:=(o_1.Table == [])) rfl (fun hv => by (try simp only [gs_on hv]);rfl) (fun hv => by (try simp only [gs_on hv]);rfl) ?_;refine s_mov (.bool (bif r_99 then true else (o_1.Table == []))) rfl ?_;refine s_g (v:=(bif r_99 then true else (o_1.Table == []))) (.bool r_101) rfl (fun hv => by (try simp only [gs_on hv]);exact ⟨rfl,trivial,rfl⟩) ?_
       refine s_g (v:=(bif r_99 then true else (o_1.Table == []))) (.bool r_101) rfl (fun hv => by (try simp only [gs_on hv]);exact ⟨rfl,trivial,rfl⟩) ?_;refine s_gg (v1:=(bif r_99 then true else (o_1.Table == []))) (b1:=true) (v2:=r_101) (.ptr 0 0 3) rfl (fun hv hw => by (try simp only [gs_on hv,gs_on hw]);exact ⟨rfl,trivial,rfl⟩) ?_;refine s_gg (v1:=(bif r_99 then true else (o_1.Table == []))) (b1:=true) (v2:=r_101) (.lst 3 (o_1.Where.map encGCond)) rfl (fun hv hw => by (try simp only [gs_on hv,gs_on hw]);exact ⟨rfl,nle,rfl⟩) ?_;refine s_gg (v1:=(bif r_99 then true else (o_1.Table == []))) (b1:=true) (v2:=r_101) (.int .i64 (o_1.Where.length:Int)) rfl (fun hv hw => by (try simp only [gs_on hv,gs_on hw]);exact ⟨rfl,trivial,lenV _ _⟩) ?_
       refine s_gg (v1:=(bif r_99 then true else (o_1.Table == []))) (b1:=true) (v2:=r_101) (.bool ((o_1.Where.length:Int) == 0)) rfl (fun hv hw => by (try simp only [gs_on hv,gs_on hw]);exact ⟨rfl,rfl,rfl⟩) ?_;refine s_gp (v1:=(bif r_99 then true else (o_1.Table == []))) (b1:=true) (v2:=r_101) (x:=true) (y:=((o_1.Where.length:Int) == 0)) rfl (fun hv => by (try simp only [gs_on hv]);rfl) (fun hv hw => by (try simp only [gs_on hv,gs_on hw]);rfl) (fun hv hw => by (try simp only [gs_on hv,gs_on hw]);rfl) ?_;refine s_pick (x:=(bif r_101 then true else ((o_1.Where.length:Int) == 0))) (y:=false) rfl (fun hv => by (try simp only [gs_on hv]);rfl) (fun hv => by (try simp only [gs_on hv]);rfl) ?_
       refine s_mov (.bool (bif (bif r_99 then true else (o_1.Table == [])) then (bif r_101 then true else ((o_1.Where.length:Int) == 0)) else false)) rfl ?_;refine s_g (v:=(bif (bif r_99 then true else (o_1.Table == [])) then (bif r_101 then true else ((o_1.Where.length:Int) == 0)) else false)) (.bool name_104) rfl (fun hv => by (try simp only [gs_on hv]);exact ⟨rfl,trivial,rfl⟩) ?_;refine s_g (v:=(bif (bif r_99 then true else (o_1.Table == [])) then (bif r_101 then true else ((o_1.Where.length:Int) == 0)) else false)) (.bool name_104) rfl (fun hv => by (try simp only [gs_on hv]);exact ⟨rfl,trivial,rfl⟩) ?_;refine s_gg (v1:=(bif (bif r_99 then true else (o_1.Table == [])) then (bif r_101 then true else ((o_1.Where.length:Int) == 0)) else false)) (b1:=true) (v2:=name_104) (.ptr 0 0 2) rfl (fun hv hw => by (try simp only [gs_on hv,gs_on hw]);exact ⟨rfl,trivial,rfl⟩) ?_
       refine s_gg (v1:=(bif (bif r_99 then true else (o_1.Table == [])) then (bif r_101 then true else ((o_1.Where.length:Int) == 0)) else false)) (b1:=true) (v2:=name_104) (.str o_1.Name) rfl (fun hv hw => by (try simp only [gs_on hv,gs_on hw]);exact ⟨rfl,nle,rfl⟩) ?_;refine s_gg (v1:=(bif (bif r_99 then true else (o_1.Table == [])) then (bif r_101 then true else ((o_1.Where.length:Int) == 0)) else false)) (b1:=true) (v2:=name_104) (.bool (o_1.Name == [])) rfl (fun hv hw => by (try simp only [gs_on hv,gs_on hw]);exact ⟨rfl,trivial,rfl⟩) ?_;refine s_gp (v1:=(bif (bif r_99 then true else (o_1.Table == [])) then (bif r_101 then true else ((o_1.Where.length:Int) == 0)) else false)) (b1:=true) (v2:=name_104) (x:=true) (y:=(o_1.Name == [])) rfl (fun hv => by (try simp only [gs_on hv]);rfl) (fun hv hw => by (try simp only [gs_on hv,gs_on hw]);rfl) (fun hv hw => by (try simp only [gs_on hv,gs_on hw]);rfl) ?_
       refine s_pick (x:=(bif name_104 then true else (o_1.Name == []))) (y:=false) rfl (fun hv => by (try simp only [gs_on hv]);rfl) (fun hv => by (try simp only [gs_on hv]);rfl) ?_;refine s_mov (.bool (bif (bif (bif r_99 then true else (o_1.Table == [])) then (bif r_101 then true else ((o_1.Where.length:Int) == 0)) else false) then (bif name_104 then true else (o_1.Name == [])) else false)) rfl ?_;refine s_g (v:=(bif (bif (bif r_99 then true else (o_1.Table == [])) then (bif r_101 then true else ((o_1.Where.length:Int) == 0)) else false) then (bif name_104 then true else (o_1.Name == [])) else false)) (.bool (bif (bif (o_1.Kind == 1) then true else (o_1.Kind == 3)) then true else (o_1.Kind == 6))) rfl (fun hv => by (try simp only [gs_on hv]);exact ⟨rfl,trivial,rfl⟩) ?_
       refine s_g (v:=(bif (bif (bif r_99 then true else (o_1.Table == [])) then (bif r_101 then true else ((o_1.Where.length:Int) == 0)) else false) then (bif name_104 then true else (o_1.Name == [])) else false)) (.bool (bif (bif (o_1.Kind == 1) then true else (o_1.Kind == 3)) then true else (o_1.Kind == 6))) rfl (fun hv => by (try simp only [gs_on hv]);exact ⟨rfl,trivial,rfl⟩) ?_;refine s_gg (v1:=(bif (bif (bif r_99 then true else (o_1.Table == [])) then (bif r_101 then true else ((o_1.Where.length:Int) == 0)) else false) then (bif name_104 then true else (o_1.Name == [])) else false)) (b1:=true) (v2:=(bif (bif (o_1.Kind == 1) then true else (o_1.Kind == 3)) then true else (o_1.Kind == 6))) (.ptr 0 0 4) rfl (fun hv hw => by (try simp only [gs_on hv,gs_on hw]);exact ⟨rfl,trivial,rfl⟩) ?_
       refine s_gg (v1:=(bif (bif (bif r_99 then true else (o_1.Table == [])) then (bif r_101 then true else ((o_1.Where.length:Int) == 0)) else false) then (bif name_104 then true else (o_1.Name == [])) else false)) (b1:=true) (v2:=(bif (bif (o_1.Kind == 1) then true else (o_1.Kind == 3)) then true else (o_1.Kind == 6))) (.lst 3 (o_1.Row.map encGSet)) rfl (fun hv hw => by (try simp only [gs_on hv,gs_on hw]);exact ⟨rfl,nle,rfl⟩) ?_;refine s_gg (v1:=(bif (bif (bif r_99 then true else (o_1.Table == [])) then (bif r_101 then true else ((o_1.Where.length:Int) == 0)) else false) then (bif name_104 then true else (o_1.Name == [])) else false)) (b1:=true) (v2:=(bif (bif (o_1.Kind == 1) then true else (o_1.Kind == 3)) then true else (o_1.Kind == 6))) (.int .i64 (o_1.Row.length:Int)) rfl (fun hv hw => by (try simp only [gs_on hv,gs_on hw]);exact ⟨rfl,trivial,lenV _ _⟩) ?_
       refine s_gg (v1:=(bif (bif (bif r_99 then true else (o_1.Table == [])) then (bif r_101 then true else ((o_1.Where.length:Int) == 0)) else false) then (bif name_104 then true else (o_1.Name == [])) else false)) (b1:=true) (v2:=(bif (bif (o_1.Kind == 1) then true else (o_1.Kind == 3)) then true else (o_1.Kind == 6))) (.bool ((o_1.Row.length:Int) == 0)) rfl (fun hv hw => by (try simp only [gs_on hv,gs_on hw]);exact ⟨rfl,rfl,rfl⟩) ?_;refine s_gp (v1:=(bif (bif (bif r_99 then true else (o_1.Table == [])) then (bif r_101 then true else ((o_1.Where.length:Int) == 0)) else false) then (bif name_104 then true else (o_1.Name == [])) else false)) (b1:=true) (v2:=(bif (bif (o_1.Kind == 1) then true else (o_1.Kind == 3)) then true else (o_1.Kind == 6))) (x:=true) (y:=((o_1.Row.length:Int) == 0)) rfl (fun hv => by (try simp only [gs_on hv]);rfl) (fun hv hw => by (try simp only [gs_on hv,gs_on hw]);rfl) (fun hv hw => by (try simp only [gs_on hv,gs_on hw]);rfl) ?_
       refine s_pick (x:=(bif (bif (bif (o_1.Kind == 1) then true else (o_1.Kind == 3)) then true else (o_1.Kind == 6)) then true else ((o_1.Row.length:Int) == 0))) (y:=false) rfl (fun hv => by (try simp only [gs_on hv]);rfl) (fun hv => by (try simp only [gs_on hv]);rfl) ?_;refine s_mov (.bool (bif (bif (bif (bif r_99 then true else (o_1.Table == [])) then (bif r_101 then true else ((o_1.Where.length:Int) == 0)) else false) then (bif name_104 then true else (o_1.Name == [])) else false) then (bif (bif (bif (o_1.Kind == 1) then true else (o_1.Kind == 3)) then true else (o_1.Kind == 6)) then true else ((o_1.Row.length:Int) == 0)) else false)) rfl ?_;refine s_g (v:=(bif (bif (bif (bif r_99 then true else (o_1.Table == [])) then (bif r_101 then true else ((o_1.Where.length:Int) == 0)) else false) then (bif name_104 then true else (o_1.Name == [])) else false) then (bif (bif (bif (o_1.Kind == 1) then true else (o_1.Kind == 3)) then true else (o_1.Kind == 6)) then true else ((o_1.Row.length:Int) == 0)) else false)) (.ptr 0 0 0) rfl (fun hv => by (try simp only [gs_on hv]);exact ⟨rfl,trivial,rfl⟩) ?_
       refine s_g (v:=(bif (bif (bif (bif r_99 then true else (o_1.Table == [])) then (bif r_101 then true else ((o_1.Where.length:Int) == 0)) else false) then (bif name_104 then true else (o_1.Name == [])) else false) then (bif (bif (bif (o_1.Kind == 1) then true else (o_1.Kind == 3)) then true else (o_1.Kind == 6)) then true else ((o_1.Row.length:Int) == 0)) else false)) (.int .i64 o_1.Kind) rfl (fun hv => by (try simp only [gs_on hv]);exact ⟨rfl,nle,rfl⟩) ?_;refine s_g (v:=(bif (bif (bif (bif r_99 then true else (o_1.Table == [])) then (bif r_101 then true else ((o_1.Where.length:Int) == 0)) else false) then (bif name_104 then true else (o_1.Name == [])) else false) then (bif (bif (bif (o_1.Kind == 1) then true else (o_1.Kind == 3)) then true else (o_1.Kind == 6)) then true else ((o_1.Row.length:Int) == 0)) else false)) (.bool (o_1.Kind == 4)) rfl (fun hv => by (try simp only [gs_on hv]);exact ⟨rfl,rfl,rfl⟩) ?_
       refine s_g (v:=(bif (bif (bif (bif r_99 then true else (o_1.Table == [])) then (bif r_101 then true else ((o_1.Where.length:Int) == 0)) else false) then (bif name_104 then true else (o_1.Name == [])) else false) then (bif (bif (bif (o_1.Kind == 1) then true else (o_1.Kind == 3)) then true else (o_1.Kind == 6)) then true else ((o_1.Row.length:Int) == 0)) else false)) (.bool (o_1.Kind == 4)) rfl (fun hv => by (try simp only [gs_on hv]);exact ⟨rfl,trivial,rfl⟩) ?_;refine s_gg (v1:=(bif (bif (bif (bif r_99 then true else (o_1.Table == [])) then (bif r_101 then true else ((o_1.Where.length:Int) == 0)) else false) then (bif name_104 then true else (o_1.Name == [])) else false) then (bif (bif (bif (o_1.Kind == 1) then true else (o_1.Kind == 3)) then true else (o_1.Kind == 6)) then true else ((o_1.Row.length:Int) == 0)) else false)) (b1:=true) (v2:=(o_1.Kind == 4)) (.ptr 0 0 5) rfl (fun hv hw => by (try simp only [gs_on hv,gs_on hw]);exact ⟨rfl,trivial,rfl⟩) ?_
       refine s_gg (v1:=(bif (bif (bif (bif r_99 then true else (o_1.Table == [])) then (bif r_101 then true else ((o_1.Where.length:Int) == 0)) else false) then (bif name_104 then true else (o_1.Name == [])) else false) then (bif (bif (bif (o_1.Kind == 1) then true else (o_1.Kind == 3)) then true else (o_1.Kind == 6)) then true else ((o_1.Row.length:Int) == 0)) else false)) (b1:=true) (v2:=(o_1.Kind == 4)) (.lst 3 (o_1.Muts.map encGMut)) rfl (fun hv hw => by (try simp only [gs_on hv,gs_on hw]);exact ⟨rfl,nle,rfl⟩) ?_;refine s_gg (v1:=(bif (bif (bif (bif r_99 then true else (o_1.Table == [])) then (bif r_101 then true else ((o_1.Where.length:Int) == 0)) else false) then (bif name_104 then true else (o_1.Name == [])) else false) then (bif (bif (bif (o_1.Kind == 1) then true else (o_1.Kind == 3)) then true else (o_1.Kind == 6)) then true else ((o_1.Row.length:Int) == 0)) else false)) (b1:=true) (v2:=(o_1.Kind == 4)) (.int .i64 (o_1.Muts.length:Int)) rfl (fun hv hw => by (try simp only [gs_on hv,gs_on hw]);exact ⟨rfl,trivial,lenV _ _⟩) ?_
       refine s_gg (v1:=(bif (bif (bif (bif r_99 then true else (o_1.Table == [])) then (bif r_101 then true else ((o_1.Where.length:Int) == 0)) else false) then (bif name_104 then true else (o_1.Name == [])) else false) then (bif (bif (bif (o_1.Kind == 1) then true else (o_1.Kind == 3)) then true else (o_1.Kind == 6)) then true else ((o_1.Row.length:Int) == 0)) else false)) (b1:=true) (v2:=(o_1.Kind == 4)) (.bool ((o_1.Muts.length:Int) == 0)) rfl (fun hv hw => by (try simp only [gs_on hv,gs_on hw]);exact ⟨rfl,rfl,rfl⟩) ?_;refine s_gp (v1:=(bif (bif (bif (bif r_99 then true else (o_1.Table == [])) then (bif r_101 then true else ((o_1.Where.length:Int) == 0)) else false) then (bif name_104 then true else (o_1.Name == [])) else false) then (bif (bif (bif (o_1.Kind == 1) then true else (o_1.Kind == 3)) then true else (o_1.Kind == 6)) then true else ((o_1.Row.length:Int) == 0)) else false)) (b1:=true) (v2:=(o_1.Kind == 4)) (x:=true) (y:=((o_1.Muts.length:Int) == 0)) rfl (fun hv => by (try simp only [gs_on hv]);rfl) (fun hv hw => by (try simp only [gs_on hv,gs_on hw]);rfl) (fun hv hw => by (try simp only [gs_on hv,gs_on hw]);rfl) ?_
       refine s_pick (x:=(bif (o_1.Kind == 4) then true else ((o_1.Muts.length:Int) == 0))) (y:=false) rfl (fun hv => by (try simp only [gs_on hv]);rfl) (fun hv => by (try simp only [gs_on hv]);rfl) ?_;refine s_mov (.bool (bif (bif (bif (bif (bif r_99 then true else (o_1.Table == [])) then (bif r_101 then true else ((o_1.Where.length:Int) == 0)) else false) then (bif name_104 then true else (o_1.Name == [])) else false) then (bif (bif (bif (o_1.Kind == 1) then true else (o_1.Kind == 3)) then true else (o_1.Kind == 6)) then true else ((o_1.Row.length:Int) == 0)) else false) then (bif (o_1.Kind == 4) then true else ((o_1.Muts.length:Int) == 0)) else false)) rfl ?_;refine s_g (v:=(bif (bif (bif (bif (bif r_99 then true else (o_1.Table == [])) then (bif r_101 then true else ((o_1.Where.length:Int) == 0)) else false) then (bif name_104 then true else (o_1.Name == [])) else false) then (bif (bif (bif (o_1.Kind == 1) then true else (o_1.Kind == 3)) then true else (o_1.Kind == 6)) then true else ((o_1.Row.length:Int) == 0)) else false) then (bif (o_1.Kind == 4) then true else ((o_1.Muts.length:Int) == 0)) else false)) (.ptr 0 0 0) rfl (fun hv => by (try simp only [gs_on hv]);exact ⟨rfl,trivial,rfl⟩) ?_
       refine s_g (v:=(bif (bif (bif (bif (bif r_99 then true else (o_1.Table == [])) then (bif r_101 then true else ((o_1.Where.length:Int) == 0)) else false) then (bif name_104 then true else (o_1.Name == [])) else false) then (bif (bif (bif (o_1.Kind == 1) then true else (o_1.Kind == 3)) then true else (o_1.Kind == 6)) then true else ((o_1.Row.length:Int) == 0)) else false) then (bif (o_1.Kind == 4) then true else ((o_1.Muts.length:Int) == 0)) else false)) (.int .i64 o_1.Kind) rfl (fun hv => by (try simp only [gs_on hv]);exact ⟨rfl,nle,rfl⟩) ?_;refine s_g (v:=(bif (bif (bif (bif (bif r_99 then true else (o_1.Table == [])) then (bif r_101 then true else ((o_1.Where.length:Int) == 0)) else false) then (bif name_104 then true else (o_1.Name == [])) else false) then (bif (bif (bif (o_1.Kind == 1) then true else (o_1.Kind == 3)) then true else (o_1.Kind == 6)) then true else ((o_1.Row.length:Int) == 0)) else false) then (bif (o_1.Kind == 4) then true else ((o_1.Muts.length:Int) == 0)) else false)) (.bool (o_1.Kind == 2)) rfl (fun hv => by (try simp only [gs_on hv]);exact ⟨rfl,rfl,rfl⟩) ?_
       refine s_g (v:=(bif (bif (bif (bif (bif r_99 then true else (o_1.Table == [])) then (bif r_101 then true else ((o_1.Where.length:Int) == 0)) else false) then (bif name_104 then true else (o_1.Name == [])) else false) then (bif (bif (bif (o_1.Kind == 1) then true else (o_1.Kind == 3)) then true else (o_1.Kind == 6)) then true else ((o_1.Row.length:Int) == 0)) else false) then (bif (o_1.Kind == 4) then true else ((o_1.Muts.length:Int) == 0)) else false)) (.bool (o_1.Kind == 2)) rfl (fun hv => by (try simp only [gs_on hv]);exact ⟨rfl,trivial,rfl⟩) ?_;refine s_gg (v1:=(bif (bif (bif (bif (bif r_99 then true else (o_1.Table == [])) then (bif r_101 then true else ((o_1.Where.length:Int) == 0)) else false) then (bif name_104 then true else (o_1.Name == [])) else false) then (bif (bif (bif (o_1.Kind == 1) then true else (o_1.Kind == 3)) then true else (o_1.Kind == 6)) then true else ((o_1.Row.length:Int) == 0)) else false) then (bif (o_1.Kind == 4) then true else ((o_1.Muts.length:Int) == 0)) else false)) (b1:=true) (v2:=(o_1.Kind == 2)) (.ptr 0 0 6) rfl (fun hv hw => by (try simp only [gs_on hv,gs_on hw]);exact ⟨rfl,trivial,rfl⟩) ?_
       refine s_gg (v1:=(bif (bif (bif (bif (bif r_99 then true else (o_1.Table == [])) then (bif r_101 then true else ((o_1.Where.length:Int) == 0)) else false) then (bif name_104 then true else (o_1.Name == [])) else false) then (bif (bif (bif (o_1.Kind == 1) then true else (o_1.Kind == 3)) then true else (o_1.Kind == 6)) then true else ((o_1.Row.length:Int) == 0)) else false) then (bif (o_1.Kind == 4) then true else ((o_1.Muts.length:Int) == 0)) else false)) (b1:=true) (v2:=(o_1.Kind == 2)) (.lst 1 (o_1.Columns.map AV.str)) rfl (fun hv hw => by (try simp only [gs_on hv,gs_on hw]);exact ⟨rfl,nle,rfl⟩) ?_;refine s_gg (v1:=(bif (bif (bif (bif (bif r_99 then true else (o_1.Table == [])) then (bif r_101 then true else ((o_1.Where.length:Int) == 0)) else false) then (bif name_104 then true else (o_1.Name == [])) else false) then (bif (bif (bif (o_1.Kind == 1) then true else (o_1.Kind == 3)) then true else (o_1.Kind == 6)) then true else ((o_1.Row.length:Int) == 0)) else false) then (bif (o_1.Kind == 4) then true else ((o_1.Muts.length:Int) == 0)) else false)) (b1:=true) (v2:=(o_1.Kind == 2)) (.int .i64 (o_1.Columns.length:Int)) rfl (fun hv hw => by (try simp only [gs_on hv,gs_on hw]);exact ⟨rfl,trivial,lenV _ _⟩) ?_
       refine s_gg (v1:=(bif (bif (bif (bif (bif r_99 then true else (o_1.Table == [])) then (bif r_101 then true else ((o_1.Where.length:Int) == 0)) else false) then (bif name_104 then true else (o_1.Name == [])) else false) then (bif (bif (bif (o_1.Kind == 1) then true else (o_1.Kind == 3)) then true else (o_1.Kind == 6)) then true else ((o_1.Row.length:Int) == 0)) else false) then (bif (o_1.Kind == 4) then true else ((o_1.Muts.length:Int) == 0)) else false)) (b1:=true) (v2:=(o_1.Kind == 2)) (.bool ((o_1.Columns.length:Int) == 0)) rfl (fun hv hw => by (try simp only [gs_on hv,gs_on hw]);exact ⟨rfl,rfl,rfl⟩) ?_;refine s_gp (v1:=(bif (bif (bif (bif (bif r_99 then true else (o_1.Table == [])) then (bif r_101 then true else ((o_1.Where.length:Int) == 0)) else false) then (bif name_104 then true else (o_1.Name == [])) else false) then (bif (bif (bif (o_1.Kind == 1) then true else (o_1.Kind == 3)) then true else (o_1.Kind == 6)) then true else ((o_1.Row.length:Int) == 0)) else false) then (bif (o_1.Kind == 4) then true else ((o_1.Muts.length:Int) == 0)) else false)) (b1:=true) (v2:=(o_1.Kind == 2)) (x:=true) (y:=((o_1.Columns.length:Int) == 0)) rfl (fun hv => by (try simp only [gs_on hv]);rfl) (fun hv hw => by (try simp only [gs_on hv,gs_on hw]);rfl) (fun hv hw => by (try simp only [gs_on hv,gs_on hw]);rfl) ?_
       refine s_pick (x:=(bif (o_1.Kind == 2) then true else ((o_1.Columns.length:Int) == 0))) (y:=false) rfl (fun hv => by (try simp only [gs_on hv]);rfl) (fun hv => by (try simp only [gs_on hv]);rfl) ?_;refine s_mov (.bool (bif (bif (bif (bif (bif (bif r_99 then true else (o_1.Table == [])) then (bif r_101 then true else ((o_1.Where.length:Int) == 0)) else false) then (bif name_104 then true else (o_1.Name == [])) else false) then (bif (bif (bif (o_1.Kind == 1) then true else (o_1.Kind == 3)) then true else (o_1.Kind == 6)) then true else ((o_1.Row.length:Int) == 0)) else false) then (bif (o_1.Kind == 4) then true else ((o_1.Muts.length:Int) == 0)) else false) then (bif (o_1.Kind == 2) then true else ((o_1.Columns.length:Int) == 0)) else false)) rfl ?_
       refine s_g (v:=(bif (bif (bif (bif (bif (bif r_99 then true else (o_1.Table == [])) then (bif r_101 then true else ((o_1.Where.length:Int) == 0)) else false) then (bif name_104 then true else (o_1.Name == [])) else false) then (bif (bif (bif (o_1.Kind == 1) then true else (o_1.Kind == 3)) then true else (o_1.Kind == 6)) then true else ((o_1.Row.length:Int) == 0)) else false) then (bif (o_1.Kind == 4) then true else ((o_1.Muts.length:Int) == 0)) else false) then (bif (o_1.Kind == 2) then true else ((o_1.Columns.length:Int) == 0)) else false)) (.ptr 0 0 0) rfl (fun hv => by (try simp only [gs_on hv]);exact ⟨rfl,trivial,rfl⟩) ?_;refine s_g (v:=(bif (bif (bif (bif (bif (bif r_99 then true else (o_1.Table == [])) then (bif r_101 then true else ((o_1.Where.length:Int) == 0)) else false) then (bif name_104 then true else (o_1.Name == [])) else false) then (bif (bif (bif (o_1.Kind == 1) then true else (o_1.Kind == 3)) then true else (o_1.Kind == 6)) then true else ((o_1.Row.length:Int) == 0)) else false) then (bif (o_1.Kind == 4) then true else ((o_1.Muts.length:Int) == 0)) else false) then (bif (o_1.Kind == 2) then true else ((o_1.Columns.length:Int) == 0)) else false)) (.int .i64 o_1.Kind) rfl (fun hv => by (try simp only [gs_on hv]);exact ⟨rfl,nle,rfl⟩) ?_
       refine s_g (v:=(bif (bif (bif (bif (bif (bif r_99 then true else (o_1.Table == [])) then (bif r_101 then true else ((o_1.Where.length:Int) == 0)) else false) then (bif name_104 then true else (o_1.Name == [])) else false) then (bif (bif (bif (o_1.Kind == 1) then true else (o_1.Kind == 3)) then true else (o_1.Kind == 6)) then true else ((o_1.Row.length:Int) == 0)) else false) then (bif (o_1.Kind == 4) then true else ((o_1.Muts.length:Int) == 0)) else false) then (bif (o_1.Kind == 2) then true else ((o_1.Columns.length:Int) == 0)) else false)) (.bool (o_1.Kind == 6)) rfl (fun hv => by (try simp only [gs_on hv]);exact ⟨rfl,rfl,rfl⟩) ?_;refine s_g (v:=(bif (bif (bif (bif (bif (bif r_99 then true else (o_1.Table == [])) then (bif r_101 then true else ((o_1.Where.length:Int) == 0)) else false) then (bif name_104 then true else (o_1.Name == [])) else false) then (bif (bif (bif (o_1.Kind == 1) then true else (o_1.Kind == 3)) then true else (o_1.Kind == 6)) then true else ((o_1.Row.length:Int) == 0)) else false) then (bif (o_1.Kind == 4) then true else ((o_1.Muts.length:Int) == 0)) else false) then (bif (o_1.Kind == 2) then true else ((o_1.Columns.length:Int) == 0)) else false)) (.bool (o_1.Kind == 6)) rfl (fun hv => by (try simp only [gs_on hv]);exact ⟨rfl,trivial,rfl⟩) ?_
       refine s_gg (v1:=(bif (bif (bif (bif (bif (bif r_99 then true else (o_1.Table == [])) then (bif r_101 then true else ((o_1.Where.length:Int) == 0)) else false) then (bif name_104 then true else (o_1.Name == [])) else false) then (bif (bif (bif (o_1.Kind == 1) then true else (o_1.Kind == 3)) then true else (o_1.Kind == 6)) then true else ((o_1.Row.length:Int) == 0)) else false) then (bif (o_1.Kind == 4) then true else ((o_1.Muts.length:Int) == 0)) else false) then (bif (o_1.Kind == 2) then true else ((o_1.Columns.length:Int) == 0)) else false)) (b1:=true) (v2:=(o_1.Kind == 6)) (.ptr 0 0 7) rfl (fun hv hw => by (try simp only [gs_on hv,gs_on hw]);exact ⟨rfl,trivial,rfl⟩) ?_;refine s_gg (v1:=(bif (bif (bif (bif (bif (bif r_99 then true else (o_1.Table == [])) then (bif r_101 then true else ((o_1.Where.length:Int) == 0)) else false) then (bif name_104 then true else (o_1.Name == [])) else false) then (bif (bif (bif (o_1.Kind == 1) then true else (o_1.Kind == 3)) then true else (o_1.Kind == 6)) then true else ((o_1.Row.length:Int) == 0)) else false) then (bif (o_1.Kind == 4) then true else ((o_1.Muts.length:Int) == 0)) else false) then (bif (o_1.Kind == 2) then true else ((o_1.Columns.length:Int) == 0)) else false)) (b1:=true) (v2:=(o_1.Kind == 6)) (.bool o_1.Until) rfl (fun hv hw => by (try simp only [gs_on hv,gs_on hw]);exact ⟨rfl,nle,rfl⟩) ?_
       refine s_gg (v1:=(bif (bif (bif (bif (bif (bif r_99 then true else (o_1.Table == [])) then (bif r_101 then true else ((o_1.Where.length:Int) == 0)) else false) then (bif name_104 then true else (o_1.Name == [])) else false) then (bif (bif (bif (o_1.Kind == 1) then true else (o_1.Kind == 3)) then true else (o_1.Kind == 6)) then true else ((o_1.Row.length:Int) == 0)) else false) then (bif (o_1.Kind == 4) then true else ((o_1.Muts.length:Int) == 0)) else false) then (bif (o_1.Kind == 2) then true else ((o_1.Columns.length:Int) == 0)) else false)) (b1:=true) (v2:=(o_1.Kind == 6)) (.bool (!o_1.Until)) rfl (fun hv hw => by (try simp only [gs_on hv,gs_on hw]);exact ⟨rfl,trivial,rfl⟩) ?_
       refine s_gp (v1:=(bif (bif (bif (bif (bif (bif r_99 then true else (o_1.Table == [])) then (bif r_101 then true else ((o_1.Where.length:Int) == 0)) else false) then (bif name_104 then true else (o_1.Name == [])) else false) then (bif (bif (bif (o_1.Kind == 1) then true else (o_1.Kind == 3)) then true else (o_1.Kind == 6)) then true else ((o_1.Row.length:Int) == 0)) else false) then (bif (o_1.Kind == 4) then true else ((o_1.Muts.length:Int) == 0)) else false) then (bif (o_1.Kind == 2) then true else ((o_1.Columns.length:Int) == 0)) else false)) (b1:=true) (v2:=(o_1.Kind == 6)) (x:=true) (y:=(!o_1.Until)) rfl (fun hv => by (try simp only [gs_on hv]);rfl) (fun hv hw => by (try simp only [gs_on hv,gs_on hw]);rfl) (fun hv hw => by (try simp only [gs_on hv,gs_on hw]);rfl) ?_
       refine s_pick (x:=(bif (o_1.Kind == 6) then true else (!o_1.Until))) (y:=false) rfl (fun hv => by (try simp only [gs_on hv]);rfl) (fun hv => by (try simp only [gs_on hv]);rfl) ?_;refine s_mov (.bool (bif (bif (bif (bif (bif (bif (bif r_99 then true else (o_1.Table == [])) then (bif r_101 then true else ((o_1.Where.length:Int) == 0)) else false) then (bif name_104 then true else (o_1.Name == [])) else false) then (bif (bif (bif (o_1.Kind == 1) then true else (o_1.Kind == 3)) then true else (o_1.Kind == 6)) then true else ((o_1.Row.length:Int) == 0)) else false) then (bif (o_1.Kind == 4) then true else ((o_1.Muts.length:Int) == 0)) else false) then (bif (o_1.Kind == 2) then true else ((o_1.Columns.length:Int) == 0)) else false) then (bif (o_1.Kind == 6) then true else (!o_1.Until)) else false)) rfl ?_
       refine dk<|w_ret<|?_;obtain rfl:=os hf;exact r_flat ⟨trivial,trivial⟩ rfl (.refl _)

/- spec.l04Column -/
def c73:ACode :=
 (.seq (.reg (tq 2 (.box 4 (.t 0)) (tm 4 (.c (.int .i64 0)) .done)))
 (.seq (.seq (.reg (tm 5 (.c (.int .i64 0)) .done))
 (.block 0 (.loop (.seq (.seq (.reg (tm 6 (.t 5) (tq 7 (.faddr 1 (.t 2)) (tq 8 (.load 1 false (.t 7)) (tq 9 (.len (.t 8)) (tq 10 (.bin .lss (.t 6) (.t 9)) .done))))))
 (.cond (.t 10) .skip
 (.exit 0)))
 (.seq (.block 1 (.seq (.reg (tq 13 (.faddr 1 (.t 2)) (tq 14 (.load 1 false (.t 13)) (tm 15 (.t 5) (tq 16 (.iaddr 8 (.t 14) (.t 15)) (tq 17 (.faddr 0 (.t 16)) (tq 18 (.load 1 false (.t 17)) (tm 19 (.t 1) (tq 20 (.bin .eql (.t 18) (.t 19)) .done)))))))))
 (.cond (.t 20) (.seq (.reg (tm 21 (.t 5) (tm 4 (.t 21) .done)))
 .ret)
 .skip)))
 (.reg (tm 11 (.t 5) (tq 12 (.bin .add (.t 11) (.c (.int .i64 1))) (tm 5 (.t 12) .done)))))))))
 (.cut (.seq (.reg (tq 4 (.mov (.c (.int .i64 (-1)))) .done))
 .ret))))
theorem fc73:fcomp Tryz.prog Tryz.f73 = some (c73.erase,[.mov (.t 4)],22):=by kernel_rfl
def spec_l04Column_L1 (name_2:Str):List GColumn → Nat → Option (Fl Int Unit)
  | [],i_14 =>
    some (.go ())
  | x_28 :: xs,i_14 =>
    if (x_28.Name == name_2) then
    some (.ret (i_14:Int))
    else
    spec_l04Column_L1 name_2 xs (i_14 + 1)

def spec_l04Column (t_1:GTable) (name_2:Str):Option Int :=
    (spec_l04Column_L1 name_2 t_1.Columns 0).bind fun q => (match q with
    | .ret r => some r
    | .go _ =>
    some (-1))
theorem w_spec_l04Column (t_1:GTable) (name_2:Str) (r:Int) (hf:spec_l04Column t_1 name_2 = some r):CallOK Tryz.prog 73 .flat [(encGTable t_1),(.str name_2)] (.int .i64 r):=by
 refine CallOK.of_awp mixed Tryz.func73 fc73 nle ?_;rw [argT_eq];unfold spec_l04Column at hf;unfold c73;refine (show awp Tryz.prog false 0 _ (ofL [(0,(encGTable t_1)),(1,(.str name_2))]) [] _ from ?_);refine sr<|s_do (o_box (j:=0) (c:=(.agg [(.str t_1.Name),(.lst 8 (t_1.Columns.map encGColumn)),(.lst 1 (t_1.Unique.map encI)),(.bool t_1.Root)])) rfl trivial rfl rfl)<|s_mov (.int .i64 0) rfl<|dk<|awp_seq<|sr<|s_mov (.int .i64 0) rfl<|dk<|?_
 obtain ⟨p21,hb1,hf⟩:=ob hf
 refine awp_cutx (X:={q:Unit // p21 = .go q}) (fun q => ([],[])) ?_ ?_
 ·refine awp_loop (X:={q:Nat // spec_l04Column_L1 name_2 (t_1.Columns.drop q) q = some p21}) (fun q => ([(1,(.str name_2)),(2,(.ptr 0 0 0)),(5,(.int .i64 (q.1:Int)))],[.box 4 (.agg [(.str t_1.Name),(.lst 8 (t_1.Columns.map encGColumn)),(.lst 1 (t_1.Unique.map encI)),(.bool t_1.Root)])])) (fun q => t_1.Columns.length - q.1) ⟨0,hb1⟩ ⟨[],[0],_,_,rfl,rfl,⟨.refl _,⟨.refl _,⟨.refl _,trivial⟩⟩⟩,(.refl _)⟩ ?_
  rintro ⟨i_14,hc1⟩
  have hc1:spec_l04Column_L1 name_2 (t_1.Columns.drop i_14) i_14 = some p21:=hc1
  refine (show awp Tryz.prog false 0 _ (ofL [(1,(.str name_2)),(2,(.ptr 0 0 0)),(5,(.int .i64 (i_14:Int)))]) [.box 4 (.agg [(.str t_1.Name),(.lst 8 (t_1.Columns.map encGColumn)),(.lst 1 (t_1.Unique.map encI)),(.bool t_1.Root)])] _ from ?_)
  rcases dropc t_1.Columns i_14 with ⟨hie24,hd27⟩ | ⟨hlt22,x_28,hx23,hd27⟩
  ·rw [hd27,spec_l04Column_L1.eq_1] at hc1
   have hq26:=dlf hie24
   refine awp_seq<|sr<|s_mov (.int .i64 (i_14:Int)) rfl<|s_q (.ptr 0 0 1) rfl trivial rfl<|s_q (.lst 8 (t_1.Columns.map encGColumn)) rfl nle rfl<|s_dof (o_len (enc:=encGColumn) rfl) fun hl29 => s_q (.bool (decide ((i_14:Int) < (t_1.Columns.length:Int)))) rfl rfl rfl<|dk<|w_condf rfl hq26<|w_exit<|k_seqx<|k_loopx<|k_blkx<|?_;obtain rfl:=os hc1;exact k_cutn ⟨_,rfl⟩ ⟨[],[],_,_,rfl,rfl,trivial,(.refl _)⟩
  ·rw [hd27,spec_l04Column_L1.eq_2] at hc1
   have hq26:=dlt hlt22
   refine awp_seq<|sr<|s_mov (.int .i64 (i_14:Int)) rfl<|s_q (.ptr 0 0 1) rfl trivial rfl<|s_q (.lst 8 (t_1.Columns.map encGColumn)) rfl nle rfl<|s_dof (o_len (enc:=encGColumn) rfl) fun hl30 => s_q (.bool (decide ((i_14:Int) < (t_1.Columns.length:Int)))) rfl rfl rfl<|dk<|w_condt rfl hq26<|w_skip<|k_seq<|awp_seq<|w_blk<|sr<|s_q (.ptr 0 0 1) rfl trivial rfl<|s_q (.lst 8 (t_1.Columns.map encGColumn)) rfl nle rfl<|s_mov (.int .i64 (i_14:Int)) rfl<|s_do (o_iaddrn (enc:=encGColumn) rfl rfl hx23)<|s_q (.iptr (encGColumn x_28) 0) rfl trivial rfl<|s_q (.str x_28.Name) rfl nle rfl<|s_mov (.str name_2) rfl<|s_q (.bool (x_28.Name == name_2)) rfl trivial rfl<|?_
   refine dk<|?_
   rcases oi hc1 with ⟨c31,hc1⟩ | ⟨c31,hc1⟩
   ·refine w_condt rfl c31<|sr<|s_mov (.int .i64 (i_14:Int)) rfl<|s_mov (.int .i64 (i_14:Int)) rfl<|dk<|w_ret<|?_;obtain rfl:=os hc1;obtain rfl:=os hf;exact r_flat ⟨trivial,trivial⟩ rfl (.refl _)
   ·refine w_condf rfl (bf c31)<|w_skip<|k_blk<|k_seq<|w_reg<|s_mov (.int .i64 (i_14:Int)) rfl<|s_q (.int .i64 (w64 ((i_14:Int) + 1))) rfl rfl rfl<|s_mov (.int .i64 (w64 ((i_14:Int) + 1))) rfl<|w_done<|?_;exact k_loopn ⟨(i_14 + 1),hc1⟩ (mul hlt22) ⟨[],[0],_,_,rfl,rfl,⟨.refl _,⟨.refl _,⟨.of_eq (congrArg (AV.int _) (w64_incr hlt22 hl30)),trivial⟩⟩⟩,(.refl _)⟩
 ·rintro ⟨_,rfl⟩
  refine sr<|s_mov (.int .i64 (-1)) rfl<|dk<|w_ret<|?_;obtain rfl:=os hf;exact r_flat ⟨trivial,trivial⟩ rfl (.refl _)

/- spec.l06Code -/
def c127:ACode :=
 (.seq (.reg (tq 2 (.box 4 (.t 0)) (tq 3 (.box 3 (.t 1)) (tm 4 (.c (.int .i64 0)) .done))))
 (.seq (.reg (tm 5 (.c (.int .i64 4)) .done))
 (.seq (.reg (tq 7 (.load 4 true (.t 2)) (tq 8 (.faddr 0 (.t 3)) (tq 9 (.load 1 false (.t 8)) (tq 10 (.call 73 [(.t 7),(.t 9)]) (tm 6 (.t 10) .done))))))
 (.seq (.seq (.reg (tm 11 (.t 6) (tq 12 (.bin .geq (.t 11) (.c (.int .i64 0))) .done)))
 (.cond (.t 12) (.reg (tq 13 (.faddr 1 (.t 2)) (tq 14 (.load 1 false (.t 13)) (tm 15 (.t 6) (tq 16 (.iaddr 8 (.t 14) (.t 15)) (tq 17 (.faddr 1 (.t 16)) (tq 18 (.load 1 false (.t 17)) (tm 5 (.t 18) .done))))))))
 (.seq (.reg (tq 19 (.faddr 0 (.t 3)) (tq 20 (.load 1 false (.t 19)) (tq 21 (.bin .neq (.t 20) (.c (.str [95,117,117,105,100]))) .done))))
 (.cond (.t 21) (.seq (.reg (tm 4 (.c (.int .i64 11)) .done))
 .ret)
 .skip))))
 (.cut (.seq (.seq (.reg (tq 22 (.faddr 2 (.t 3)) (tq 23 (.load 1 false (.t 22)) (tq 24 (.len (.t 23)) (tq 25 (.bin .gtr (.t 24) (.c (.int .i64 0))) (tm 26 (.t 25) (tg 27 26 true (.faddr 2 (.t 3)) (tg 28 26 true (.load 1 false (.t 27)) (tg 29 26 true (.iaddr 3 (.t 28) (.c (.int .i64 0))) (tg 30 26 true (.faddr 0 (.t 29)) (tg 31 26 true (.load 1 false (.t 30)) (tg 32 26 true (.mov (.t 5)) (tg 33 26 true (.bin .neq (.t 31) (.t 32)) (tq 34 (.pick (.t 26) (.t 33) (.c (.bool false))) .done))))))))))))))
 (.cut (.cond (.t 34) (.seq (.reg (tm 4 (.c (.int .i64 9)) .done))
 .ret)
 .skip)))
 (.seq (.seq (.reg (tq 35 (.faddr 1 (.t 3)) (tq 36 (.load 1 false (.t 35)) (tq 37 (.call 48 [(.t 36),(.c (.int .i64 3)),(.c (.int .i64 6))]) (tm 38 (.t 37) (tg 39 38 true (.mov (.t 5)) (tg 40 38 true (.bin .neq (.t 39) (.c (.int .i64 1))) (tg 41 38 true (.mov (.t 40)) (tg 42 41 false (.faddr 1 (.t 2)) (tg 43 41 false (.load 1 false (.t 42)) (tg 44 41 false (.mov (.t 6)) (tg 45 41 false (.iaddr 8 (.t 43) (.t 44)) (tg 46 41 false (.faddr 3 (.t 45)) (tg 47 41 false (.load 1 false (.t 46)) (tg 48 41 false (.bin .neq (.t 47) (.c (.int .i64 1))) (tg 49 38 true (.pick (.t 41) (.c (.bool true)) (.t 48)) (tg 50 38 true (.mov (.t 49)) (tg 51 50 false (.faddr 2 (.t 3)) (tg 52 50 false (.load 1 false (.t 51)) (tg 53 50 false (.len (.t 52)) (tg 54 50 false (.bin .neq (.t 53) (.c (.int .i64 1))) (tg 55 38 true (.pick (.t 50) (.c (.bool true)) (.t 54)) (tq 56 (.pick (.t 38) (.t 55) (.c (.bool false))) .done)))))))))))))))))))))))
 (.cut (.cond (.t 56) (.seq (.reg (tm 4 (.c (.int .i64 9)) .done))
 .ret)
 .skip)))
 (.seq (.reg (tm 4 (.c (.int .i64 0)) .done))
 .ret))))))))
theorem fc127:fcomp Tryz.prog Tryz.f127 = some (c127.erase,[.mov (.t 4)],57):=by kernel_rfl
def spec_l06Code (t_1:GTable) (c_2:GCond):Option Int :=
    (spec_l04Column t_1 c_2.Column).bind fun r_3 =>
    ((if (decide (r_3 ≥ 0)) then
    (idx t_1.Columns r_3).bind fun x_12 =>
    some (.go x_12.Kind)
    else
    if (!(c_2.Column == [95,117,117,105,100])) then
    some (.ret 11)
    else
    some (.go 4):Option (Fl Int Int))).bind fun q => (match q with
    | .ret r => some r
    | .go kind_9 =>
    ((if (decide ((c_2.Value.length:Int) > 0)) then
    (idx c_2.Value 0).bind fun x_23 =>
    some (x_23.Kind != kind_9)
    else
    some false:Option Bool)).bind fun s34_19 =>
    if s34_19 then
    some 9
    else
    (((spec_l01In c_2.Func 3 6).bind fun r_37 =>
    if r_37 then
    if (kind_9 != 1) then
    some true
    else
    (idx t_1.Columns r_3).bind fun x_41 =>
    if (x_41.Max != 1) then
    some true
    else
    some ((c_2.Value.length:Int) != 1)
    else
    some false:Option Bool)).bind fun s56_35 =>
    if s56_35 then
    some 9
    else
    some 0)
theorem w_spec_l06Code (t_1:GTable) (c_2:GCond) (r:Int) (hf:spec_l06Code t_1 c_2 = some r):CallOK Tryz.prog 127 .flat [(encGTable t_1),(encGCond c_2)] (.int .i64 r):=by
 refine CallOK.of_awp mixed Tryz.func127 fc127 nle ?_;rw [argT_eq];unfold spec_l06Code at hf;unfold c127;refine (show awp Tryz.prog false 0 _ (ofL [(0,(encGTable t_1)),(1,(encGCond c_2))]) [] _ from ?_);refine sr<|s_do (o_box (j:=0) (c:=(.agg [(.str t_1.Name),(.lst 8 (t_1.Columns.map encGColumn)),(.lst 1 (t_1.Unique.map encI)),(.bool t_1.Root)])) rfl trivial rfl rfl)<|s_do (o_box (j:=1) (c:=(.agg [(.str c_2.Column),(.int .i64 c_2.Func),(.lst 3 (c_2.Value.map encGAtom))])) rfl trivial rfl rfl)<|s_mov (.int .i64 0) rfl<|dk<|sr<|s_mov (.int .i64 4) rfl<|dk<|sr<|?_
 obtain ⟨r_3,er4,hf⟩:=ob hf
 refine s_q (.agg [(.str t_1.Name),(.lst 8 (t_1.Columns.map encGColumn)),(.lst 1 (t_1.Unique.map encI)),(.bool t_1.Root)]) rfl nle rfl<|s_q (.ptr 1 0 0) rfl trivial rfl<|s_q (.str c_2.Column) rfl nle rfl<|s_do (o_call (w_spec_l04Column _ _ _ er4) rfl (.refl _) rfl)<|s_mov (.int .i64 r_3) rfl<|dk<|awp_seq<|?_
 obtain ⟨p10,hb1,hf⟩:=ob hf
 refine awp_cutx (X:={q:Int // p10 = .go q}) (fun q => ([(2,(.ptr 0 0 0)),(3,(.ptr 1 0 0)),(5,(.int .i64 q.1)),(6,(.int .i64 r_3))],[.box 4 (.agg [(.str t_1.Name),(.lst 8 (t_1.Columns.map encGColumn)),(.lst 1 (t_1.Unique.map encI)),(.bool t_1.Root)]),.box 3 (.agg [(.str c_2.Column),(.int .i64 c_2.Func),(.lst 3 (c_2.Value.map encGAtom))])])) ?_ ?_
 ·refine sr<|s_mov (.int .i64 r_3) rfl<|s_q (.bool (decide (r_3 ≥ 0))) rfl rfl rfl<|dk<|?_
  rcases oi hb1 with ⟨c11,hb1⟩ | ⟨c11,hb1⟩
  ·refine w_condt rfl c11<|w_reg<|?_
   obtain ⟨x_12,ex13,hb1⟩:=ob hb1
   refine s_q (.ptr 0 0 1) rfl trivial rfl<|s_q (.lst 8 (t_1.Columns.map encGColumn)) rfl nle rfl<|s_mov (.int .i64 r_3) rfl<|s_do (o_iaddr (enc:=encGColumn) rfl rfl (idx0 ex13) (idx1 ex13))<|s_q (.iptr (encGColumn x_12) 1) rfl trivial rfl<|s_q (.int .i64 x_12.Kind) rfl nle rfl<|s_mov (.int .i64 x_12.Kind) rfl<|w_done<|?_;obtain rfl:=os hb1;exact k_cutn ⟨_,rfl⟩ ⟨[],[0,1],_,_,rfl,rfl,⟨.refl _,⟨.refl _,⟨.refl _,⟨.refl _,trivial⟩⟩⟩⟩,(.refl _)⟩
  ·refine w_condf rfl (bf c11)<|sr<|s_q (.ptr 1 0 0) rfl trivial rfl<|s_q (.str c_2.Column) rfl nle rfl<|s_q (.bool (!(c_2.Column == [95,117,117,105,100]))) rfl trivial rfl<|dk<|?_
   rcases oi hb1 with ⟨c14,hb1⟩ | ⟨c14,hb1⟩
   ·refine w_condt rfl c14<|sr<|s_mov (.int .i64 11) rfl<|dk<|w_ret<|?_;obtain rfl:=os hb1;obtain rfl:=os hf;exact r_flat ⟨trivial,trivial⟩ rfl (.refl _)
   ·refine w_condf rfl (bf c14)<|w_skip<|?_;obtain rfl:=os hb1;exact k_cutn ⟨_,rfl⟩ ⟨[],[0,1],_,_,rfl,rfl,⟨.refl _,⟨.refl _,⟨.refl _,⟨.refl _,trivial⟩⟩⟩⟩,(.refl _)⟩
 ·rintro ⟨kind_9,rfl⟩
  refine awp_seq<|awp_seq<|?_
  obtain ⟨s34_19,hb1,hf⟩:=ob hf
  refine awp_cut ([(2,(.ptr 0 0 0)),(3,(.ptr 1 0 0)),(5,(.int .i64 kind_9)),(6,(.int .i64 r_3)),(34,(.bool s34_19))],[.box 4 (.agg [(.str t_1.Name),(.lst 8 (t_1.Columns.map encGColumn)),(.lst 1 (t_1.Unique.map encI)),(.bool t_1.Root)]),.box 3 (.agg [(.str c_2.Column),(.int .i64 c_2.Func),(.lst 3 (c_2.Value.map encGAtom))])]) ?_ ?_
  ·refine w_reg<|s_q (.ptr 1 0 2) rfl trivial rfl<|s_q (.lst 3 (c_2.Value.map encGAtom)) rfl nle rfl<|s_dof (o_len (enc:=encGAtom) rfl) fun hl21 => s_q (.bool (decide ((c_2.Value.length:Int) > 0))) rfl rfl rfl<|s_mov (.bool (decide ((c_2.Value.length:Int) > 0))) rfl<|?_
   rcases oi hb1 with ⟨c22,hb1⟩ | ⟨c22,hb1⟩
   ·refine s_lit (s:=26) (b:=true) rfl c22<|s_on rfl<|s_q (.ptr 1 0 2) rfl trivial rfl<|s_on rfl<|s_q (.lst 3 (c_2.Value.map encGAtom)) rfl nle rfl<|s_on rfl<|?_
    obtain ⟨x_23,ex24,hb1⟩:=ob hb1
    refine s_do (o_iaddr (enc:=encGAtom) rfl rfl (idx0 ex24) (idx1 ex24))<|s_on rfl<|s_q (.iptr (encGAtom x_23) 0) rfl trivial rfl<|s_on rfl<|s_q (.int .i64 x_23.Kind) rfl nle rfl<|s_on rfl<|s_mov (.int .i64 kind_9) rfl<|s_on rfl<|s_q (.bool (x_23.Kind != kind_9)) rfl rfl rfl<|s_q (.bool (x_23.Kind != kind_9)) rfl trivial rfl<|w_done<|?_;obtain rfl:=os hb1;exact ⟨[],[0,1],_,_,rfl,rfl,⟨.refl _,⟨.refl _,⟨.refl _,⟨.refl _,⟨.refl _,trivial⟩⟩⟩⟩⟩,(.refl _)⟩
   ·refine s_lit (s:=26) (b:=false) rfl (bf c22)<|s_off rfl rfl<|s_off rfl rfl<|s_off rfl rfl<|s_off rfl rfl<|s_off rfl rfl<|s_off rfl rfl<|s_off rfl rfl<|s_q (.bool false) rfl trivial rfl<|w_done<|?_;obtain rfl:=os hb1;exact ⟨[],[0,1],_,_,rfl,rfl,⟨.refl _,⟨.refl _,⟨.refl _,⟨.refl _,⟨.refl _,trivial⟩⟩⟩⟩⟩,(.refl _)⟩
  ·rcases oi hf with ⟨c25,hf⟩ | ⟨c25,hf⟩
   ·refine w_condt rfl c25<|sr<|s_mov (.int .i64 9) rfl<|dk<|w_ret<|?_;obtain rfl:=os hf;exact r_flat ⟨trivial,trivial⟩ rfl (.refl _)
   ·refine w_condf rfl (bf c25)<|w_skip<|k_seq<|awp_seq<|awp_seq<|?_
    obtain ⟨s56_35,hb1,hf⟩:=ob hf
    refine awp_cut ([(56,(.bool s56_35))],[]) ?_ ?_
    ·refine w_reg<|s_q (.ptr 1 0 1) rfl trivial rfl<|s_q (.int .i64 c_2.Func) rfl nle rfl<|?_
     obtain ⟨r_37,er38,hb1⟩:=ob hb1
     refine s_do (o_call (w_spec_l01In _ _ _ _ er38) rfl (.refl _) rfl)<|s_mov (.bool r_37) rfl<|?_
     rcases oi hb1 with ⟨c39,hb1⟩ | ⟨c39,hb1⟩
     ·refine s_lit (s:=38) (b:=true) rfl c39<|s_on rfl<|s_mov (.int .i64 kind_9) rfl<|s_on rfl<|s_q (.bool (kind_9 != 1)) rfl rfl rfl<|s_on rfl<|s_mov (.bool (kind_9 != 1)) rfl<|?_
      rcases oi hb1 with ⟨c40,hb1⟩ | ⟨c40,hb1⟩
      ·refine s_lit (s:=41) (b:=true) rfl c40<|s_off rfl rfl<|s_off rfl rfl<|s_off rfl rfl<|s_off rfl rfl<|s_off rfl rfl<|s_off rfl rfl<|s_off rfl rfl<|s_on rfl<|s_q (.bool true) rfl trivial rfl<|s_on rfl<|s_mov (.bool true) rfl<|s_off rfl rfl<|s_off rfl rfl<|s_off rfl rfl<|s_off rfl rfl<|s_on rfl<|s_q (.bool true) rfl trivial rfl<|s_q (.bool true) rfl trivial rfl<|w_done<|?_;obtain rfl:=os hb1;exact ⟨[],[],_,_,rfl,rfl,⟨.refl _,trivial⟩,(.refl _)⟩
      ·refine s_lit (s:=41) (b:=false) rfl (bf c40)<|s_on rfl<|s_q (.ptr 0 0 1) rfl trivial rfl<|s_on rfl<|s_q (.lst 8 (t_1.Columns.map encGColumn)) rfl nle rfl<|s_on rfl<|s_mov (.int .i64 r_3) rfl<|s_on rfl<|?_
       obtain ⟨x_41,ex42,hb1⟩:=ob hb1
       refine s_do (o_iaddr (enc:=encGColumn) rfl rfl (idx0 ex42) (idx1 ex42))<|s_on rfl<|s_q (.iptr (encGColumn x_41) 3) rfl trivial rfl<|s_on rfl<|s_q (.int .i64 x_41.Max) rfl nle rfl<|s_on rfl<|s_q (.bool (x_41.Max != 1)) rfl rfl rfl<|s_on rfl<|s_q (.bool (x_41.Max != 1)) rfl trivial rfl<|s_on rfl<|s_mov (.bool (x_41.Max != 1)) rfl<|?_
       rcases oi hb1 with ⟨c44,hb1⟩ | ⟨c44,hb1⟩
       ·refine s_lit (s:=50) (b:=true) rfl c44<|s_off rfl rfl<|s_off rfl rfl<|s_off rfl rfl<|s_off rfl rfl<|s_on rfl<|s_q (.bool true) rfl trivial rfl<|s_q (.bool true) rfl trivial rfl<|w_done<|?_;obtain rfl:=os hb1;exact ⟨[],[],_,_,rfl,rfl,⟨.refl _,trivial⟩,(.refl _)⟩
       ·refine s_lit (s:=50) (b:=false) rfl (bf c44)<|s_on rfl<|s_q (.ptr 1 0 2) rfl trivial rfl<|s_on rfl<|s_q (.lst 3 (c_2.Value.map encGAtom)) rfl nle rfl<|s_on rfl<|s_dof (o_len (enc:=encGAtom) rfl) fun hl45 => s_on rfl<|s_q (.bool ((c_2.Value.length:Int) != 1)) rfl rfl rfl<|s_on rfl<|s_q (.bool ((c_2.Value.length:Int) != 1)) rfl trivial rfl<|s_q (.bool ((c_2.Value.length:Int) != 1)) rfl trivial rfl<|w_done<|?_;obtain rfl:=os hb1;exact ⟨[],[],_,_,rfl,rfl,⟨.refl _,trivial⟩,(.refl _)⟩
     ·refine s_lit (s:=38) (b:=false) rfl (bf c39)<|s_off rfl rfl<|s_off rfl rfl<|s_off rfl rfl<|s_offs rfl<|s_offs rfl<|s_offs rfl<|s_offs rfl<|s_offs rfl<|s_offs rfl<|s_offs rfl<|s_off rfl rfl<|s_off rfl rfl<|s_offs rfl<|s_offs rfl<|s_offs rfl<|s_offs rfl<|s_off rfl rfl<|s_q (.bool false) rfl trivial rfl<|w_done<|?_;obtain rfl:=os hb1;exact ⟨[],[],_,_,rfl,rfl,⟨.refl _,trivial⟩,(.refl _)⟩
    ·rcases oi hf with ⟨c46,hf⟩ | ⟨c46,hf⟩
     ·refine w_condt rfl c46<|sr<|s_mov (.int .i64 9) rfl<|dk<|w_ret<|?_;obtain rfl:=os hf;exact r_flat ⟨trivial,trivial⟩ rfl (.refl _)
     ·refine w_condf rfl (bf c46)<|w_skip<|k_seq<|sr<|s_mov (.int .i64 0) rfl<|dk<|w_ret<|?_;obtain rfl:=os hf;exact r_flat ⟨trivial,trivial⟩ rfl (.refl _)

end Go.R
