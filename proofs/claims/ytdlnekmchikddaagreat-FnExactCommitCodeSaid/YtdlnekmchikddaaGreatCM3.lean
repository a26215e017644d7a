/- Walks. -/
import Derived.Test.YtdlnekmchikddaaGreatCM2
set_option linter.all false
namespace Go.R
open Go Go.Proofs
set_option linter.unusedVariables false
set_option linter.unusedSimpArgs false
set_option maxHeartbeats 8000000
/- impl.ColumnOK -/
def c60:ACode :=
 (.seq (.reg (tq 1 (.box 8 (.t 0)) (tm 2 (.c (.bool false)) .done)))
 (.seq (.seq (.reg (tq 3 (.faddr 0 (.t 1)) (tq 4 (.load 1 false (.t 3)) (tq 5 (.call 46 [(.t 4)]) (tq 6 (.not (.t 5)) (tm 7 (.t 6) (tg 8 7 false (.faddr 2 (.t 1)) (tg 9 7 false (.load 1 false (.t 8)) (tg 10 7 false (.call 43 [(.t 9),(.c (.int .i64 0)),(.c (.int .i64 1))]) (tg 11 7 false (.not (.t 10)) (tq 12 (.pick (.t 7) (.c (.bool true)) (.t 11)) (tm 13 (.t 12) (tg 14 13 false (.faddr 3 (.t 1)) (tg 15 13 false (.load 1 false (.t 14)) (tg 16 13 false (.call 43 [(.t 15),(.c (.int .i64 1)),(.c (.int .i64 8))]) (tg 17 13 false (.not (.t 16)) (tq 18 (.pick (.t 13) (.c (.bool true)) (.t 17)) .done)))))))))))))))))
 (.cut (.cond (.t 18) (.seq (.reg (tm 2 (.c (.bool false)) .done))
 .ret)
 .skip)))
 (.seq (.seq (.reg (tq 19 (.faddr 1 (.t 1)) (tq 20 (.load 1 false (.t 19)) .done)))
 (.block 0 (.seq (.reg (tq 22 (.bin .eql (.t 20) (.c (.int .i64 1))) (tm 21 (.t 22) .done)))
 (.cond (.t 21) (.seq (.reg (tq 23 (.faddr 4 (.t 1)) (tq 24 (.load 1 false (.t 23)) (tq 25 (.call 132 [(.t 24)]) (tm 26 (.t 25) (tg 27 26 true (.faddr 5 (.t 1)) (tg 28 26 true (.load 1 false (.t 27)) (tg 29 26 true (.call 132 [(.t 28)]) (tq 30 (.pick (.t 26) (.t 29) (.c (.bool false))) (tm 31 (.t 30) (tg 32 31 true (.faddr 4 (.t 1)) (tg 33 31 true (.load 1 false (.t 32)) (tg 34 31 true (.faddr 5 (.t 1)) (tg 35 31 true (.load 1 false (.t 34)) (tg 36 31 true (.bin .leq (.t 33) (.t 35)) (tq 37 (.pick (.t 31) (.t 36) (.c (.bool false))) (tm 38 (.t 37) (tg 39 38 true (.faddr 6 (.t 1)) (tg 40 38 true (.load 1 false (.t 39)) (tg 41 38 true (.bin .eql (.t 40) (.c (.str []))) (tq 42 (.pick (.t 38) (.t 41) (.c (.bool false))) (tm 43 (.t 42) (tg 44 43 true (.faddr 7 (.t 1)) (tg 45 43 true (.load 1 false (.t 44)) (tg 46 43 true (.not (.t 45)) (tq 47 (.pick (.t 43) (.t 46) (.c (.bool false))) (tm 2 (.t 47) .done)))))))))))))))))))))))))))
 .ret)
 (.seq (.seq (.reg (tq 49 (.bin .eql (.t 20) (.c (.int .i64 2))) (tm 48 (.t 49) .done)))
 (.cond (.t 48) .skip
 (.reg (tq 50 (.bin .eql (.t 20) (.c (.int .i64 3))) (tm 48 (.t 50) .done)))))
 (.cut (.cond (.t 48) (.seq (.reg (tq 51 (.faddr 4 (.t 1)) (tq 52 (.load 1 false (.t 51)) (tq 53 (.bin .eql (.t 52) (.c (.int .i64 0))) (tm 54 (.t 53) (tg 55 54 true (.faddr 5 (.t 1)) (tg 56 54 true (.load 1 false (.t 55)) (tg 57 54 true (.bin .eql (.t 56) (.c (.int .i64 0))) (tq 58 (.pick (.t 54) (.t 57) (.c (.bool false))) (tm 59 (.t 58) (tg 60 59 true (.faddr 6 (.t 1)) (tg 61 59 true (.load 1 false (.t 60)) (tg 62 59 true (.bin .eql (.t 61) (.c (.str []))) (tq 63 (.pick (.t 59) (.t 62) (.c (.bool false))) (tm 64 (.t 63) (tg 65 64 true (.faddr 7 (.t 1)) (tg 66 64 true (.load 1 false (.t 65)) (tg 67 64 true (.not (.t 66)) (tq 68 (.pick (.t 64) (.t 67) (.c (.bool false))) (tm 2 (.t 68) .done))))))))))))))))))))
 .ret)
 (.seq (.reg (tq 70 (.bin .eql (.t 20) (.c (.int .i64 4))) (tm 69 (.t 70) .done)))
 (.cond (.t 69) (.seq (.reg (tq 71 (.faddr 4 (.t 1)) (tq 72 (.load 1 false (.t 71)) (tq 73 (.bin .eql (.t 72) (.c (.int .i64 0))) (tm 74 (.t 73) (tg 75 74 true (.faddr 5 (.t 1)) (tg 76 74 true (.load 1 false (.t 75)) (tg 77 74 true (.bin .eql (.t 76) (.c (.int .i64 0))) (tq 78 (.pick (.t 74) (.t 77) (.c (.bool false))) (tm 79 (.t 78) (tg 80 79 true (.faddr 6 (.t 1)) (tg 81 79 true (.load 1 false (.t 80)) (tg 82 79 true (.call 46 [(.t 81)]) (tq 83 (.pick (.t 79) (.t 82) (.c (.bool false))) (tm 84 (.t 83) (tg 85 84 true (.faddr 2 (.t 1)) (tg 86 84 true (.load 1 false (.t 85)) (tg 87 84 true (.bin .eql (.t 86) (.c (.int .i64 0))) (tq 88 (.pick (.t 84) (.t 87) (.c (.bool false))) (tm 2 (.t 88) .done))))))))))))))))))))
 .ret)
 .skip)))))))))
 (.seq (.reg (tm 2 (.c (.bool false)) .done))
 .ret))))
theorem fc60:fcomp Tryz.prog Tryz.f60 = some (c60.erase,[.mov (.t 2)],89):=by kernel_rfl
def impl_ColumnOK (c_1:GColumn):Option Bool :=
    (((impl_NameOK c_1.Name).bind fun r_12 =>
    if (!r_12) then
    some true
    else
    (impl_within c_1.Min 0 1).bind fun r_15 =>
    if (!r_15) then
    some true
    else
    (impl_within c_1.Max 1 8).bind fun r_18 =>
    some (!r_18):Option Bool)).bind fun s18_10 =>
    if s18_10 then
    some false
    else
    if (c_1.Kind == 1) then
    (impl_isNumber c_1.Low).bind fun r_22 =>
    if r_22 then
    (impl_isNumber c_1.High).bind fun r_25 =>
    some (bif (bif (bif r_25 then (decide (c_1.Low ≤ c_1.High)) else false) then (c_1.Ref == []) else false) then (!c_1.Strong) else false)
    else
    some false
    else
    ((if (c_1.Kind == 2) then
    some true
    else
    some (c_1.Kind == 3):Option Bool)).bind fun s48_28 =>
    if s48_28 then
    some (bif (bif (bif (c_1.Low == 0) then (c_1.High == 0) else false) then (c_1.Ref == []) else false) then (!c_1.Strong) else false)
    else
    if (c_1.Kind == 4) then
    if (bif (c_1.Low == 0) then (c_1.High == 0) else false) then
    (impl_NameOK c_1.Ref).bind fun r_34 =>
    some (bif r_34 then (c_1.Min == 0) else false)
    else
    some false
    else
    some false
theorem w_impl_ColumnOK (c_1:GColumn) (r:Bool) (hf:impl_ColumnOK c_1 = some r):CallOK Tryz.prog 60 .flat [(encGColumn c_1)] (.bool r):=by
 refine CallOK.of_awp mixed Tryz.func60 fc60 nle ?_;rw [argT_eq];unfold impl_ColumnOK at hf;unfold c60;refine (show awp Tryz.prog false 0 _ (ofL [(0,(encGColumn c_1))]) [] _ from ?_);refine sr<|s_do (o_box (j:=0) (c:=(.agg [(.str c_1.Name),(.int .i64 c_1.Kind),(.int .i64 c_1.Min),(.int .i64 c_1.Max),(.int .i64 c_1.Low),(.int .i64 c_1.High),(.str c_1.Ref),(.bool c_1.Strong)])) rfl trivial rfl rfl)<|s_mov (.bool false) rfl<|dk<|awp_seq<|awp_seq<|?_
 obtain ⟨s18_10,hb1,hf⟩:=ob hf
 refine awp_cut ([(1,(.ptr 0 0 0)),(18,(.bool s18_10))],[.box 8 (.agg [(.str c_1.Name),(.int .i64 c_1.Kind),(.int .i64 c_1.Min),(.int .i64 c_1.Max),(.int .i64 c_1.Low),(.int .i64 c_1.High),(.str c_1.Ref),(.bool c_1.Strong)])]) ?_ ?_
 ·refine w_reg<|s_q (.ptr 0 0 0) rfl trivial rfl<|s_q (.str c_1.Name) rfl nle rfl<|?_
  obtain ⟨r_12,er13,hb1⟩:=ob hb1
  refine s_do (o_call (w_impl_NameOK _ _ er13) rfl (.refl _) rfl)<|s_q (.bool (!r_12)) rfl trivial rfl<|s_mov (.bool (!r_12)) rfl<|?_
  rcases oi hb1 with ⟨c14,hb1⟩ | ⟨c14,hb1⟩
  ·refine s_lit (s:=7) (b:=true) rfl c14<|s_off rfl rfl<|s_off rfl rfl<|s_off rfl rfl<|s_off rfl rfl<|s_q (.bool true) rfl trivial rfl<|s_mov (.bool true) rfl<|s_off rfl rfl<|s_off rfl rfl<|s_off rfl rfl<|s_off rfl rfl<|s_q (.bool true) rfl trivial rfl<|w_done<|?_;obtain rfl:=os hb1;exact ⟨[],[0],_,_,rfl,rfl,⟨.refl _,⟨.refl _,trivial⟩⟩,(.refl _)⟩
  ·refine s_lit (s:=7) (b:=false) rfl (bf c14)<|s_on rfl<|s_q (.ptr 0 0 2) rfl trivial rfl<|s_on rfl<|s_q (.int .i64 c_1.Min) rfl nle rfl<|s_on rfl<|?_
   obtain ⟨r_15,er16,hb1⟩:=ob hb1
   refine s_do (o_call (w_impl_within _ _ _ _ er16) rfl (.refl _) rfl)<|s_on rfl<|s_q (.bool (!r_15)) rfl trivial rfl<|s_q (.bool (!r_15)) rfl trivial rfl<|s_mov (.bool (!r_15)) rfl<|?_
   rcases oi hb1 with ⟨c17,hb1⟩ | ⟨c17,hb1⟩
   ·refine s_lit (s:=13) (b:=true) rfl c17<|s_off rfl rfl<|s_off rfl rfl<|s_off rfl rfl<|s_off rfl rfl<|s_q (.bool true) rfl trivial rfl<|w_done<|?_;obtain rfl:=os hb1;exact ⟨[],[0],_,_,rfl,rfl,⟨.refl _,⟨.refl _,trivial⟩⟩,(.refl _)⟩
   ·refine s_lit (s:=13) (b:=false) rfl (bf c17)<|s_on rfl<|s_q (.ptr 0 0 3) rfl trivial rfl<|s_on rfl<|s_q (.int .i64 c_1.Max) rfl nle rfl<|s_on rfl<|?_
    obtain ⟨r_18,er19,hb1⟩:=ob hb1
    refine s_do (o_call (w_impl_within _ _ _ _ er19) rfl (.refl _) rfl)<|s_on rfl<|s_q (.bool (!r_18)) rfl trivial rfl<|s_q (.bool (!r_18)) rfl trivial rfl<|w_done<|?_;obtain rfl:=os hb1;exact ⟨[],[0],_,_,rfl,rfl,⟨.refl _,⟨.refl _,trivial⟩⟩,(.refl _)⟩
 ·rcases oi hf with ⟨c20,hf⟩ | ⟨c20,hf⟩
  ·refine w_condt rfl c20<|sr<|s_mov (.bool false) rfl<|dk<|w_ret<|?_;obtain rfl:=os hf;exact r_flat ⟨trivial,trivial⟩ rfl (.refl _)
  ·refine w_condf rfl (bf c20)<|w_skip<|k_seq<|awp_seq<|sr<|s_q (.ptr 0 0 1) rfl trivial rfl<|s_q (.int .i64 c_1.Kind) rfl nle rfl<|dk<|w_blk<|sr<|s_q (.bool (c_1.Kind == 1)) rfl rfl rfl<|s_mov (.bool (c_1.Kind == 1)) rfl<|dk<|?_
   rcases oi hf with ⟨c21,hf⟩ | ⟨c21,hf⟩
   ·refine w_condt rfl c21<|sr<|s_q (.ptr 0 0 4) rfl trivial rfl<|s_q (.int .i64 c_1.Low) rfl nle rfl<|?_
    obtain ⟨r_22,er23,hf⟩:=ob hf
    refine s_do (o_call (w_impl_isNumber _ _ er23) rfl (.refl _) rfl)<|s_mov (.bool r_22) rfl<|?_
    rcases oi hf with ⟨c24,hf⟩ | ⟨c24,hf⟩
    ·refine s_lit (s:=26) (b:=true) rfl c24<|s_on rfl<|s_q (.ptr 0 0 5) rfl trivial rfl<|s_on rfl<|s_q (.int .i64 c_1.High) rfl nle rfl<|s_on rfl<|?_
     obtain ⟨r_25,er26,hf⟩:=ob hf
     refine s_do (o_call (w_impl_isNumber _ _ er26) rfl (.refl _) rfl)<|s_q (.bool r_25) rfl trivial rfl<|s_mov (.bool r_25) rfl<|?_;refine s_g (v:=r_25) (.ptr 0 0 4) rfl (fun hv => by (try simp only [gs_on hv]);exact ⟨rfl,trivial,rfl⟩) ?_;refine s_g (v:=r_25) (.int .i64 c_1.Low) rfl (fun hv => by (try simp only [gs_on hv]);exact ⟨rfl,nle,rfl⟩) ?_;refine s_g (v:=r_25) (.ptr 0 0 5) rfl (fun hv => by (try simp only [gs_on hv]);exact ⟨rfl,trivial,rfl⟩) ?_;refine s_g (v:=r_25) (.int .i64 c_1.High) rfl (fun hv => by (try simp only [gs_on hv]);exact ⟨rfl,nle,rfl⟩) ?_;refine s_g (v:=r_25) (.bool (decide (c_1.Low ≤ c_1.High))) rfl (fun hv => by (try simp only [gs_on hv]);exact ⟨rfl,rfl,rfl⟩) ?_
     refine s_pick (x:=(decide (c_1.Low ≤ c_1.High))) (y:=false) rfl (fun hv => by (try simp only [gs_on hv]);rfl) (fun hv => by (try simp only [gs_on hv]);rfl) ?_;refine s_mov (.bool (bif r_25 then (decide (c_1.Low ≤ c_1.High)) else false)) rfl ?_;refine s_g (v:=(bif r_25 then (decide (c_1.Low ≤ c_1.High)) else false)) (.ptr 0 0 6) rfl (fun hv => by (try simp only [gs_on hv]);exact ⟨rfl,trivial,rfl⟩) ?_;refine s_g (v:=(bif r_25 then (decide (c_1.Low ≤ c_1.High)) else false)) (.str c_1.Ref) rfl (fun hv => by (try simp only [gs_on hv]);exact ⟨rfl,nle,rfl⟩) ?_;refine s_g (v:=(bif r_25 then (decide (c_1.Low ≤ c_1.High)) else false)) (.bool (c_1.Ref == [])) rfl (fun hv => by (try simp only [gs_on hv]);exact ⟨rfl,trivial,rfl⟩) ?_
     refine s_pick (x:=(c_1.Ref == [])) (y:=false) rfl (fun hv => by (try simp only [gs_on hv]);rfl) (fun hv => by (try simp only [gs_on hv]);rfl) ?_;refine s_mov (.bool (bif (bif r_25 then (decide (c_1.Low ≤ c_1.High)) else false) then (c_1.Ref == []) else false)) rfl ?_;refine s_g (v:=(bif (bif r_25 then (decide (c_1.Low ≤ c_1.High)) else false) then (c_1.Ref == []) else false)) (.ptr 0 0 7) rfl (fun hv => by (try simp only [gs_on hv]);exact ⟨rfl,trivial,rfl⟩) ?_;refine s_g (v:=(bif (bif r_25 then (decide (c_1.Low ≤ c_1.High)) else false) then (c_1.Ref == []) else false)) (.bool c_1.Strong) rfl (fun hv => by (try simp only [gs_on hv]);exact ⟨rfl,nle,rfl⟩) ?_;refine s_g (v:=(bif (bif r_25 then (decide (c_1.Low ≤ c_1.High)) else false) then (c_1.Ref == []) else false)) (.bool (!c_1.Strong)) rfl (fun hv => by (try simp only [gs_on hv]);exact ⟨rfl,trivial,rfl⟩) ?_
     refine s_pick (x:=(!c_1.Strong)) (y:=false) rfl (fun hv => by (try simp only [gs_on hv]);rfl) (fun hv => by (try simp only [gs_on hv]);rfl) ?_;refine s_mov (.bool (bif (bif (bif r_25 then (decide (c_1.Low ≤ c_1.High)) else false) then (c_1.Ref == []) else false) then (!c_1.Strong) else false)) rfl<|dk<|w_ret<|?_;obtain rfl:=os hf;exact r_flat ⟨trivial,trivial⟩ rfl (.refl _)
    ·refine s_lit (s:=26) (b:=false) rfl (bf c24)<|s_off rfl rfl<|s_off rfl rfl<|s_off rfl rfl<|s_q (.bool false) rfl trivial rfl<|s_mov (.bool false) rfl<|s_off rfl rfl<|s_off rfl rfl<|s_off rfl rfl<|s_off rfl rfl<|s_off rfl rfl<|s_q (.bool false) rfl trivial rfl<|s_mov (.bool false) rfl<|s_off rfl rfl<|s_off rfl rfl<|s_off rfl rfl<|s_q (.bool false) rfl trivial rfl<|s_mov (.bool false) rfl<|s_off rfl rfl<|s_off rfl rfl<|s_off rfl rfl<|s_q (.bool false) rfl trivial rfl<|s_mov (.bool false) rfl<|dk<|w_ret<|?_;obtain rfl:=os hf;exact r_flat ⟨trivial,trivial⟩ rfl (.refl _)
   ·refine w_condf rfl (bf c21)<|awp_seq<|?_
    obtain ⟨s48_28,hb1,hf⟩:=ob hf
    refine awp_cut ([(1,(.ptr 0 0 0)),(20,(.int .i64 c_1.Kind)),(48,(.bool s48_28))],[.box 8 (.agg [(.str c_1.Name),(.int .i64 c_1.Kind),(.int .i64 c_1.Min),(.int .i64 c_1.Max),(.int .i64 c_1.Low),(.int .i64 c_1.High),(.str c_1.Ref),(.bool c_1.Strong)])]) ?_ ?_
    ·refine sr<|s_q (.bool (c_1.Kind == 2)) rfl rfl rfl<|s_mov (.bool (c_1.Kind == 2)) rfl<|dk<|?_
     rcases oi hb1 with ⟨c30,hb1⟩ | ⟨c30,hb1⟩
     ·refine w_condt rfl c30<|w_skip<|?_;obtain rfl:=os hb1;exact ⟨[],[0],_,_,rfl,rfl,⟨.refl _,⟨.refl _,⟨.refl _,trivial⟩⟩⟩,(.refl _)⟩
     ·refine w_condf rfl (bf c30)<|w_reg<|s_q (.bool (c_1.Kind == 3)) rfl rfl rfl<|s_mov (.bool (c_1.Kind == 3)) rfl<|w_done<|?_;obtain rfl:=os hb1;exact ⟨[],[0],_,_,rfl,rfl,⟨.refl _,⟨.refl _,⟨.refl _,trivial⟩⟩⟩,(.refl _)⟩
    ·rcases oi hf with ⟨c31,hf⟩ | ⟨c31,hf⟩
     ·refine w_condt rfl c31<|sr<|s_q (.ptr 0 0 4) rfl trivial rfl<|s_q (.int .i64 c_1.Low) rfl nle rfl<|s_q (.bool (c_1.Low == 0)) rfl rfl rfl<|s_mov (.bool (c_1.Low == 0)) rfl<|?_;refine s_g (v:=(c_1.Low == 0)) (.ptr 0 0 5) rfl (fun hv => by (try simp only [gs_on hv]);exact ⟨rfl,trivial,rfl⟩) ?_;refine s_g (v:=(c_1.Low == 0)) (.int .i64 c_1.High) rfl (fun hv => by (try simp only [gs_on hv]);exact ⟨rfl,nle,rfl⟩) ?_;refine s_g (v:=(c_1.Low == 0)) (.bool (c_1.High == 0)) rfl (fun hv => by (try simp only [gs_on hv]);exact ⟨rfl,rfl,rfl⟩) ?_;refine s_pick (x:=(c_1.High == 0)) (y:=false) rfl (fun hv => by (try simp only [gs_on hv]);rfl) (fun hv => by (try simp only [gs_on hv]);rfl) ?_
      refine s_mov (.bool (bif (c_1.Low == 0) then (c_1.High == 0) else false)) rfl ?_;refine s_g (v:=(bif (c_1.Low == 0) then (c_1.High == 0) else false)) (.ptr 0 0 6) rfl (fun hv => by (try simp only [gs_on hv]);exact ⟨rfl,trivial,rfl⟩) ?_;refine s_g (v:=(bif (c_1.Low == 0) then (c_1.High == 0) else false)) (.str c_1.Ref) rfl (fun hv => by (try simp only [gs_on hv]);exact ⟨rfl,nle,rfl⟩) ?_;refine s_g (v:=(bif (c_1.Low == 0) then (c_1.High == 0) else false)) (.bool (c_1.Ref == [])) rfl (fun hv => by (try simp only [gs_on hv]);exact ⟨rfl,trivial,rfl⟩) ?_;refine s_pick (x:=(c_1.Ref == [])) (y:=false) rfl (fun hv => by (try simp only [gs_on hv]);rfl) (fun hv => by (try simp only [gs_on hv]);rfl) ?_
      refine s_mov (.bool (bif (bif (c_1.Low == 0) then (c_1.High == 0) else false) then (c_1.Ref == []) else false)) rfl ?_;refine s_g (v:=(bif (bif (c_1.Low == 0) then (c_1.High == 0) else false) then (c_1.Ref == []) else false)) (.ptr 0 0 7) rfl (fun hv => by (try simp only [gs_on hv]);exact ⟨rfl,trivial,rfl⟩) ?_;refine s_g (v:=(bif (bif (c_1.Low == 0) then (c_1.High == 0) else false) then (c_1.Ref == []) else false)) (.bool c_1.Strong) rfl (fun hv => by (try simp only [gs_on hv]);exact ⟨rfl,nle,rfl⟩) ?_;refine s_g (v:=(bif (bif (c_1.Low == 0) then (c_1.High == 0) else false) then (c_1.Ref == []) else false)) (.bool (!c_1.Strong)) rfl (fun hv => by (try simp only [gs_on hv]);exact ⟨rfl,trivial,rfl⟩) ?_
      refine s_pick (x:=(!c_1.Strong)) (y:=false) rfl (fun hv => by (try simp only [gs_on hv]);rfl) (fun hv => by (try simp only [gs_on hv]);rfl) ?_;refine s_mov (.bool (bif (bif (bif (c_1.Low == 0) then (c_1.High == 0) else false) then (c_1.Ref == []) else false) then (!c_1.Strong) else false)) rfl<|dk<|w_ret<|?_;obtain rfl:=os hf;exact r_flat ⟨trivial,trivial⟩ rfl (.refl _)
     ·refine w_condf rfl (bf c31)<|sr<|s_q (.bool (c_1.Kind == 4)) rfl rfl rfl<|s_mov (.bool (c_1.Kind == 4)) rfl<|dk<|?_
      rcases oi hf with ⟨c32,hf⟩ | ⟨c32,hf⟩
      ·refine w_condt rfl c32<|sr<|s_q (.ptr 0 0 4) rfl trivial rfl<|s_q (.int .i64 c_1.Low) rfl nle rfl<|s_q (.bool (c_1.Low == 0)) rfl rfl rfl<|s_mov (.bool (c_1.Low == 0)) rfl<|?_;refine s_g (v:=(c_1.Low == 0)) (.ptr 0 0 5) rfl (fun hv => by (try simp only [gs_on hv]);exact ⟨rfl,trivial,rfl⟩) ?_;refine s_g (v:=(c_1.Low == 0)) (.int .i64 c_1.High) rfl (fun hv => by (try simp only [gs_on hv]);exact ⟨rfl,nle,rfl⟩) ?_;refine s_g (v:=(c_1.Low == 0)) (.bool (c_1.High == 0)) rfl (fun hv => by (try simp only [gs_on hv]);exact ⟨rfl,rfl,rfl⟩) ?_;refine s_pick (x:=(c_1.High == 0)) (y:=false) rfl (fun hv => by (try simp only [gs_on hv]);rfl) (fun hv => by (try simp only [gs_on hv]);rfl) ?_
       refine s_mov (.bool (bif (c_1.Low == 0) then (c_1.High == 0) else false)) rfl ?_
       rcases oi hf with ⟨c33,hf⟩ | ⟨c33,hf⟩
       ·refine s_lit (s:=79) (b:=true) rfl c33<|s_on rfl<|s_q (.ptr 0 0 6) rfl trivial rfl<|s_on rfl<|s_q (.str c_1.Ref) rfl nle rfl<|s_on rfl<|?_
        obtain ⟨r_34,er35,hf⟩:=ob hf
        refine s_do (o_call (w_impl_NameOK _ _ er35) rfl (.refl _) rfl)<|s_q (.bool r_34) rfl trivial rfl<|s_mov (.bool r_34) rfl<|?_;refine s_g (v:=r_34) (.ptr 0 0 2) rfl (fun hv => by (try simp only [gs_on hv]);exact ⟨rfl,trivial,rfl⟩) ?_;refine s_g (v:=r_34) (.int .i64 c_1.Min) rfl (fun hv => by (try simp only [gs_on hv]);exact ⟨rfl,nle,rfl⟩) ?_;refine s_g (v:=r_34) (.bool (c_1.Min == 0)) rfl (fun hv => by (try simp only [gs_on hv]);exact ⟨rfl,rfl,rfl⟩) ?_;refine s_pick (x:=(c_1.Min == 0)) (y:=false) rfl (fun hv => by (try simp only [gs_on hv]);rfl) (fun hv => by (try simp only [gs_on hv]);rfl) ?_;refine s_mov (.bool (bif r_34 then (c_1.Min == 0) else false)) rfl<|dk<|w_ret<|?_;obtain rfl:=os hf
        exact r_flat ⟨trivial,trivial⟩ rfl (.refl _)
       ·refine s_lit (s:=79) (b:=false) rfl (bf c33)<|s_off rfl rfl<|s_off rfl rfl<|s_off rfl rfl<|s_q (.bool false) rfl trivial rfl<|s_mov (.bool false) rfl<|s_off rfl rfl<|s_off rfl rfl<|s_off rfl rfl<|s_q (.bool false) rfl trivial rfl<|s_mov (.bool false) rfl<|dk<|w_ret<|?_;obtain rfl:=os hf;exact r_flat ⟨trivial,trivial⟩ rfl (.refl _)
      ·refine w_condf rfl (bf c32)<|w_skip<|k_blk<|k_seq<|sr<|s_mov (.bool false) rfl<|dk<|w_ret<|?_;obtain rfl:=os hf;exact r_flat ⟨trivial,trivial⟩ rfl (.refl _)

/- slices.IndexFunc[[]impl.Column,impl.Column] -/
def c150:ACode :=
 (.seq (.reg (tm 4 (.c (.int .i64 0)) .done))
 (.seq (.seq (.reg (tm 6 (.t 0) (tq 7 (.len (.t 6)) (tm 8 (.c (.int .i64 0)) .done))))
 (.block 0 (.loop (.seq (.reg (tq 9 (.bin .lss (.t 8) (.t 7)) .done))
 (.seq (.cond (.t 9) .skip
 (.exit 0))
 (.seq (.block 1 (.seq (.reg (tm 10 (.t 8) (tm 5 (.t 10) .done)))
 (.seq (.reg (tm 11 (.t 1) (tm 12 (.t 0) (tm 13 (.t 5) (tq 14 (.iaddr 8 (.t 12) (.t 13)) (tq 15 (.load 8 true (.t 14)) (tq 16 (.calv (.t 11) [(.t 15)]) .done)))))))
 (.cond (.t 16) (.seq (.reg (tm 17 (.t 5) (tm 4 (.t 17) .done)))
 .ret)
 .skip))))
 (.reg (tq 18 (.bin .add (.t 8) (.c (.int .i64 1))) (tm 8 (.t 18) .done)))))))))
 (.cut (.seq (.reg (tq 4 (.mov (.c (.int .i64 (-1)))) .done))
 .ret))))
theorem fc150:fcomp Tryz.prog Tryz.f150 = some (c150.erase,[.mov (.t 4)],19):=by kernel_rfl
def slices_IndexFunc_impl_Column_impl_Column_L1 (f_2:(GColumn → Option Bool)):List GColumn → Nat → Option (Fl Int Unit)
  | [],s8_17 =>
    some (.go ())
  | x_31 :: xs,s8_17 =>
    (f_2 x_31).bind fun r_32 =>
    if r_32 then
    some (.ret (s8_17:Int))
    else
    slices_IndexFunc_impl_Column_impl_Column_L1 f_2 xs (s8_17 + 1)

def slices_IndexFunc_impl_Column_impl_Column (s_1:(List GColumn)) (f_2:(GColumn → Option Bool)):Option Int :=
    (slices_IndexFunc_impl_Column_impl_Column_L1 f_2 s_1 0).bind fun q => (match q with
    | .ret r => some r
    | .go _ =>
    some (-1))
theorem w_slices_IndexFunc_impl_Column_impl_Column (s_1:(List GColumn)) (f_2:(GColumn → Option Bool)) (r:Int) (hf:slices_IndexFunc_impl_Column_impl_Column s_1 f_2 = some r) (kf_f_2:Nat) (cf_f_2:List AV) (okf_f_2:okFn Tryz.prog kf_f_2 = true) (hcf_f_2:∀ h p,closeWs h p cf_f_2 = some cf_f_2) (hrf_f_2:∀ f,rens f cf_f_2 = cf_f_2) (hpf_f_2:∀ a0 r,f_2 a0 = some r → CallOK Tryz.prog kf_f_2 .flat ([(encGColumn a0)] ++ cf_f_2) (.bool r)):CallOK Tryz.prog 150 .flat [(.lst 8 (s_1.map encGColumn)),(.fn kf_f_2 cf_f_2)] (.int .i64 r):=by
 refine CallOK.of_awp mixed Tryz.func150 fc150 nle ?_;rw [argT_eq];unfold slices_IndexFunc_impl_Column_impl_Column at hf;unfold c150;refine (show awp Tryz.prog false 0 _ (ofL [(0,(.lst 8 (s_1.map encGColumn))),(1,(.fn kf_f_2 cf_f_2))]) [] _ from ?_);refine sr<|s_mov (.int .i64 0) rfl<|dk<|awp_seq<|sr<|s_mov (.lst 8 (s_1.map encGColumn)) rfl<|s_dof (o_len (enc:=encGColumn) rfl) fun hl3 => s_mov (.int .i64 0) rfl<|dk<|?_
 obtain ⟨p24,hb1,hf⟩:=ob hf
 refine awp_cutx (X:={q:Unit // p24 = .go q}) (fun q => ([],[])) ?_ ?_
 ·refine awp_loop (X:={q:Nat // slices_IndexFunc_impl_Column_impl_Column_L1 f_2 (s_1.drop q) q = some p24}) (fun q => ([(0,(.lst 8 (s_1.map encGColumn))),(1,(.fn kf_f_2 cf_f_2)),(7,(.int .i64 (s_1.length:Int))),(8,(.int .i64 (q.1:Int)))],[])) (fun q => s_1.length - q.1) ⟨0,hb1⟩ ⟨[],[],_,_,rfl,rfl,⟨.refl _,⟨.of_eq (congrArg (AV.fn _) (hrf_f_2 _)),⟨.refl _,⟨.refl _,trivial⟩⟩⟩⟩,(.refl _)⟩ ?_
  rintro ⟨s8_17,hc1⟩
  have hc1:slices_IndexFunc_impl_Column_impl_Column_L1 f_2 (s_1.drop s8_17) s8_17 = some p24:=hc1
  refine (show awp Tryz.prog false 0 _ (ofL [(0,(.lst 8 (s_1.map encGColumn))),(1,(.fn kf_f_2 cf_f_2)),(7,(.int .i64 (s_1.length:Int))),(8,(.int .i64 (s8_17:Int)))]) [] _ from ?_)
  rcases dropc s_1 s8_17 with ⟨hie27,hd30⟩ | ⟨hlt25,x_31,hx26,hd30⟩
  ·rw [hd30,slices_IndexFunc_impl_Column_impl_Column_L1.eq_1] at hc1
   have hq29:=dlf hie27
   refine sr<|s_q (.bool (decide ((s8_17:Int) < (s_1.length:Int)))) rfl rfl rfl<|dk<|awp_seq<|w_condf rfl hq29<|w_exit<|k_seqx<|k_loopx<|k_blkx<|?_;obtain rfl:=os hc1;exact k_cutn ⟨_,rfl⟩ ⟨[],[],_,_,rfl,rfl,trivial,(.refl _)⟩
  ·rw [hd30,slices_IndexFunc_impl_Column_impl_Column_L1.eq_2] at hc1
   have hq29:=dlt hlt25
   refine sr<|s_q (.bool (decide ((s8_17:Int) < (s_1.length:Int)))) rfl rfl rfl<|dk<|awp_seq<|w_condt rfl hq29<|w_skip<|k_seq<|awp_seq<|w_blk<|sr<|s_mov (.int .i64 (s8_17:Int)) rfl<|s_mov (.int .i64 (s8_17:Int)) rfl<|dk<|sr<|?_
   obtain ⟨r_32,er33,hc1⟩:=ob hc1
   refine s_mov (.fn kf_f_2 cf_f_2) rfl<|s_mov (.lst 8 (s_1.map encGColumn)) rfl<|s_mov (.int .i64 (s8_17:Int)) rfl<|s_do (o_iaddrn (enc:=encGColumn) rfl rfl hx26)<|s_q (encGColumn x_31) rfl nle rfl<|s_do (o_calvp (v:=(.bool r_32)) rfl okf_f_2 hcf_f_2 (hpf_f_2 _ _ er33) rfl (.refl _) rfl)<|dk<|?_
   rcases oi hc1 with ⟨c34,hc1⟩ | ⟨c34,hc1⟩
   ·refine w_condt rfl c34<|sr<|s_mov (.int .i64 (s8_17:Int)) rfl<|s_mov (.int .i64 (s8_17:Int)) rfl<|dk<|w_ret<|?_;obtain rfl:=os hc1;obtain rfl:=os hf;exact r_flat ⟨trivial,trivial⟩ rfl (.refl _)
   ·refine w_condf rfl (bf c34)<|w_skip<|k_blk<|k_seq<|w_reg<|s_q (.int .i64 (w64 ((s8_17:Int) + 1))) rfl rfl rfl<|s_mov (.int .i64 (w64 ((s8_17:Int) + 1))) rfl<|w_done<|?_;exact k_loopn ⟨(s8_17 + 1),hc1⟩ (mul hlt25) ⟨[],[],_,_,rfl,rfl,⟨.refl _,⟨.of_eq (congrArg (AV.fn _) (hrf_f_2 _)),⟨.refl _,⟨.of_eq (congrArg (AV.int _) (w64_incr hlt25 hl3)),trivial⟩⟩⟩⟩,(.refl _)⟩
 ·rintro ⟨_,rfl⟩
  refine sr<|s_mov (.int .i64 (-1)) rfl<|dk<|w_ret<|?_;obtain rfl:=os hf;exact r_flat ⟨trivial,trivial⟩ rfl (.refl _)

/- (impl.Table).columnAt$1 -/
def c186:ACode :=
 (.seq (.reg (tq 2 (.box 8 (.t 0)) (tm 3 (.c (.bool false)) .done)))
 (.seq (.reg (tq 4 (.faddr 0 (.t 2)) (tq 5 (.load 1 false (.t 4)) (tq 6 (.load 1 false (.t 1)) (tq 7 (.bin .eql (.t 5) (.t 6)) (tm 3 (.t 7) .done))))))
 .ret))
theorem fc186:fcomp Tryz.prog Tryz.f186 = some (c186.erase,[.mov (.t 3)],8):=by kernel_rfl
def impl_Table_columnAt_1 (c_1:GColumn) (cap_2:Str):Option Bool :=
    some (c_1.Name == cap_2)
theorem w_impl_Table_columnAt_1 (c_1:GColumn) (cap_2:Str) (r:Bool) (hf:impl_Table_columnAt_1 c_1 cap_2 = some r):CallOK Tryz.prog 186 .flat [(encGColumn c_1),(.iptr (.str cap_2) 0)] (.bool r):=by
  refine CallOK.of_awp mixed Tryz.func186 fc186 nle ?_
  rw [argT_eq]
  unfold impl_Table_columnAt_1 at hf
  unfold c186
  refine (show awp Tryz.prog false 0 _ (ofL [(0,(encGColumn c_1)),(1,(.iptr (.str cap_2) 0))]) [] _ from ?_)
  refine awp_seq ?_
  refine w_reg ?_
  refine s_do (o_box (j:=0) (c:=(.agg [(.str c_1.Name),(.int .i64 c_1.Kind),(.int .i64 c_1.Min),(.int .i64 c_1.Max),(.int .i64 c_1.Low),(.int .i64 c_1.High),(.str c_1.Ref),(.bool c_1.Strong)])) rfl trivial rfl rfl) ?_
  refine s_do (o_mov (.bool false) rfl) ?_
  refine w_done ?_
  refine k_seq ?_
  refine awp_seq ?_
  refine w_reg ?_
  refine s_do (o_q (.ptr 0 0 0) rfl trivial rfl) ?_
  refine s_do (o_q (.str c_1.Name) rfl nle rfl) ?_
  refine s_do (o_q (.str cap_2) rfl ⟨rfl,rfl⟩ rfl) ?_
  refine s_do (o_q (.bool (c_1.Name == cap_2)) rfl trivial rfl) ?_
  refine s_do (o_mov (.bool (c_1.Name == cap_2)) rfl) ?_
  refine w_done ?_
  refine k_seq ?_
  refine w_ret ?_
  obtain rfl:=os hf
  exact r_flat ⟨trivial,trivial⟩ rfl (.refl _)

/- (impl.Table).columnAt -/
def c136:ACode :=
 (.seq (.reg (tq 2 (.box 4 (.t 0)) (tq 3 (.box 1 (.t 1)) (tm 4 (.c (.int .i64 0)) .done))))
 (.seq (.reg (tq 5 (.faddr 1 (.t 2)) (tq 6 (.load 1 false (.t 5)) (tq 7 (.mkfn 186 [(.t 3)]) (tq 8 (.call 150 [(.t 6),(.t 7)]) (tm 4 (.t 8) .done))))))
 .ret))
theorem fc136:fcomp Tryz.prog Tryz.f136 = some (c136.erase,[.mov (.t 4)],9):=by kernel_rfl
def impl_Table_columnAt (t_1:GTable) (name_2:Str):Option Int :=
    (slices_IndexFunc_impl_Column_impl_Column t_1.Columns (fun a0 => impl_Table_columnAt_1 a0 name_2)).bind fun r_3 =>
    some r_3
theorem w_impl_Table_columnAt (t_1:GTable) (name_2:Str) (r:Int) (hf:impl_Table_columnAt t_1 name_2 = some r):CallOK Tryz.prog 136 .flat [(encGTable t_1),(.str name_2)] (.int .i64 r):=by
  refine CallOK.of_awp mixed Tryz.func136 fc136 nle ?_
  rw [argT_eq]
  unfold impl_Table_columnAt at hf
  unfold c136
  refine (show awp Tryz.prog false 0 _ (ofL [(0,(encGTable t_1)),(1,(.str name_2))]) [] _ from ?_)
  refine awp_seq ?_
  refine w_reg ?_
  refine s_do (o_box (j:=0) (c:=(.agg [(.str t_1.Name),(.lst 8 (t_1.Columns.map encGColumn)),(.lst 1 (t_1.Unique.map encI)),(.bool t_1.Root)])) rfl trivial rfl rfl) ?_
  refine s_do (o_box (j:=1) (c:=(.str name_2)) rfl trivial rfl rfl) ?_
  refine s_do (o_mov (.int .i64 0) rfl) ?_
  refine w_done ?_
  refine k_seq ?_
  refine awp_seq ?_
  refine w_reg ?_
  obtain ⟨r_3,er4,hf⟩:=ob hf
  refine s_do (o_q (.ptr 0 0 1) rfl trivial rfl) ?_
  refine s_do (o_q (.lst 8 (t_1.Columns.map encGColumn)) rfl nle rfl) ?_
  refine s_do (o_q (.fn 186 [(.ptr 1 0 0)]) rfl trivial rfl) ?_
  refine s_do (o_call (w_slices_IndexFunc_impl_Column_impl_Column _ _ _ er4 186 [(.iptr (.str name_2) 0)] (by kernel_rfl) (fun _ _ => rfl) (fun _ => rfl) (fun a0 r h => w_impl_Table_columnAt_1 a0 name_2 r h)) rfl (.refl _) rfl) ?_
  refine s_do (o_mov (.int .i64 r_3) rfl) ?_
  refine w_done ?_
  refine k_seq ?_
  refine w_ret ?_
  obtain rfl:=os hf
  exact r_flat ⟨trivial,trivial⟩ rfl (.refl _)

/- impl.isTable -/
def c72:ACode :=
 (.seq (.reg (tq 1 (.box 4 (.t 0)) (tm 2 (.c (.bool false)) .done)))
 (.seq (.seq (.reg (tq 7 (.faddr 0 (.t 1)) (tq 8 (.load 1 false (.t 7)) (tq 9 (.call 46 [(.t 8)]) (tq 10 (.not (.t 9)) (tm 11 (.t 10) (tg 12 11 false (.faddr 1 (.t 1)) (tg 13 11 false (.load 1 false (.t 12)) (tg 14 11 false (.len (.t 13)) (tg 15 11 false (.call 43 [(.t 14),(.c (.int .i64 1)),(.c (.int .i64 6))]) (tg 16 11 false (.not (.t 15)) (tq 17 (.pick (.t 11) (.c (.bool true)) (.t 16)) (tm 18 (.t 17) (tg 19 18 false (.faddr 2 (.t 1)) (tg 20 18 false (.load 1 false (.t 19)) (tg 21 18 false (.len (.t 20)) (tg 22 18 false (.faddr 1 (.t 1)) (tg 23 18 false (.load 1 false (.t 22)) (tg 24 18 false (.len (.t 23)) (tg 25 18 false (.bin .gtr (.t 21) (.t 24)) (tq 26 (.pick (.t 18) (.c (.bool true)) (.t 25)) .done)))))))))))))))))))))
 (.cut (.cond (.t 26) (.seq (.reg (tm 2 (.c (.bool false)) .done))
 .ret)
 .skip)))
 (.seq (.seq (.reg (tq 27 (.faddr 1 (.t 1)) (tq 28 (.load 1 false (.t 27)) (tq 29 (.len (.t 28)) (tm 30 (.c (.int .i64 0)) .done)))))
 (.block 0 (.loop (.seq (.reg (tq 31 (.bin .lss (.t 30) (.t 29)) .done))
 (.seq (.cond (.t 31) .skip
 (.exit 0))
 (.seq (.block 1 (.seq (.reg (tm 32 (.t 30) (tq 33 (.iaddr 8 (.t 28) (.t 30)) (tq 34 (.load 8 true (.t 33)) (tq 4 (.box 8 (.c (.agg [(.str []),(.int .i64 0),(.int .i64 0),(.int .i64 0),(.int .i64 0),(.int .i64 0),(.str []),(.bool false)]))) (tm 3 (.t 32) (.q ⟨none,none,.store 8 (.t 4) (.t 34)⟩
 .done)))))))
 (.seq (.reg (tq 35 (.load 8 true (.t 4)) (tq 36 (.call 60 [(.t 35)]) (tq 37 (.not (.t 36)) (tm 38 (.t 37) (tg 39 38 false (.load 4 true (.t 1)) (tg 40 38 false (.faddr 0 (.t 4)) (tg 41 38 false (.load 1 false (.t 40)) (tg 42 38 false (.call 136 [(.t 39),(.t 41)]) (tg 43 38 false (.mov (.t 3)) (tg 44 38 false (.bin .neq (.t 42) (.t 43)) (tq 45 (.pick (.t 38) (.c (.bool true)) (.t 44)) .done))))))))))))
 (.cut (.cond (.t 45) (.seq (.reg (tm 2 (.c (.bool false)) .done))
 .ret)
 .skip)))))
 (.reg (tq 46 (.bin .add (.t 30) (.c (.int .i64 1))) (tm 30 (.t 46) .done)))))))))
 (.cut (.seq (.seq (.reg (tq 47 (.faddr 2 (.t 1)) (tq 48 (.load 1 false (.t 47)) (tq 49 (.len (.t 48)) (tm 50 (.c (.int .i64 0)) .done)))))
 (.block 2 (.loop (.seq (.reg (tq 51 (.bin .lss (.t 50) (.t 49)) .done))
 (.seq (.cond (.t 51) .skip
 (.exit 2))
 (.seq (.block 3 (.seq (.reg (tm 52 (.t 50) (tq 53 (.iaddr 1 (.t 48) (.t 50)) (tq 54 (.load 1 false (.t 53)) (tm 5 (.t 52) (tm 6 (.t 54) .done))))))
 (.seq (.reg (tm 55 (.t 6) (tq 56 (.faddr 1 (.t 1)) (tq 57 (.load 1 false (.t 56)) (tq 58 (.len (.t 57)) (tq 59 (.bin .sub (.t 58) (.c (.int .i64 1))) (tq 60 (.call 43 [(.t 55),(.c (.int .i64 0)),(.t 59)]) (tq 61 (.not (.t 60)) (tm 62 (.t 61) (tg 63 62 false (.mov (.t 5)) (tg 64 62 false (.bin .gtr (.t 63) (.c (.int .i64 0))) (tg 65 62 false (.mov (.t 64)) (tg 66 65 true (.faddr 2 (.t 1)) (tg 67 65 true (.load 1 false (.t 66)) (tg 68 65 true (.mov (.t 5)) (tg 69 65 true (.bin .sub (.t 68) (.c (.int .i64 1))) (tg 70 65 true (.iaddr 1 (.t 67) (.t 69)) (tg 71 65 true (.load 1 false (.t 70)) (tg 72 65 true (.mov (.t 6)) (tg 73 65 true (.bin .geq (.t 71) (.t 72)) (tg 74 62 false (.pick (.t 65) (.t 73) (.c (.bool false))) (tq 75 (.pick (.t 62) (.c (.bool true)) (.t 74)) .done))))))))))))))))))))))
 (.cut (.cond (.t 75) (.seq (.reg (tm 2 (.c (.bool false)) .done))
 .ret)
 .skip)))))
 (.reg (tq 76 (.bin .add (.t 50) (.c (.int .i64 1))) (tm 50 (.t 76) .done)))))))))
 (.cut (.seq (.reg (tm 2 (.c (.bool true)) .done))
 .ret)))))))
theorem fc72:fcomp Tryz.prog Tryz.f72 = some (c72.erase,[.mov (.t 2)],77):=by kernel_rfl
def impl_isTable_L1 (t_1:GTable):List GColumn → Nat → Option (Fl Bool Unit)
  | [],s30_57 =>
    some (.go ())
  | x_81 :: xs,s30_57 =>
    (((impl_ColumnOK x_81).bind fun r_89 =>
    if (!r_89) then
    some true
    else
    (impl_Table_columnAt t_1 x_81.Name).bind fun r_92 =>
    some (r_92 != (s30_57:Int)):Option Bool)).bind fun s45_87 =>
    if s45_87 then
    some (.ret false)
    else
    impl_isTable_L1 t_1 xs (s30_57 + 1)

def impl_isTable_L2 (t_1:GTable):List Int → Nat → Option (Fl Bool Unit)
  | [],s50_137 =>
    some (.go ())
  | x_165 :: xs,s50_137 =>
    (((impl_within x_165 0 (w64 ((t_1.Columns.length:Int) - 1))).bind fun r_176 =>
    if (!r_176) then
    some true
    else
    if (decide ((s50_137:Int) > 0)) then
    (idx t_1.Unique (w64 ((s50_137:Int) - 1))).bind fun x_180 =>
    some (decide (x_180 ≥ x_165))
    else
    some false:Option Bool)).bind fun s75_173 =>
    if s75_173 then
    some (.ret false)
    else
    impl_isTable_L2 t_1 xs (s50_137 + 1)

def impl_isTable (t_1:GTable):Option Bool :=
    (((impl_NameOK t_1.Name).bind fun r_13 =>
    if (!r_13) then
    some true
    else
    (impl_within (t_1.Columns.length:Int) 1 6).bind fun r_18 =>
    some (bif (!r_18) then true else (decide ((t_1.Unique.length:Int) > (t_1.Columns.length:Int)))):Option Bool)).bind fun s26_11 =>
    if s26_11 then
    some false
    else
    (impl_isTable_L1 t_1 t_1.Columns 0).bind fun q => (match q with
    | .ret r => some r
    | .go _ =>
    (impl_isTable_L2 t_1 t_1.Unique 0).bind fun q => (match q with
    | .ret r => some r
    | .go _ =>
    some true))
theorem w_impl_isTable (t_1:GTable) (r:Bool) (hf:impl_isTable t_1 = some r):CallOK Tryz.prog 72 .flat [(encGTable t_1)] (.bool r):=by
 refine CallOK.of_awp mixed Tryz.func72 fc72 nle ?_;rw [argT_eq];unfold impl_isTable at hf;unfold c72;refine (show awp Tryz.prog false 0 _ (ofL [(0,(encGTable t_1))]) [] _ from ?_);refine sr<|s_do (o_box (j:=0) (c:=(.agg [(.str t_1.Name),(.lst 8 (t_1.Columns.map encGColumn)),(.lst 1 (t_1.Unique.map encI)),(.bool t_1.Root)])) rfl trivial rfl rfl)<|s_mov (.bool false) rfl<|dk<|awp_seq<|awp_seq<|?_
 obtain ⟨s26_11,hb1,hf⟩:=ob hf
 refine awp_cut ([(1,(.ptr 0 0 0)),(26,(.bool s26_11))],[.box 4 (.agg [(.str t_1.Name),(.lst 8 (t_1.Columns.map encGColumn)),(.lst 1 (t_1.Unique.map encI)),(.bool t_1.Root)])]) ?_ ?_
 ·refine w_reg<|s_q (.ptr 0 0 0) rfl trivial rfl<|s_q (.str t_1.Name) rfl nle rfl<|?_
  obtain ⟨r_13,er14,hb1⟩:=ob hb1
  refine s_do (o_call (w_impl_NameOK _ _ er14) rfl (.refl _) rfl)<|s_q (.bool (!r_13)) rfl trivial rfl<|s_mov (.bool (!r_13)) rfl<|?_
  rcases oi hb1 with ⟨c16,hb1⟩ | ⟨c16,hb1⟩
  ·refine s_lit (s:=11) (b:=true) rfl c16<|s_off rfl rfl<|s_off rfl rfl<|s_off rfl rfl<|s_off rfl rfl<|s_off rfl rfl<|s_q (.bool true) rfl trivial rfl<|s_mov (.bool true) rfl<|s_off rfl rfl<|s_off rfl rfl<|s_off rfl rfl<|s_off rfl rfl<|s_off rfl rfl<|s_off rfl rfl<|s_off rfl rfl<|s_q (.bool true) rfl trivial rfl<|w_done<|?_;obtain rfl:=os hb1;exact ⟨[],[0],_,_,rfl,rfl,⟨.refl _,⟨.refl _,trivial⟩⟩,(.refl _)⟩
  ·refine s_lit (s:=11) (b:=false) rfl (bf c16)<|s_on rfl<|s_q (.ptr 0 0 1) rfl trivial rfl<|s_on rfl<|s_q (.lst 8 (t_1.Columns.map encGColumn)) rfl nle rfl<|s_on rfl<|s_dof (o_len (enc:=encGColumn) rfl) fun hl17 => s_on rfl<|?_
   obtain ⟨r_18,er19,hb1⟩:=ob hb1
   refine s_do (o_call (w_impl_within _ _ _ _ er19) rfl (.refl _) rfl)<|s_on rfl<|s_q (.bool (!r_18)) rfl trivial rfl<|s_q (.bool (!r_18)) rfl trivial rfl<|s_mov (.bool (!r_18)) rfl<|?_;refine s_g (v:=(!r_18)) (.ptr 0 0 2) rfl (fun hv => by (try simp only [gs_on hv]);exact ⟨rfl,trivial,rfl⟩) ?_;refine s_g (v:=(!r_18)) (.lst 1 (t_1.Unique.map encI)) rfl (fun hv => by (try simp only [gs_on hv]);exact ⟨rfl,nle,rfl⟩) ?_;refine s_g (v:=(!r_18)) (.int .i64 (t_1.Unique.length:Int)) rfl (fun hv => by (try simp only [gs_on hv]);exact ⟨rfl,trivial,lenV _ _⟩) ?_;refine s_g (v:=(!r_18)) (.ptr 0 0 1) rfl (fun hv => by (try simp only [gs_on hv]);exact ⟨rfl,trivial,rfl⟩) ?_;refine s_g (v:=(!r_18)) (.lst 8 (t_1.Columns.map encGColumn)) rfl (fun hv => by (try simp only [gs_on hv]);exact ⟨rfl,nle,rfl⟩) ?_
   refine s_g (v:=(!r_18)) (.int .i64 (t_1.Columns.length:Int)) rfl (fun hv => by (try simp only [gs_on hv]);exact ⟨rfl,trivial,lenV _ _⟩) ?_;refine s_g (v:=(!r_18)) (.bool (decide ((t_1.Unique.length:Int) > (t_1.Columns.length:Int)))) rfl (fun hv => by (try simp only [gs_on hv]);exact ⟨rfl,rfl,rfl⟩) ?_;refine s_pick (x:=true) (y:=(decide ((t_1.Unique.length:Int) > (t_1.Columns.length:Int)))) rfl (fun hv => by (try simp only [gs_on hv]);rfl) (fun hv => by (try simp only [gs_on hv]);rfl) ?_;refine w_done ?_;obtain rfl:=os hb1;exact ⟨[],[0],_,_,rfl,rfl,⟨.refl _,⟨.refl _,trivial⟩⟩,(.refl _)⟩
 ·rcases oi hf with ⟨c22,hf⟩ | ⟨c22,hf⟩
  ·refine w_condt rfl c22<|sr<|s_mov (.bool false) rfl<|dk<|w_ret<|?_;obtain rfl:=os hf;exact r_flat ⟨trivial,trivial⟩ rfl (.refl _)
  ·refine w_condf rfl (bf c22)<|w_skip<|k_seq<|awp_seq<|sr<|s_q (.ptr 0 0 1) rfl trivial rfl<|s_q (.lst 8 (t_1.Columns.map encGColumn)) rfl nle rfl<|s_dof (o_len (enc:=encGColumn) rfl) fun hl23 => s_mov (.int .i64 0) rfl<|dk<|?_
   obtain ⟨p74,hb1,hf⟩:=ob hf
   refine awp_cutx (X:={q:Unit // p74 = .go q}) (fun q => ([(1,(.ptr 0 0 0))],[.box 4 (.agg [(.str t_1.Name),(.lst 8 (t_1.Columns.map encGColumn)),(.lst 1 (t_1.Unique.map encI)),(.bool t_1.Root)])])) ?_ ?_
   ·refine awp_loop (X:={q:Nat // impl_isTable_L1 t_1 (t_1.Columns.drop q) q = some p74}) (fun q => ([(1,(.ptr 0 0 0)),(28,(.lst 8 (t_1.Columns.map encGColumn))),(29,(.int .i64 (t_1.Columns.length:Int))),(30,(.int .i64 (q.1:Int)))],[.box 4 (.agg [(.str t_1.Name),(.lst 8 (t_1.Columns.map encGColumn)),(.lst 1 (t_1.Unique.map encI)),(.bool t_1.Root)])])) (fun q => t_1.Columns.length - q.1) ⟨0,hb1⟩ ⟨[],[0],_,_,rfl,rfl,⟨.refl _,⟨.refl _,⟨.refl _,⟨.refl _,trivial⟩⟩⟩⟩,(.refl _)⟩ ?_
    rintro ⟨s30_57,hc1⟩
    have hc1:impl_isTable_L1 t_1 (t_1.Columns.drop s30_57) s30_57 = some p74:=hc1
    refine (show awp Tryz.prog false 0 _ (ofL [(1,(.ptr 0 0 0)),(28,(.lst 8 (t_1.Columns.map encGColumn))),(29,(.int .i64 (t_1.Columns.length:Int))),(30,(.int .i64 (s30_57:Int)))]) [.box 4 (.agg [(.str t_1.Name),(.lst 8 (t_1.Columns.map encGColumn)),(.lst 1 (t_1.Unique.map encI)),(.bool t_1.Root)])] _ from ?_)
    rcases dropc t_1.Columns s30_57 with ⟨hie77,hd80⟩ | ⟨hlt75,x_81,hx76,hd80⟩
    ·rw [hd80,impl_isTable_L1.eq_1] at hc1
     have hq79:=dlf hie77
     refine sr<|s_q (.bool (decide ((s30_57:Int) < (t_1.Columns.length:Int)))) rfl rfl rfl<|dk<|awp_seq<|w_condf rfl hq79<|w_exit<|k_seqx<|k_loopx<|k_blkx<|?_;obtain rfl:=os hc1;exact k_cutn ⟨_,rfl⟩ ⟨[],[0],_,_,rfl,rfl,⟨.refl _,trivial⟩,(.refl _)⟩
    ·rw [hd80,impl_isTable_L1.eq_2] at hc1
     have hq79:=dlt hlt75
     refine sr<|s_q (.bool (decide ((s30_57:Int) < (t_1.Columns.length:Int)))) rfl rfl rfl<|dk<|awp_seq<|w_condt rfl hq79<|w_skip<|k_seq<|awp_seq<|w_blk<|sr<|s_mov (.int .i64 (s30_57:Int)) rfl<|s_do (o_iaddrn (enc:=encGColumn) rfl rfl hx76)<|s_q (encGColumn x_81) rfl nle rfl<|s_do (o_box (j:=1) (c:=(.agg [(.str []),(.int .i64 0),(.int .i64 0),(.int .i64 0),(.int .i64 0),(.int .i64 0),(.str []),(.bool false)])) rfl trivial rfl rfl)<|s_mov (.int .i64 (s30_57:Int)) rfl<|s_do0 (o_storebox (v:=(.agg [(.str x_81.Name),(.int .i64 x_81.Kind),(.int .i64 x_81.Min),(.int .i64 x_81.Max),(.int .i64 x_81.Low),(.int .i64 x_81.High),(.str x_81.Ref),(.bool x_81.Strong)])) (y':=(.agg [(.str x_81.Name),(.int .i64 x_81.Kind),(.int .i64 x_81.Min),(.int .i64 x_81.Max),(.int .i64 x_81.Low),(.int .i64 x_81.High),(.str x_81.Ref),(.bool x_81.Strong)])) rfl rfl rfl trivial ⟨rfl,nle⟩ ⟨⟨rfl,trivial⟩,⟨⟨rfl,trivial⟩,⟨⟨rfl,trivial⟩,⟨⟨rfl,trivial⟩,⟨⟨rfl,trivial⟩,⟨⟨rfl,trivial⟩,⟨⟨rfl,trivial⟩,⟨⟨rfl,trivial⟩,trivial⟩⟩⟩⟩⟩⟩⟩⟩ rfl)<|?_
     refine dk<|awp_seq<|?_
     obtain ⟨s45_87,hb2,hc1⟩:=ob hc1
     refine awp_cut ([(1,(.ptr 0 0 0)),(28,(.lst 8 (t_1.Columns.map encGColumn))),(29,(.int .i64 (t_1.Columns.length:Int))),(30,(.int .i64 (s30_57:Int))),(45,(.bool s45_87))],[.box 4 (.agg [(.str t_1.Name),(.lst 8 (t_1.Columns.map encGColumn)),(.lst 1 (t_1.Unique.map encI)),(.bool t_1.Root)])]) ?_ ?_
     ·refine w_reg ?_
      obtain ⟨r_89,er90,hb2⟩:=ob hb2
      rcases oi hb2 with ⟨c91,hb2⟩ | ⟨c91,hb2⟩
      ·refine s_q (.agg [(.str x_81.Name),(.int .i64 x_81.Kind),(.int .i64 x_81.Min),(.int .i64 x_81.Max),(.int .i64 x_81.Low),(.int .i64 x_81.High),(.str x_81.Ref),(.bool x_81.Strong)]) rfl nle rfl<|s_do (o_call (w_impl_ColumnOK _ _ er90) rfl (.refl _) rfl)<|s_q (.bool (!r_89)) rfl trivial rfl<|s_mov (.bool (!r_89)) rfl<|s_lit (s:=38) (b:=true) rfl c91<|s_off rfl rfl<|s_off rfl rfl<|s_off rfl rfl<|s_off rfl rfl<|s_off rfl rfl<|s_off rfl rfl<|s_q (.bool true) rfl trivial rfl<|w_done<|?_;obtain rfl:=os hb2;exact ⟨[],[0],_,_,rfl,rfl,⟨.refl _,⟨.refl _,⟨.refl _,⟨.refl _,⟨.refl _,trivial⟩⟩⟩⟩⟩,(.refl _)⟩
      ·obtain ⟨r_92,er93,hb2⟩:=ob hb2
       refine s_q (.agg [(.str x_81.Name),(.int .i64 x_81.Kind),(.int .i64 x_81.Min),(.int .i64 x_81.Max),(.int .i64 x_81.Low),(.int .i64 x_81.High),(.str x_81.Ref),(.bool x_81.Strong)]) rfl nle rfl<|s_do (o_call (w_impl_ColumnOK _ _ er90) rfl (.refl _) rfl)<|s_q (.bool (!r_89)) rfl trivial rfl<|s_mov (.bool (!r_89)) rfl<|s_lit (s:=38) (b:=false) rfl (bf c91)<|s_on rfl<|s_q (.agg [(.str t_1.Name),(.lst 8 (t_1.Columns.map encGColumn)),(.lst 1 (t_1.Unique.map encI)),(.bool t_1.Root)]) rfl nle rfl<|s_on rfl<|s_q (.ptr 1 0 0) rfl trivial rfl<|s_on rfl<|s_q (.str x_81.Name) rfl nle rfl<|s_on rfl<|s_do (o_call (w_impl_Table_columnAt _ _ _ er93) rfl (.refl _) rfl)<|s_on rfl<|?_
       refine s_mov (.int .i64 (s30_57:Int)) rfl<|s_on rfl<|s_q (.bool (r_92 != (s30_57:Int))) rfl rfl rfl<|s_q (.bool (r_92 != (s30_57:Int))) rfl trivial rfl<|w_done<|?_;obtain rfl:=os hb2;exact ⟨[],[0],_,_,rfl,rfl,⟨.refl _,⟨.refl _,⟨.refl _,⟨.refl _,⟨.refl _,trivial⟩⟩⟩⟩⟩,(.refl _)⟩
     ·rcases oi hc1 with ⟨c94,hc1⟩ | ⟨c94,hc1⟩
      ·refine w_condt rfl c94<|sr<|s_mov (.bool false) rfl<|dk<|w_ret<|?_;obtain rfl:=os hc1;obtain rfl:=os hf;exact r_flat ⟨trivial,trivial⟩ rfl (.refl _)
      ·refine w_condf rfl (bf c94)<|w_skip<|k_blk<|k_seq<|w_reg<|s_q (.int .i64 (w64 ((s30_57:Int) + 1))) rfl rfl rfl<|s_mov (.int .i64 (w64 ((s30_57:Int) + 1))) rfl<|w_done<|?_;exact k_loopn ⟨(s30_57 + 1),hc1⟩ (mul hlt75) ⟨[],[0],_,_,rfl,rfl,⟨.refl _,⟨.refl _,⟨.refl _,⟨.of_eq (congrArg (AV.int _) (w64_incr hlt75 hl23)),trivial⟩⟩⟩⟩,(.refl _)⟩
   ·rintro ⟨_,rfl⟩
    refine awp_seq<|sr<|s_q (.ptr 0 0 2) rfl trivial rfl<|s_q (.lst 1 (t_1.Unique.map encI)) rfl nle rfl<|s_dof (o_len (enc:=encI) rfl) fun hl95 => s_mov (.int .i64 0) rfl<|dk<|?_
    obtain ⟨p158,hb1,hf⟩:=ob hf
    refine awp_cutx (X:={q:Unit // p158 = .go q}) (fun q => ([],[])) ?_ ?_
    ·refine awp_loop (X:={q:Nat // impl_isTable_L2 t_1 (t_1.Unique.drop q) q = some p158}) (fun q => ([(1,(.ptr 0 0 0)),(48,(.lst 1 (t_1.Unique.map encI))),(49,(.int .i64 (t_1.Unique.length:Int))),(50,(.int .i64 (q.1:Int)))],[.box 4 (.agg [(.str t_1.Name),(.lst 8 (t_1.Columns.map encGColumn)),(.lst 1 (t_1.Unique.map encI)),(.bool t_1.Root)])])) (fun q => t_1.Unique.length - q.1) ⟨0,hb1⟩ ⟨[],[0],_,_,rfl,rfl,⟨.refl _,⟨.refl _,⟨.refl _,⟨.refl _,trivial⟩⟩⟩⟩,(.refl _)⟩ ?_
     rintro ⟨s50_137,hc1⟩
     have hc1:impl_isTable_L2 t_1 (t_1.Unique.drop s50_137) s50_137 = some p158:=hc1
     refine (show awp Tryz.prog false 0 _ (ofL [(1,(.ptr 0 0 0)),(48,(.lst 1 (t_1.Unique.map encI))),(49,(.int .i64 (t_1.Unique.length:Int))),(50,(.int .i64 (s50_137:Int)))]) [.box 4 (.agg [(.str t_1.Name),(.lst 8 (t_1.Columns.map encGColumn)),(.lst 1 (t_1.Unique.map encI)),(.bool t_1.Root)])] _ from ?_)
     rcases dropc t_1.Unique s50_137 with ⟨hie161,hd164⟩ | ⟨hlt159,x_165,hx160,hd164⟩
     ·rw [hd164,impl_isTable_L2.eq_1] at hc1
      have hq163:=dlf hie161
      refine sr<|s_q (.bool (decide ((s50_137:Int) < (t_1.Unique.length:Int)))) rfl rfl rfl<|dk<|awp_seq<|w_condf rfl hq163<|w_exit<|k_seqx<|k_loopx<|k_blkx<|?_;obtain rfl:=os hc1;exact k_cutn ⟨_,rfl⟩ ⟨[],[],_,_,rfl,rfl,trivial,(.refl _)⟩
     ·rw [hd164,impl_isTable_L2.eq_2] at hc1
      have hq163:=dlt hlt159
      refine sr<|s_q (.bool (decide ((s50_137:Int) < (t_1.Unique.length:Int)))) rfl rfl rfl<|dk<|awp_seq<|w_condt rfl hq163<|w_skip<|k_seq<|awp_seq<|w_blk<|sr<|s_mov (.int .i64 (s50_137:Int)) rfl<|s_do (o_iaddrn (enc:=encI) rfl rfl hx160)<|s_q (.int .i64 x_165) rfl ⟨rfl,rfl⟩ rfl<|s_mov (.int .i64 (s50_137:Int)) rfl<|s_mov (.int .i64 x_165) rfl<|dk<|awp_seq<|?_
      obtain ⟨s75_173,hb2,hc1⟩:=ob hc1
      refine awp_cut ([(1,(.ptr 0 0 0)),(48,(.lst 1 (t_1.Unique.map encI))),(49,(.int .i64 (t_1.Unique.length:Int))),(50,(.int .i64 (s50_137:Int))),(75,(.bool s75_173))],[.box 4 (.agg [(.str t_1.Name),(.lst 8 (t_1.Columns.map encGColumn)),(.lst 1 (t_1.Unique.map encI)),(.bool t_1.Root)])]) ?_ ?_
      ·refine w_reg<|s_mov (.int .i64 x_165) rfl<|s_q (.ptr 0 0 1) rfl trivial rfl<|s_q (.lst 8 (t_1.Columns.map encGColumn)) rfl nle rfl<|s_dof (o_len (enc:=encGColumn) rfl) fun hl175 => s_q (.int .i64 (w64 ((t_1.Columns.length:Int) - 1))) rfl rfl rfl<|?_
       obtain ⟨r_176,er177,hb2⟩:=ob hb2
       refine s_do (o_call (w_impl_within _ _ _ _ er177) rfl (.refl _) rfl)<|s_q (.bool (!r_176)) rfl trivial rfl<|s_mov (.bool (!r_176)) rfl<|?_
       rcases oi hb2 with ⟨c178,hb2⟩ | ⟨c178,hb2⟩
       ·refine s_lit (s:=62) (b:=true) rfl c178<|s_off rfl rfl<|s_off rfl rfl<|s_off rfl rfl<|s_offs rfl<|s_offs rfl<|s_offs rfl<|s_offs rfl<|s_offs rfl<|s_offs rfl<|s_offs rfl<|s_offs rfl<|s_off rfl rfl<|s_q (.bool true) rfl trivial rfl<|w_done<|?_;obtain rfl:=os hb2;exact ⟨[],[0],_,_,rfl,rfl,⟨.refl _,⟨.refl _,⟨.refl _,⟨.refl _,⟨.refl _,trivial⟩⟩⟩⟩⟩,(.refl _)⟩
       ·refine s_lit (s:=62) (b:=false) rfl (bf c178)<|s_on rfl<|s_mov (.int .i64 (s50_137:Int)) rfl<|s_on rfl<|s_q (.bool (decide ((s50_137:Int) > 0))) rfl rfl rfl<|s_on rfl<|s_mov (.bool (decide ((s50_137:Int) > 0))) rfl<|?_
        rcases oi hb2 with ⟨c179,hb2⟩ | ⟨c179,hb2⟩
        ·refine s_lit (s:=65) (b:=true) rfl c179<|s_on rfl<|s_q (.ptr 0 0 2) rfl trivial rfl<|s_on rfl<|s_q (.lst 1 (t_1.Unique.map encI)) rfl nle rfl<|s_on rfl<|s_mov (.int .i64 (s50_137:Int)) rfl<|s_on rfl<|s_q (.int .i64 (w64 ((s50_137:Int) - 1))) rfl rfl rfl<|s_on rfl<|?_
         obtain ⟨x_180,ex181,hb2⟩:=ob hb2
         refine s_do (o_iaddr (enc:=encI) rfl rfl (idx0 ex181) (idx1 ex181))<|s_on rfl<|s_q (.int .i64 x_180) rfl ⟨rfl,rfl⟩ rfl<|s_on rfl<|s_mov (.int .i64 x_165) rfl<|s_on rfl<|s_q (.bool (decide (x_180 ≥ x_165))) rfl rfl rfl<|s_on rfl<|s_q (.bool (decide (x_180 ≥ x_165))) rfl trivial rfl<|s_q (.bool (decide (x_180 ≥ x_165))) rfl trivial rfl<|w_done<|?_;obtain rfl:=os hb2;exact ⟨[],[0],_,_,rfl,rfl,⟨.refl _,⟨.refl _,⟨.refl _,⟨.refl _,⟨.refl _,trivial⟩⟩⟩⟩⟩,(.refl _)⟩
        ·refine s_lit (s:=65) (b:=false) rfl (bf c179)<|s_off rfl rfl<|s_off rfl rfl<|s_off rfl rfl<|s_off rfl rfl<|s_off rfl rfl<|s_off rfl rfl<|s_off rfl rfl<|s_off rfl rfl<|s_on rfl<|s_q (.bool false) rfl trivial rfl<|s_q (.bool false) rfl trivial rfl<|w_done<|?_;obtain rfl:=os hb2;exact ⟨[],[0],_,_,rfl,rfl,⟨.refl _,⟨.refl _,⟨.refl _,⟨.refl _,⟨.refl _,trivial⟩⟩⟩⟩⟩,(.refl _)⟩
      ·rcases oi hc1 with ⟨c182,hc1⟩ | ⟨c182,hc1⟩
       ·refine w_condt rfl c182<|sr<|s_mov (.bool false) rfl<|dk<|w_ret<|?_;obtain rfl:=os hc1;obtain rfl:=os hf;exact r_flat ⟨trivial,trivial⟩ rfl (.refl _)
       ·refine w_condf rfl (bf c182)<|w_skip<|k_blk<|k_seq<|w_reg<|s_q (.int .i64 (w64 ((s50_137:Int) + 1))) rfl rfl rfl<|s_mov (.int .i64 (w64 ((s50_137:Int) + 1))) rfl<|w_done<|?_;exact k_loopn ⟨(s50_137 + 1),hc1⟩ (mul hlt159) ⟨[],[0],_,_,rfl,rfl,⟨.refl _,⟨.refl _,⟨.refl _,⟨.of_eq (congrArg (AV.int _) (w64_incr hlt159 hl95)),trivial⟩⟩⟩⟩,(.refl _)⟩
    ·rintro ⟨_,rfl⟩
     refine sr<|s_mov (.bool true) rfl<|dk<|w_ret<|?_;obtain rfl:=os hf;exact r_flat ⟨trivial,trivial⟩ rfl (.refl _)

/- slices.IndexFunc[[]impl.Table,impl.Table] -/
def c149:ACode :=
 (.seq (.reg (tm 4 (.c (.int .i64 0)) .done))
 (.seq (.seq (.reg (tm 6 (.t 0) (tq 7 (.len (.t 6)) (tm 8 (.c (.int .i64 0)) .done))))
 (.block 0 (.loop (.seq (.reg (tq 9 (.bin .lss (.t 8) (.t 7)) .done))
 (.seq (.cond (.t 9) .skip
 (.exit 0))
 (.seq (.block 1 (.seq (.reg (tm 10 (.t 8) (tm 5 (.t 10) .done)))
 (.seq (.reg (tm 11 (.t 1) (tm 12 (.t 0) (tm 13 (.t 5) (tq 14 (.iaddr 4 (.t 12) (.t 13)) (tq 15 (.load 4 true (.t 14)) (tq 16 (.calv (.t 11) [(.t 15)]) .done)))))))
 (.cond (.t 16) (.seq (.reg (tm 17 (.t 5) (tm 4 (.t 17) .done)))
 .ret)
 .skip))))
 (.reg (tq 18 (.bin .add (.t 8) (.c (.int .i64 1))) (tm 8 (.t 18) .done)))))))))
 (.cut (.seq (.reg (tq 4 (.mov (.c (.int .i64 (-1)))) .done))
 .ret))))
theorem fc149:fcomp Tryz.prog Tryz.f149 = some (c149.erase,[.mov (.t 4)],19):=by kernel_rfl
def slices_IndexFunc_impl_Table_impl_Table_L1 (f_2:(GTable → Option Bool)):List GTable → Nat → Option (Fl Int Unit)
  | [],s8_17 =>
    some (.go ())
  | x_31 :: xs,s8_17 =>
    (f_2 x_31).bind fun r_32 =>
    if r_32 then
    some (.ret (s8_17:Int))
    else
    slices_IndexFunc_impl_Table_impl_Table_L1 f_2 xs (s8_17 + 1)

def slices_IndexFunc_impl_Table_impl_Table (s_1:(List GTable)) (f_2:(GTable → Option Bool)):Option Int :=
    (slices_IndexFunc_impl_Table_impl_Table_L1 f_2 s_1 0).bind fun q => (match q with
    | .ret r => some r
    | .go _ =>
    some (-1))
theorem w_slices_IndexFunc_impl_Table_impl_Table (s_1:(List GTable)) (f_2:(GTable → Option Bool)) (r:Int) (hf:slices_IndexFunc_impl_Table_impl_Table s_1 f_2 = some r) (kf_f_2:Nat) (cf_f_2:List AV) (okf_f_2:okFn Tryz.prog kf_f_2 = true) (hcf_f_2:∀ h p,closeWs h p cf_f_2 = some cf_f_2) (hrf_f_2:∀ f,rens f cf_f_2 = cf_f_2) (hpf_f_2:∀ a0 r,f_2 a0 = some r → CallOK Tryz.prog kf_f_2 .flat ([(encGTable a0)] ++ cf_f_2) (.bool r)):CallOK Tryz.prog 149 .flat [(.lst 4 (s_1.map encGTable)),(.fn kf_f_2 cf_f_2)] (.int .i64 r):=by
 refine CallOK.of_awp mixed Tryz.func149 fc149 nle ?_;rw [argT_eq];unfold slices_IndexFunc_impl_Table_impl_Table at hf;unfold c149;refine (show awp Tryz.prog false 0 _ (ofL [(0,(.lst 4 (s_1.map encGTable))),(1,(.fn kf_f_2 cf_f_2))]) [] _ from ?_);refine sr<|s_mov (.int .i64 0) rfl<|dk<|awp_seq<|sr<|s_mov (.lst 4 (s_1.map encGTable)) rfl<|s_dof (o_len (enc:=encGTable) rfl) fun hl3 => s_mov (.int .i64 0) rfl<|dk<|?_
 obtain ⟨p24,hb1,hf⟩:=ob hf
 refine awp_cutx (X:={q:Unit // p24 = .go q}) (fun q => ([],[])) ?_ ?_
 ·refine awp_loop (X:={q:Nat // slices_IndexFunc_impl_Table_impl_Table_L1 f_2 (s_1.drop q) q = some p24}) (fun q => ([(0,(.lst 4 (s_1.map encGTable))),(1,(.fn kf_f_2 cf_f_2)),(7,(.int .i64 (s_1.length:Int))),(8,(.int .i64 (q.1:Int)))],[])) (fun q => s_1.length - q.1) ⟨0,hb1⟩ ⟨[],[],_,_,rfl,rfl,⟨.refl _,⟨.of_eq (congrArg (AV.fn _) (hrf_f_2 _)),⟨.refl _,⟨.refl _,trivial⟩⟩⟩⟩,(.refl _)⟩ ?_
  rintro ⟨s8_17,hc1⟩
  have hc1:slices_IndexFunc_impl_Table_impl_Table_L1 f_2 (s_1.drop s8_17) s8_17 = some p24:=hc1
  refine (show awp Tryz.prog false 0 _ (ofL [(0,(.lst 4 (s_1.map encGTable))),(1,(.fn kf_f_2 cf_f_2)),(7,(.int .i64 (s_1.length:Int))),(8,(.int .i64 (s8_17:Int)))]) [] _ from ?_)
  rcases dropc s_1 s8_17 with ⟨hie27,hd30⟩ | ⟨hlt25,x_31,hx26,hd30⟩
  ·rw [hd30,slices_IndexFunc_impl_Table_impl_Table_L1.eq_1] at hc1
   have hq29:=dlf hie27
   refine sr<|s_q (.bool (decide ((s8_17:Int) < (s_1.length:Int)))) rfl rfl rfl<|dk<|awp_seq<|w_condf rfl hq29<|w_exit<|k_seqx<|k_loopx<|k_blkx<|?_;obtain rfl:=os hc1;exact k_cutn ⟨_,rfl⟩ ⟨[],[],_,_,rfl,rfl,trivial,(.refl _)⟩
  ·rw [hd30,slices_IndexFunc_impl_Table_impl_Table_L1.eq_2] at hc1
   have hq29:=dlt hlt25
   refine sr<|s_q (.bool (decide ((s8_17:Int) < (s_1.length:Int)))) rfl rfl rfl<|dk<|awp_seq<|w_condt rfl hq29<|w_skip<|k_seq<|awp_seq<|w_blk<|sr<|s_mov (.int .i64 (s8_17:Int)) rfl<|s_mov (.int .i64 (s8_17:Int)) rfl<|dk<|sr<|?_
   obtain ⟨r_32,er33,hc1⟩:=ob hc1
   refine s_mov (.fn kf_f_2 cf_f_2) rfl<|s_mov (.lst 4 (s_1.map encGTable)) rfl<|s_mov (.int .i64 (s8_17:Int)) rfl<|s_do (o_iaddrn (enc:=encGTable) rfl rfl hx26)<|s_q (encGTable x_31) rfl nle rfl<|s_do (o_calvp (v:=(.bool r_32)) rfl okf_f_2 hcf_f_2 (hpf_f_2 _ _ er33) rfl (.refl _) rfl)<|dk<|?_
   rcases oi hc1 with ⟨c34,hc1⟩ | ⟨c34,hc1⟩
   ·refine w_condt rfl c34<|sr<|s_mov (.int .i64 (s8_17:Int)) rfl<|s_mov (.int .i64 (s8_17:Int)) rfl<|dk<|w_ret<|?_;obtain rfl:=os hc1;obtain rfl:=os hf;exact r_flat ⟨trivial,trivial⟩ rfl (.refl _)
   ·refine w_condf rfl (bf c34)<|w_skip<|k_blk<|k_seq<|w_reg<|s_q (.int .i64 (w64 ((s8_17:Int) + 1))) rfl rfl rfl<|s_mov (.int .i64 (w64 ((s8_17:Int) + 1))) rfl<|w_done<|?_;exact k_loopn ⟨(s8_17 + 1),hc1⟩ (mul hlt25) ⟨[],[],_,_,rfl,rfl,⟨.refl _,⟨.of_eq (congrArg (AV.fn _) (hrf_f_2 _)),⟨.refl _,⟨.of_eq (congrArg (AV.int _) (w64_incr hlt25 hl3)),trivial⟩⟩⟩⟩,(.refl _)⟩
 ·rintro ⟨_,rfl⟩
  refine sr<|s_mov (.int .i64 (-1)) rfl<|dk<|w_ret<|?_;obtain rfl:=os hf;exact r_flat ⟨trivial,trivial⟩ rfl (.refl _)

/- slices.ContainsFunc[[]impl.Table,impl.Table] -/
def c86:ACode :=
 (.seq (.reg (tm 4 (.c (.bool false)) .done))
 (.seq (.reg (tm 5 (.t 0) (tm 6 (.t 1) (tq 7 (.call 149 [(.t 5),(.t 6)]) (tq 8 (.bin .geq (.t 7) (.c (.int .i64 0))) (tm 4 (.t 8) .done))))))
 .ret))
theorem fc86:fcomp Tryz.prog Tryz.f86 = some (c86.erase,[.mov (.t 4)],9):=by kernel_rfl
def slices_ContainsFunc_impl_Table_impl_Table (s_1:(List GTable)) (f_2:(GTable → Option Bool)):Option Bool :=
    (slices_IndexFunc_impl_Table_impl_Table s_1 f_2).bind fun r_3 =>
    some (decide (r_3 ≥ 0))
theorem w_slices_ContainsFunc_impl_Table_impl_Table (s_1:(List GTable)) (f_2:(GTable → Option Bool)) (r:Bool) (hf:slices_ContainsFunc_impl_Table_impl_Table s_1 f_2 = some r) (kf_f_2:Nat) (cf_f_2:List AV) (okf_f_2:okFn Tryz.prog kf_f_2 = true) (hcf_f_2:∀ h p,closeWs h p cf_f_2 = some cf_f_2) (hrf_f_2:∀ f,rens f cf_f_2 = cf_f_2) (hpf_f_2:∀ a0 r,f_2 a0 = some r → CallOK Tryz.prog kf_f_2 .flat ([(encGTable a0)] ++ cf_f_2) (.bool r)):CallOK Tryz.prog 86 .flat [(.lst 4 (s_1.map encGTable)),(.fn kf_f_2 cf_f_2)] (.bool r):=by
 refine CallOK.of_awp mixed Tryz.func86 fc86 nle ?_;rw [argT_eq];unfold slices_ContainsFunc_impl_Table_impl_Table at hf;unfold c86;refine (show awp Tryz.prog false 0 _ (ofL [(0,(.lst 4 (s_1.map encGTable))),(1,(.fn kf_f_2 cf_f_2))]) [] _ from ?_);refine sr<|s_mov (.bool false) rfl<|dk<|sr<|?_
 obtain ⟨r_3,er4,hf⟩:=ob hf
 refine s_mov (.lst 4 (s_1.map encGTable)) rfl<|s_mov (.fn kf_f_2 cf_f_2) rfl<|s_do (o_call (w_slices_IndexFunc_impl_Table_impl_Table _ _ _ er4 kf_f_2 cf_f_2 okf_f_2 hcf_f_2 hrf_f_2 hpf_f_2) (cls_cons rfl (cls_cons (cls_fn hcf_f_2) rfl)) (.refl _) rfl)<|s_q (.bool (decide (r_3 ≥ 0))) rfl rfl rfl<|s_mov (.bool (decide (r_3 ≥ 0))) rfl<|dk<|w_ret<|?_;obtain rfl:=os hf;exact r_flat ⟨trivial,trivial⟩ rfl (.refl _)

/- slices.ContainsFunc[[]impl.Column,impl.Column] -/
def c88:ACode :=
 (.seq (.reg (tm 4 (.c (.bool false)) .done))
 (.seq (.reg (tm 5 (.t 0) (tm 6 (.t 1) (tq 7 (.call 150 [(.t 5),(.t 6)]) (tq 8 (.bin .geq (.t 7) (.c (.int .i64 0))) (tm 4 (.t 8) .done))))))
 .ret))
theorem fc88:fcomp Tryz.prog Tryz.f88 = some (c88.erase,[.mov (.t 4)],9):=by kernel_rfl
def slices_ContainsFunc_impl_Column_impl_Column (s_1:(List GColumn)) (f_2:(GColumn → Option Bool)):Option Bool :=
    (slices_IndexFunc_impl_Column_impl_Column s_1 f_2).bind fun r_3 =>
    some (decide (r_3 ≥ 0))
theorem w_slices_ContainsFunc_impl_Column_impl_Column (s_1:(List GColumn)) (f_2:(GColumn → Option Bool)) (r:Bool) (hf:slices_ContainsFunc_impl_Column_impl_Column s_1 f_2 = some r) (kf_f_2:Nat) (cf_f_2:List AV) (okf_f_2:okFn Tryz.prog kf_f_2 = true) (hcf_f_2:∀ h p,closeWs h p cf_f_2 = some cf_f_2) (hrf_f_2:∀ f,rens f cf_f_2 = cf_f_2) (hpf_f_2:∀ a0 r,f_2 a0 = some r → CallOK Tryz.prog kf_f_2 .flat ([(encGColumn a0)] ++ cf_f_2) (.bool r)):CallOK Tryz.prog 88 .flat [(.lst 8 (s_1.map encGColumn)),(.fn kf_f_2 cf_f_2)] (.bool r):=by
 refine CallOK.of_awp mixed Tryz.func88 fc88 nle ?_;rw [argT_eq];unfold slices_ContainsFunc_impl_Column_impl_Column at hf;unfold c88;refine (show awp Tryz.prog false 0 _ (ofL [(0,(.lst 8 (s_1.map encGColumn))),(1,(.fn kf_f_2 cf_f_2))]) [] _ from ?_);refine sr<|s_mov (.bool false) rfl<|dk<|sr<|?_
 obtain ⟨r_3,er4,hf⟩:=ob hf
 refine s_mov (.lst 8 (s_1.map encGColumn)) rfl<|s_mov (.fn kf_f_2 cf_f_2) rfl<|s_do (o_call (w_slices_IndexFunc_impl_Column_impl_Column _ _ _ er4 kf_f_2 cf_f_2 okf_f_2 hcf_f_2 hrf_f_2 hpf_f_2) (cls_cons rfl (cls_cons (cls_fn hcf_f_2) rfl)) (.refl _) rfl)<|s_q (.bool (decide (r_3 ≥ 0))) rfl rfl rfl<|s_mov (.bool (decide (r_3 ≥ 0))) rfl<|dk<|w_ret<|?_;obtain rfl:=os hf;exact r_flat ⟨trivial,trivial⟩ rfl (.refl _)

/- (impl.Schema).tableAt$1 -/
def c151:ACode :=
 (.seq (.reg (tq 2 (.box 4 (.t 0)) (tm 3 (.c (.bool false)) .done)))
 (.seq (.reg (tq 4 (.faddr 0 (.t 2)) (tq 5 (.load 1 false (.t 4)) (tq 6 (.load 1 false (.t 1)) (tq 7 (.bin .eql (.t 5) (.t 6)) (tm 3 (.t 7) .done))))))
 .ret))
theorem fc151:fcomp Tryz.prog Tryz.f151 = some (c151.erase,[.mov (.t 3)],8):=by kernel_rfl
def impl_Schema_tableAt_1 (t_1:GTable) (cap_2:Str):Option Bool :=
    some (t_1.Name == cap_2)
theorem w_impl_Schema_tableAt_1 (t_1:GTable) (cap_2:Str) (r:Bool) (hf:impl_Schema_tableAt_1 t_1 cap_2 = some r):CallOK Tryz.prog 151 .flat [(encGTable t_1),(.iptr (.str cap_2) 0)] (.bool r):=by
  refine CallOK.of_awp mixed Tryz.func151 fc151 nle ?_
  rw [argT_eq]
  unfold impl_Schema_tableAt_1 at hf
  unfold c151
  refine (show awp Tryz.prog false 0 _ (ofL [(0,(encGTable t_1)),(1,(.iptr (.str cap_2) 0))]) [] _ from ?_)
  refine awp_seq ?_
  refine w_reg ?_
  refine s_do (o_box (j:=0) (c:=(.agg [(.str t_1.Name),(.lst 8 (t_1.Columns.map encGColumn)),(.lst 1 (t_1.Unique.map encI)),(.bool t_1.Root)])) rfl trivial rfl rfl) ?_
  refine s_do (o_mov (.bool false) rfl) ?_
  refine w_done ?_
  refine k_seq ?_
  refine awp_seq ?_
  refine w_reg ?_
  refine s_do (o_q (.ptr 0 0 0) rfl trivial rfl) ?_
  refine s_do (o_q (.str t_1.Name) rfl nle rfl) ?_
  refine s_do (o_q (.str cap_2) rfl ⟨rfl,rfl⟩ rfl) ?_
  refine s_do (o_q (.bool (t_1.Name == cap_2)) rfl trivial rfl) ?_
  refine s_do (o_mov (.bool (t_1.Name == cap_2)) rfl) ?_
  refine w_done ?_
  refine k_seq ?_
  refine w_ret ?_
  obtain rfl:=os hf
  exact r_flat ⟨trivial,trivial⟩ rfl (.refl _)

/- (impl.Schema).tableAt -/
def c90:ACode :=
 (.seq (.reg (tq 2 (.box 1 (.t 0)) (tq 3 (.box 1 (.t 1)) (tm 4 (.c (.int .i64 0)) .done))))
 (.seq (.reg (tq 5 (.faddr 0 (.t 2)) (tq 6 (.load 1 false (.t 5)) (tq 7 (.mkfn 151 [(.t 3)]) (tq 8 (.call 149 [(.t 6),(.t 7)]) (tm 4 (.t 8) .done))))))
 .ret))
theorem fc90:fcomp Tryz.prog Tryz.f90 = some (c90.erase,[.mov (.t 4)],9):=by kernel_rfl
def impl_Schema_tableAt (s_1:GSchema) (name_2:Str):Option Int :=
    (slices_IndexFunc_impl_Table_impl_Table s_1.Tables (fun a0 => impl_Schema_tableAt_1 a0 name_2)).bind fun r_3 =>
    some r_3
theorem w_impl_Schema_tableAt (s_1:GSchema) (name_2:Str) (r:Int) (hf:impl_Schema_tableAt s_1 name_2 = some r):CallOK Tryz.prog 90 .flat [(encGSchema s_1),(.str name_2)] (.int .i64 r):=by
  refine CallOK.of_awp mixed Tryz.func90 fc90 nle ?_
  rw [argT_eq]
  unfold impl_Schema_tableAt at hf
  unfold c90
  refine (show awp Tryz.prog false 0 _ (ofL [(0,(encGSchema s_1)),(1,(.str name_2))]) [] _ from ?_)
  refine awp_seq ?_
  refine w_reg ?_
  refine s_do (o_box (j:=0) (c:=(.agg [(.lst 4 (s_1.Tables.map encGTable))])) rfl trivial rfl rfl) ?_
  refine s_do (o_box (j:=1) (c:=(.str name_2)) rfl trivial rfl rfl) ?_
  refine s_do (o_mov (.int .i64 0) rfl) ?_
  refine w_done ?_
  refine k_seq ?_
  refine awp_seq ?_
  refine w_reg ?_
  obtain ⟨r_3,er4,hf⟩:=ob hf
  refine s_do (o_q (.ptr 0 0 0) rfl trivial rfl) ?_
  refine s_do (o_q (.lst 4 (s_1.Tables.map encGTable)) rfl nle rfl) ?_
  refine s_do (o_q (.fn 151 [(.ptr 1 0 0)]) rfl trivial rfl) ?_
  refine s_do (o_call (w_slices_IndexFunc_impl_Table_impl_Table _ _ _ er4 151 [(.iptr (.str name_2) 0)] (by kernel_rfl) (fun _ _ => rfl) (fun _ => rfl) (fun a0 r h => w_impl_Schema_tableAt_1 a0 name_2 r h)) rfl (.refl _) rfl) ?_
  refine s_do (o_mov (.int .i64 r_3) rfl) ?_
  refine w_done ?_
  refine k_seq ?_
  refine w_ret ?_
  obtain rfl:=os hf
  exact r_flat ⟨trivial,trivial⟩ rfl (.refl _)

/- impl.SchemaOK$1$1 -/
def c89:ACode :=
 (.seq (.reg (tq 2 (.box 8 (.t 0)) (tm 3 (.c (.bool false)) .done)))
 (.seq (.reg (tq 4 (.faddr 1 (.t 2)) (tq 5 (.load 1 false (.t 4)) (tq 6 (.bin .eql (.t 5) (.c (.int .i64 4))) (tm 7 (.t 6) (tg 8 7 true (.load 1 true (.t 1)) (tg 9 7 true (.faddr 6 (.t 2)) (tg 10 7 true (.load 1 false (.t 9)) (tg 11 7 true (.call 90 [(.t 8),(.t 10)]) (tg 12 7 true (.bin .lss (.t 11) (.c (.int .i64 0))) (tq 13 (.pick (.t 7) (.t 12) (.c (.bool false))) (tm 3 (.t 13) .done))))))))))))
 .ret))
theorem fc89:fcomp Tryz.prog Tryz.f89 = some (c89.erase,[.mov (.t 3)],14):=by kernel_rfl
def impl_SchemaOK_1_1 (c_1:GColumn) (cap_2:GSchema):Option Bool :=
    if (c_1.Kind == 4) then
    (impl_Schema_tableAt cap_2 c_1.Ref).bind fun r_4 =>
    some (decide (r_4 < 0))
    else
    some false
theorem w_impl_SchemaOK_1_1 (c_1:GColumn) (cap_2:GSchema) (r:Bool) (hf:impl_SchemaOK_1_1 c_1 cap_2 = some r):CallOK Tryz.prog 89 .flat [(encGColumn c_1),(.iptr (encGSchema cap_2) 0)] (.bool r):=by
 refine CallOK.of_awp mixed Tryz.func89 fc89 nle ?_;rw [argT_eq];unfold impl_SchemaOK_1_1 at hf;unfold c89;refine (show awp Tryz.prog false 0 _ (ofL [(0,(encGColumn c_1)),(1,(.iptr (encGSchema cap_2) 0))]) [] _ from ?_);refine sr<|s_do (o_box (j:=0) (c:=(.agg [(.str c_1.Name),(.int .i64 c_1.Kind),(.int .i64 c_1.Min),(.int .i64 c_1.Max),(.int .i64 c_1.Low),(.int .i64 c_1.High),(.str c_1.Ref),(.bool c_1.Strong)])) rfl trivial rfl rfl)<|s_mov (.bool false) rfl<|dk<|sr<|?_
 rcases oi hf with ⟨c3,hf⟩ | ⟨c3,hf⟩
 ·obtain ⟨r_4,er5,hf⟩:=ob hf
  refine s_q (.ptr 0 0 1) rfl trivial rfl<|s_q (.int .i64 c_1.Kind) rfl nle rfl<|s_q (.bool (c_1.Kind == 4)) rfl rfl rfl<|s_mov (.bool (c_1.Kind == 4)) rfl<|s_lit (s:=7) (b:=true) rfl c3<|s_on rfl<|s_q (encGSchema cap_2) rfl nle rfl<|s_on rfl<|s_q (.ptr 0 0 6) rfl trivial rfl<|s_on rfl<|s_q (.str c_1.Ref) rfl nle rfl<|s_on rfl<|s_do (o_call (w_impl_Schema_tableAt _ _ _ er5) rfl (.refl _) rfl)<|s_on rfl<|s_q (.bool (decide (r_4 < 0))) rfl rfl rfl<|s_q (.bool (decide (r_4 < 0))) rfl trivial rfl<|s_mov (.bool (decide (r_4 < 0))) rfl<|dk<|w_ret<|?_;obtain rfl:=os hf;exact r_flat ⟨trivial,trivial⟩ rfl (.refl _)
 ·refine s_q (.ptr 0 0 1) rfl trivial rfl<|s_q (.int .i64 c_1.Kind) rfl nle rfl<|s_q (.bool (c_1.Kind == 4)) rfl rfl rfl<|s_mov (.bool (c_1.Kind == 4)) rfl<|s_lit (s:=7) (b:=false) rfl (bf c3)<|s_off rfl rfl<|s_off rfl rfl<|s_off rfl rfl<|s_off rfl rfl<|s_off rfl rfl<|s_q (.bool false) rfl trivial rfl<|s_mov (.bool false) rfl<|dk<|w_ret<|?_;obtain rfl:=os hf;exact r_flat ⟨trivial,trivial⟩ rfl (.refl _)

/- impl.SchemaOK$1 -/
def c87:ACode :=
 (.seq (.reg (tq 2 (.box 4 (.t 0)) (tm 3 (.c (.bool false)) .done)))
 (.seq (.reg (tq 4 (.faddr 1 (.t 2)) (tq 5 (.load 1 false (.t 4)) (tq 6 (.mkfn 89 [(.t 1)]) (tq 7 (.call 88 [(.t 5),(.t 6)]) (tm 3 (.t 7) .done))))))
 .ret))
theorem fc87:fcomp Tryz.prog Tryz.f87 = some (c87.erase,[.mov (.t 3)],8):=by kernel_rfl
def impl_SchemaOK_1 (t_1:GTable) (cap_2:GSchema):Option Bool :=
    (slices_ContainsFunc_impl_Column_impl_Column t_1.Columns (fun a0 => impl_SchemaOK_1_1 a0 cap_2)).bind fun r_3 =>
    some r_3
theorem w_impl_SchemaOK_1 (t_1:GTable) (cap_2:GSchema) (r:Bool) (hf:impl_SchemaOK_1 t_1 cap_2 = some r):CallOK Tryz.prog 87 .flat [(encGTable t_1),(.iptr (encGSchema cap_2) 0)] (.bool r):=by
  refine CallOK.of_awp mixed Tryz.func87 fc87 nle ?_
  rw [argT_eq]
  unfold impl_SchemaOK_1 at hf
  unfold c87
  refine (show awp Tryz.prog false 0 _ (ofL [(0,(encGTable t_1)),(1,(.iptr (encGSchema cap_2) 0))]) [] _ from ?_)
  refine awp_seq ?_
  refine w_reg ?_
  refine s_do (o_box (j:=0) (c:=(.agg [(.str t_1.Name),(.lst 8 (t_1.Columns.map encGColumn)),(.lst 1 (t_1.Unique.map encI)),(.bool t_1.Root)])) rfl trivial rfl rfl) ?_
  refine s_do (o_mov (.bool false) rfl) ?_
  refine w_done ?_
  refine k_seq ?_
  refine awp_seq ?_
  refine w_reg ?_
  obtain ⟨r_3,er4,hf⟩:=ob hf
  refine s_do (o_q (.ptr 0 0 1) rfl trivial rfl) ?_
  refine s_do (o_q (.lst 8 (t_1.Columns.map encGColumn)) rfl nle rfl) ?_
  refine s_do (o_q (.fn 89 [(.iptr (encGSchema cap_2) 0)]) rfl trivial rfl) ?_
  refine s_do (o_call (w_slices_ContainsFunc_impl_Column_impl_Column _ _ _ er4 89 [(.iptr (encGSchema cap_2) 0)] (by kernel_rfl) (fun _ _ => rfl) (fun _ => rfl) (fun a0 r h => w_impl_SchemaOK_1_1 a0 cap_2 r h)) rfl (.refl _) rfl) ?_
  refine s_do (o_mov (.bool r_3) rfl) ?_
  refine w_done ?_
  refine k_seq ?_
  refine w_ret ?_
  obtain rfl:=os hf
  exact r_flat ⟨trivial,trivial⟩ rfl (.refl _)

/- impl.SchemaOK -/
def c33:ACode :=
 (.seq (.reg (tq 1 (.box 1 (.t 0)) (tm 2 (.c (.bool false)) .done)))
 (.seq (.seq (.reg (tq 5 (.faddr 0 (.t 1)) (tq 6 (.load 1 false (.t 5)) (tq 7 (.len (.t 6)) (tq 8 (.call 43 [(.t 7),(.c (.int .i64 1)),(.c (.int .i64 4))]) (tq 9 (.not (.t 8)) .done))))))
 (.cond (.t 9) (.seq (.reg (tm 2 (.c (.bool false)) .done))
 .ret)
 .skip))
 (.seq (.seq (.reg (tq 10 (.faddr 0 (.t 1)) (tq 11 (.load 1 false (.t 10)) (tq 12 (.len (.t 11)) (tm 13 (.c (.int .i64 0)) .done)))))
 (.block 0 (.loop (.seq (.reg (tq 14 (.bin .lss (.t 13) (.t 12)) .done))
 (.seq (.cond (.t 14) .skip
 (.exit 0))
 (.seq (.block 1 (.seq (.reg (tm 15 (.t 13) (tq 16 (.iaddr 4 (.t 11) (.t 13)) (tq 17 (.load 4 true (.t 16)) (tq 4 (.box 4 (.c (.agg [(.str []),.nil,.nil,(.bool false)]))) (tm 3 (.t 15) (.q ⟨none,none,.store 4 (.t 4) (.t 17)⟩
 .done)))))))
 (.seq (.reg (tq 18 (.load 4 true (.t 4)) (.l ⟨(some 19),none,.call 72 [(.t 18)]⟩ []
 (tq 20 (.not (.t 19)) (tm 21 (.t 20) (tg 22 21 false (.mov (.t 3)) (tg 23 21 false (.bin .gtr (.t 22) (.c (.int .i64 0))) (tg 24 21 false (.mov (.t 23)) (tg 25 24 true (.faddr 0 (.t 1)) (tg 26 24 true (.load 1 false (.t 25)) (tg 27 24 true (.mov (.t 3)) (tg 28 24 true (.bin .sub (.t 27) (.c (.int .i64 1))) (tg 29 24 true (.iaddr 4 (.t 26) (.t 28)) (tg 30 24 true (.faddr 0 (.t 29)) (tg 31 24 true (.load 1 false (.t 30)) (tg 32 24 true (.faddr 0 (.t 4)) (tg 33 24 true (.load 1 false (.t 32)) (tg 34 24 true (.bin .geq (.t 31) (.t 33)) (tg 35 21 false (.pick (.t 24) (.t 34) (.c (.bool false))) (tq 36 (.pick (.t 21) (.c (.bool true)) (.t 35)) .done))))))))))))))))) .non)))
 (.cut (.cond (.t 36) (.seq (.reg (tm 2 (.c (.bool false)) .done))
 .ret)
 .skip)))))
 (.reg (tq 37 (.bin .add (.t 13) (.c (.int .i64 1))) (tm 13 (.t 37) .done)))))))))
 (.cut (.seq (.reg (tq 38 (.faddr 0 (.t 1)) (tq 39 (.load 1 false (.t 38)) (tq 40 (.mkfn 87 [(.t 1)]) (tq 41 (.call 86 [(.t 39),(.t 40)]) (tq 42 (.not (.t 41)) (tm 2 (.t 42) .done)))))))
 .ret)))))
theorem fc33:fcomp Tryz.prog Tryz.f33 = some (c33.erase,[.mov (.t 2)],43):=by kernel_rfl
def impl_SchemaOK_L1 (s_1:GSchema):List GTable → Nat → Option (Fl Bool Unit)
  | [],s13_44 =>
    some (.go ())
  | x_70 :: xs,s13_44 =>
    (((impl_isTable x_70).bind fun r_79 =>
    if (!r_79) then
    some true
    else
    if (decide ((s13_44:Int) > 0)) then
    (idx s_1.Tables (w64 ((s13_44:Int) - 1))).bind fun x_83 =>
    some (!Op.bytesLess x_83.Name x_70.Name)
    else
    some false:Option Bool)).bind fun s36_77 =>
    if s36_77 then
    some (.ret false)
    else
    impl_SchemaOK_L1 s_1 xs (s13_44 + 1)

def impl_SchemaOK (s_1:GSchema):Option Bool :=
    (impl_within (s_1.Tables.length:Int) 1 4).bind fun r_3 =>
    if (!r_3) then
    some false
    else
    (impl_SchemaOK_L1 s_1 s_1.Tables 0).bind fun q => (match q with
    | .ret r => some r
    | .go _ =>
    (slices_ContainsFunc_impl_Table_impl_Table s_1.Tables (fun a0 => impl_SchemaOK_1 a0 s_1)).bind fun r_86 =>
    some (!r_86))
theorem w_impl_SchemaOK (s_1:GSchema) (r:Bool) (hf:impl_SchemaOK s_1 = some r):CallOK Tryz.prog 33 .flat [(encGSchema s_1)] (.bool r):=by
 refine CallOK.of_awp mixed Tryz.func33 fc33 nle ?_;rw [argT_eq];unfold impl_SchemaOK at hf;unfold c33;refine (show awp Tryz.prog false 0 _ (ofL [(0,(encGSchema s_1))]) [] _ from ?_);refine sr<|s_do (o_box (j:=0) (c:=(.agg [(.lst 4 (s_1.Tables.map encGTable))])) rfl trivial rfl rfl)<|s_mov (.bool false) rfl<|dk<|awp_seq<|sr<|?_
 obtain ⟨r_3,er4,hf⟩:=ob hf
 refine s_q (.ptr 0 0 0) rfl trivial rfl<|s_q (.lst 4 (s_1.Tables.map encGTable)) rfl nle rfl<|s_dof (o_len (enc:=encGTable) rfl) fun hl2 => s_do (o_call (w_impl_within _ _ _ _ er4) rfl (.refl _) rfl)<|s_q (.bool (!r_3)) rfl trivial rfl<|dk<|?_
 rcases oi hf with ⟨c5,hf⟩ | ⟨c5,hf⟩
 ·refine w_condt rfl c5<|sr<|s_mov (.bool false) rfl<|dk<|w_ret<|?_;obtain rfl:=os hf;exact r_flat ⟨trivial,trivial⟩ rfl (.refl _)
 ·refine w_condf rfl (bf c5)<|w_skip<|k_seq<|awp_seq<|sr<|s_q (.ptr 0 0 0) rfl trivial rfl<|s_q (.lst 4 (s_1.Tables.map encGTable)) rfl nle rfl<|s_dof (o_len (enc:=encGTable) rfl) fun hl6 => s_mov (.int .i64 0) rfl<|dk<|?_
  obtain ⟨p63,hb1,hf⟩:=ob hf
  refine awp_cutx (X:={q:Unit // p63 = .go q}) (fun q => ([(1,(.ptr 0 0 0))],[.box 1 (.agg [(.lst 4 (s_1.Tables.map encGTable))])])) ?_ ?_
  ·refine awp_loop (X:={q:Nat // impl_SchemaOK_L1 s_1 (s_1.Tables.drop q) q = some p63}) (fun q => ([(1,(.ptr 0 0 0)),(11,(.lst 4 (s_1.Tables.map encGTable))),(12,(.int .i64 (s_1.Tables.length:Int))),(13,(.int .i64 (q.1:Int)))],[.box 1 (.agg [(.lst 4 (s_1.Tables.map encGTable))])])) (fun q => s_1.Tables.length - q.1) ⟨0,hb1⟩ ⟨[],[0],_,_,rfl,rfl,⟨.refl _,⟨.refl _,⟨.refl _,⟨.refl _,trivial⟩⟩⟩⟩,(.refl _)⟩ ?_
   rintro ⟨s13_44,hc1⟩
   have hc1:impl_SchemaOK_L1 s_1 (s_1.Tables.drop s13_44) s13_44 = some p63:=hc1
   refine (show awp Tryz.prog false 0 _ (ofL [(1,(.ptr 0 0 0)),(11,(.lst 4 (s_1.Tables.map encGTable))),(12,(.int .i64 (s_1.Tables.length:Int))),(13,(.int .i64 (s13_44:Int)))]) [.box 1 (.agg [(.lst 4 (s_1.Tables.map encGTable))])] _ from ?_)
   rcases dropc s_1.Tables s13_44 with ⟨hie66,hd69⟩ | ⟨hlt64,x_70,hx65,hd69⟩
   ·rw [hd69,impl_SchemaOK_L1.eq_1] at hc1
    have hq68:=dlf hie66
    refine sr<|s_q (.bool (decide ((s13_44:Int) < (s_1.Tables.length:Int)))) rfl rfl rfl<|dk<|awp_seq<|w_condf rfl hq68<|w_exit<|k_seqx<|k_loopx<|k_blkx<|?_;obtain rfl:=os hc1;exact k_cutn ⟨_,rfl⟩ ⟨[],[0],_,_,rfl,rfl,⟨.refl _,trivial⟩,(.refl _)⟩
   ·rw [hd69,impl_SchemaOK_L1.eq_2] at hc1
    have hq68:=dlt hlt64
    refine sr<|s_q (.bool (decide ((s13_44:Int) < (s_1.Tables.length:Int)))) rfl rfl rfl<|dk<|awp_seq<|w_condt rfl hq68<|w_skip<|k_seq<|awp_seq<|w_blk<|sr<|s_mov (.int .i64 (s13_44:Int)) rfl<|s_do (o_iaddrn (enc:=encGTable) rfl rfl hx65)<|s_q (encGTable x_70) rfl nle rfl<|s_do (o_box (j:=1) (c:=(.agg [(.str []),.nil,.nil,(.bool false)])) rfl trivial rfl rfl)<|s_mov (.int .i64 (s13_44:Int)) rfl<|s_do0 (o_storebox (v:=(.agg [(.str x_70.Name),(.lst 8 (x_70.Columns.map encGColumn)),(.lst 1 (x_70.Unique.map encI)),(.bool x_70.Root)])) (y':=(.agg [(.str x_70.Name),(.lst 8 (x_70.Columns.map encGColumn)),(.lst 1 (x_70.Unique.map encI)),(.bool x_70.Root)])) rfl rfl rfl trivial ⟨rfl,nle⟩ ⟨⟨rfl,trivial⟩,⟨⟨rfl,trivial⟩,⟨⟨rfl,trivial⟩,⟨⟨rfl,trivial⟩,trivial⟩⟩⟩⟩ rfl)<|?_
    refine dk<|awp_seq<|?_
    obtain ⟨s36_77,hb2,hc1⟩:=ob hc1
    refine awp_cut ([(1,(.ptr 0 0 0)),(11,(.lst 4 (s_1.Tables.map encGTable))),(12,(.int .i64 (s_1.Tables.length:Int))),(13,(.int .i64 (s13_44:Int))),(36,(.bool s36_77))],[.box 1 (.agg [(.lst 4 (s_1.Tables.map encGTable))])]) ?_ ?_
    ·refine w_reg<|s_q (.agg [(.str x_70.Name),(.lst 8 (x_70.Columns.map encGColumn)),(.lst 1 (x_70.Unique.map encI)),(.bool x_70.Root)]) rfl nle rfl<|?_
     obtain ⟨r_79,er80,hb2⟩:=ob hb2
     refine s_dol (o_call (w_impl_isTable _ _ er80) rfl (.refl _) rfl) a_same trivial<|s_q (.bool (!r_79)) rfl trivial rfl<|s_mov (.bool (!r_79)) rfl<|?_
     rcases oi hb2 with ⟨c81,hb2⟩ | ⟨c81,hb2⟩
     ·refine s_lit (s:=21) (b:=true) rfl c81<|s_off rfl rfl<|s_off rfl rfl<|s_off rfl rfl<|s_offs rfl<|s_offs rfl<|s_offs rfl<|s_offs rfl<|s_offs rfl<|s_offs rfl<|s_offs rfl<|s_offs rfl<|s_offs rfl<|s_offs rfl<|s_off rfl rfl<|s_q (.bool true) rfl trivial rfl<|w_done<|?_;obtain rfl:=os hb2;exact ⟨[],[0],_,_,rfl,rfl,⟨.refl _,⟨.refl _,⟨.refl _,⟨.refl _,⟨.refl _,trivial⟩⟩⟩⟩⟩,(.refl _)⟩
     ·refine s_lit (s:=21) (b:=false) rfl (bf c81)<|s_on rfl<|s_mov (.int .i64 (s13_44:Int)) rfl<|s_on rfl<|s_q (.bool (decide ((s13_44:Int) > 0))) rfl rfl rfl<|s_on rfl<|s_mov (.bool (decide ((s13_44:Int) > 0))) rfl<|?_
      rcases oi hb2 with ⟨c82,hb2⟩ | ⟨c82,hb2⟩
      ·refine s_lit (s:=24) (b:=true) rfl c82<|s_on rfl<|s_q (.ptr 0 0 0) rfl trivial rfl<|s_on rfl<|s_q (.lst 4 (s_1.Tables.map encGTable)) rfl nle rfl<|s_on rfl<|s_mov (.int .i64 (s13_44:Int)) rfl<|s_on rfl<|s_q (.int .i64 (w64 ((s13_44:Int) - 1))) rfl rfl rfl<|s_on rfl<|?_
       obtain ⟨x_83,ex84,hb2⟩:=ob hb2
       refine s_do (o_iaddr (enc:=encGTable) rfl rfl (idx0 ex84) (idx1 ex84))<|s_on rfl<|s_q (.iptr (encGTable x_83) 0) rfl trivial rfl<|s_on rfl<|s_q (.str x_83.Name) rfl nle rfl<|s_on rfl<|s_q (.ptr 1 0 0) rfl trivial rfl<|s_on rfl<|s_q (.str x_70.Name) rfl nle rfl<|s_on rfl<|s_q (.bool (!Op.bytesLess x_83.Name x_70.Name)) rfl trivial rfl<|s_on rfl<|s_q (.bool (!Op.bytesLess x_83.Name x_70.Name)) rfl trivial rfl<|s_q (.bool (!Op.bytesLess x_83.Name x_70.Name)) rfl trivial rfl<|w_done<|?_;obtain rfl:=os hb2;exact ⟨[],[0],_,_,rfl,rfl,⟨.refl _,⟨.refl _,⟨.refl _,⟨.refl _,⟨.refl _,trivial⟩⟩⟩⟩⟩,(.refl _)⟩
      ·refine s_lit (s:=24) (b:=false) rfl (bf c82)<|s_off rfl rfl<|s_off rfl rfl<|s_off rfl rfl<|s_off rfl rfl<|s_off rfl rfl<|s_off rfl rfl<|s_off rfl rfl<|s_off rfl rfl<|s_off rfl rfl<|s_off rfl rfl<|s_on rfl<|s_q (.bool false) rfl trivial rfl<|s_q (.bool false) rfl trivial rfl<|w_done<|?_;obtain rfl:=os hb2;exact ⟨[],[0],_,_,rfl,rfl,⟨.refl _,⟨.refl _,⟨.refl _,⟨.refl _,⟨.refl _,trivial⟩⟩⟩⟩⟩,(.refl _)⟩
    ·rcases oi hc1 with ⟨c85,hc1⟩ | ⟨c85,hc1⟩
     ·refine w_condt rfl c85<|sr<|s_mov (.bool false) rfl<|dk<|w_ret<|?_;obtain rfl:=os hc1;obtain rfl:=os hf;exact r_flat ⟨trivial,trivial⟩ rfl (.refl _)
     ·refine w_condf rfl (bf c85)<|w_skip<|k_blk<|k_seq<|w_reg<|s_q (.int .i64 (w64 ((s13_44:Int) + 1))) rfl rfl rfl<|s_mov (.int .i64 (w64 ((s13_44:Int) + 1))) rfl<|w_done<|?_;exact k_loopn ⟨(s13_44 + 1),hc1⟩ (mul hlt64) ⟨[],[0],_,_,rfl,rfl,⟨.refl _,⟨.refl _,⟨.refl _,⟨.of_eq (congrArg (AV.int _) (w64_incr hlt64 hl6)),trivial⟩⟩⟩⟩,(.refl _)⟩
  ·rintro ⟨_,rfl⟩
   refine sr<|?_
   obtain ⟨r_86,er87,hf⟩:=ob hf
   refine s_q (.ptr 0 0 0) rfl trivial rfl<|s_q (.lst 4 (s_1.Tables.map encGTable)) rfl nle rfl<|s_q (.fn 87 [(.ptr 0 0 0)]) rfl trivial rfl<|?_;refine s_do (o_call (w_slices_ContainsFunc_impl_Table_impl_Table _ _ _ er87 87 [(.iptr (encGSchema s_1) 0)] (by kernel_rfl) (fun _ _ => rfl) (fun _ => rfl) (fun a0 r h => w_impl_SchemaOK_1 a0 s_1 r h)) rfl (.refl _) rfl) ?_;refine s_q (.bool (!r_86)) rfl trivial rfl<|s_mov (.bool (!r_86)) rfl<|dk<|w_ret<|?_;obtain rfl:=os hf;exact r_flat ⟨trivial,trivial⟩ rfl (.refl _)

/- impl.isId -/
def c73:ACode :=
 (.seq (.reg (tm 2 (.c (.bool false)) .done))
 (.seq (.reg (tm 3 (.t 0) (tq 4 (.call 43 [(.t 3),(.c (.int .i64 1)),(.c (.int .i64 1000000))]) (tm 2 (.t 4) .done))))
 .ret))
theorem fc73:fcomp Tryz.prog Tryz.f73 = some (c73.erase,[.mov (.t 2)],5):=by kernel_rfl
def impl_isId (n_1:Int):Option Bool :=
    (impl_within n_1 1 1000000).bind fun r_2 =>
    some r_2
theorem w_impl_isId (n_1:Int) (r:Bool) (hf:impl_isId n_1 = some r):CallOK Tryz.prog 73 .flat [(.int .i64 n_1)] (.bool r):=by
  refine CallOK.of_awp mixed Tryz.func73 fc73 nle ?_
  rw [argT_eq]
  unfold impl_isId at hf
  unfold c73
  refine (show awp Tryz.prog false 0 _ (ofL [(0,(.int .i64 n_1))]) [] _ from ?_)
  refine awp_seq ?_
  refine w_reg ?_
  refine s_do (o_mov (.bool false) rfl) ?_
  refine w_done ?_
  refine k_seq ?_
  refine awp_seq ?_
  refine w_reg ?_
  obtain ⟨r_2,er3,hf⟩:=ob hf
  refine s_do (o_mov (.int .i64 n_1) rfl) ?_
  refine s_do (o_call (w_impl_within _ _ _ _ er3) rfl (.refl _) rfl) ?_
  refine s_do (o_mov (.bool r_2) rfl) ?_
  refine w_done ?_
  refine k_seq ?_
  refine w_ret ?_
  obtain rfl:=os hf
  exact r_flat ⟨trivial,trivial⟩ rfl (.refl _)

/- impl.areRising -/
def c125:ACode :=
 (.seq (.reg (tm 2 (.c (.bool false)) .done))
 (.seq (.seq (.reg (tm 3 (.c (.int .i64 1)) .done))
 (.block 0 (.loop (.seq (.seq (.reg (tm 4 (.t 3) (tm 5 (.t 0) (tq 6 (.len (.t 5)) (tq 7 (.bin .lss (.t 4) (.t 6)) .done)))))
 (.cond (.t 7) .skip
 (.exit 0)))
 (.seq (.block 1 (.seq (.reg (tm 10 (.t 0) (tm 11 (.t 3) (tq 12 (.bin .sub (.t 11) (.c (.int .i64 1))) (tq 13 (.iaddr 2 (.t 10) (.t 12)) (tq 14 (.faddr 0 (.t 13)) (tq 15 (.load 1 false (.t 14)) (tm 16 (.t 0) (tm 17 (.t 3) (tq 18 (.iaddr 2 (.t 16) (.t 17)) (tq 19 (.faddr 0 (.t 18)) (tq 20 (.load 1 false (.t 19)) (tq 21 (.bin .geq (.t 15) (.t 20)) .done)))))))))))))
 (.cond (.t 21) (.seq (.reg (tm 2 (.c (.bool false)) .done))
 .ret)
 .skip)))
 (.reg (tm 8 (.t 3) (tq 9 (.bin .add (.t 8) (.c (.int .i64 1))) (tm 3 (.t 9) .done)))))))))
 (.cut (.seq (.reg (tm 2 (.c (.bool true)) .done))
 .ret))))
theorem fc125:fcomp Tryz.prog Tryz.f125 = some (c125.erase,[.mov (.t 2)],22):=by kernel_rfl
def impl_areRising_L1 (rows_1:(List GRow)):List GRow → Nat → Option (Fl Bool Unit)
  | [],i_17 =>
    some (.go ())
  | x_33 :: xs,i_17 =>
    (idx rows_1 (w64 ((i_17:Int) - 1))).bind fun x_36 =>
    if (decide (x_36.Id ≥ x_33.Id)) then
    some (.ret false)
    else
    impl_areRising_L1 rows_1 xs (i_17 + 1)

def impl_areRising (rows_1:(List GRow)):Option Bool :=
    (impl_areRising_L1 rows_1 (rows_1.drop 1) 1).bind fun q => (match q with
    | .ret r => some r
    | .go _ =>
    some true)
theorem w_impl_areRising (rows_1:(List GRow)) (r:Bool) (hf:impl_areRising rows_1 = some r):CallOK Tryz.prog 125 .flat [(.lst 2 (rows_1.map encGRow))] (.bool r):=by
 refine CallOK.of_awp mixed Tryz.func125 fc125 nle ?_;rw [argT_eq];unfold impl_areRising at hf;unfold c125;refine (show awp Tryz.prog false 0 _ (ofL [(0,(.lst 2 (rows_1.map encGRow)))]) [] _ from ?_);refine sr<|s_mov (.bool false) rfl<|dk<|awp_seq<|sr<|s_mov (.int .i64 1) rfl<|dk<|?_
 obtain ⟨p26,hb1,hf⟩:=ob hf
 refine awp_cutx (X:={q:Unit // p26 = .go q}) (fun q => ([],[])) ?_ ?_
 ·refine awp_loop (X:={q:Nat // impl_areRising_L1 rows_1 (rows_1.drop q) q = some p26}) (fun q => ([(0,(.lst 2 (rows_1.map encGRow))),(3,(.int .i64 (q.1:Int)))],[])) (fun q => rows_1.length - q.1) ⟨1,hb1⟩ ⟨[],[],_,_,rfl,rfl,⟨.refl _,⟨.refl _,trivial⟩⟩,(.refl _)⟩ ?_
  rintro ⟨i_17,hc1⟩
  have hc1:impl_areRising_L1 rows_1 (rows_1.drop i_17) i_17 = some p26:=hc1
  refine (show awp Tryz.prog false 0 _ (ofL [(0,(.lst 2 (rows_1.map encGRow))),(3,(.int .i64 (i_17:Int)))]) [] _ from ?_)
  rcases dropc rows_1 i_17 with ⟨hie29,hd32⟩ | ⟨hlt27,x_33,hx28,hd32⟩
  ·rw [hd32,impl_areRising_L1.eq_1] at hc1
   have hq31:=dlf hie29
   refine awp_seq<|sr<|s_mov (.int .i64 (i_17:Int)) rfl<|s_mov (.lst 2 (rows_1.map encGRow)) rfl<|s_dof (o_len (enc:=encGRow) rfl) fun hl34 => s_q (.bool (decide ((i_17:Int) < (rows_1.length:Int)))) rfl rfl rfl<|dk<|w_condf rfl hq31<|w_exit<|k_seqx<|k_loopx<|k_blkx<|?_;obtain rfl:=os hc1;exact k_cutn ⟨_,rfl⟩ ⟨[],[],_,_,rfl,rfl,trivial,(.refl _)⟩
  ·rw [hd32,impl_areRising_L1.eq_2] at hc1
   have hq31:=dlt hlt27
   refine awp_seq<|sr<|s_mov (.int .i64 (i_17:Int)) rfl<|s_mov (.lst 2 (rows_1.map encGRow)) rfl<|s_dof (o_len (enc:=encGRow) rfl) fun hl35 => s_q (.bool (decide ((i_17:Int) < (rows_1.length:Int)))) rfl rfl rfl<|dk<|w_condt rfl hq31<|w_skip<|k_seq<|awp_seq<|w_blk<|sr<|?_
   obtain ⟨x_36,ex37,hc1⟩:=ob hc1
   refine s_mov (.lst 2 (rows_1.map encGRow)) rfl<|s_mov (.int .i64 (i_17:Int)) rfl<|s_q (.int .i64 (w64 ((i_17:Int) - 1))) rfl rfl rfl<|s_do (o_iaddr (enc:=encGRow) rfl rfl (idx0 ex37) (idx1 ex37))<|s_q (.iptr (encGRow x_36) 0) rfl trivial rfl<|s_q (.int .i64 x_36.Id) rfl nle rfl<|s_mov (.lst 2 (rows_1.map encGRow)) rfl<|s_mov (.int .i64 (i_17:Int)) rfl<|s_do (o_iaddrn (enc:=encGRow) rfl rfl hx28)<|s_q (.iptr (encGRow x_33) 0) rfl trivial rfl<|s_q (.int .i64 x_33.Id) rfl nle rfl<|s_q (.bool (decide (x_36.Id ≥ x_33.Id))) rfl rfl rfl<|dk<|?_
   rcases oi hc1 with ⟨c38,hc1⟩ | ⟨c38,hc1⟩
   ·refine w_condt rfl c38<|sr<|s_mov (.bool false) rfl<|dk<|w_ret<|?_;obtain rfl:=os hc1;obtain rfl:=os hf;exact r_flat ⟨trivial,trivial⟩ rfl (.refl _)
   ·refine w_condf rfl (bf c38)<|w_skip<|k_blk<|k_seq<|w_reg<|s_mov (.int .i64 (i_17:Int)) rfl<|s_q (.int .i64 (w64 ((i_17:Int) + 1))) rfl rfl rfl<|s_mov (.int .i64 (w64 ((i_17:Int) + 1))) rfl<|w_done<|?_;exact k_loopn ⟨(i_17 + 1),hc1⟩ (mul hlt27) ⟨[],[],_,_,rfl,rfl,⟨.refl _,⟨.of_eq (congrArg (AV.int _) (w64_incr hlt27 hl35)),trivial⟩⟩,(.refl _)⟩
 ·rintro ⟨_,rfl⟩
  refine sr<|s_mov (.bool true) rfl<|dk<|w_ret<|?_;obtain rfl:=os hf;exact r_flat ⟨trivial,trivial⟩ rfl (.refl _)

/- impl.isPlain -/
def c200:ACode :=
 (.seq (.reg (tm 2 (.c (.bool false)) .done))
 (.seq (.seq (.reg (tm 4 (.t 0) (tq 5 (.lenS (.t 4)) (tm 6 (.c (.int .i64 0)) .done))))
 (.block 0 (.loop (.seq (.reg (tq 7 (.bin .lss (.t 6) (.t 5)) .done))
 (.seq (.cond (.t 7) .skip
 (.exit 0))
 (.seq (.block 1 (.seq (.reg (tm 8 (.t 6) (tm 3 (.t 8) .done)))
 (.seq (.reg (tm 9 (.t 0) (tm 10 (.t 3) (tq 11 (.idxs (.t 9) (.t 10)) (tq 12 (.bin .lss (.t 11) (.c (.int .u8 32))) (tm 13 (.t 12) (tg 14 13 false (.mov (.t 0)) (tg 15 13 false (.mov (.t 3)) (tg 16 13 false (.idxs (.t 14) (.t 15)) (tg 17 13 false (.bin .gtr (.t 16) (.c (.int .u8 126))) (tq 18 (.pick (.t 13) (.c (.bool true)) (.t 17)) .done)))))))))))
 (.cut (.cond (.t 18) (.seq (.reg (tm 2 (.c (.bool false)) .done))
 .ret)
 .skip)))))
 (.reg (tq 19 (.bin .add (.t 6) (.c (.int .i64 1))) (tm 6 (.t 19) .done)))))))))
 (.cut (.seq (.reg (tm 20 (.t 0) (tq 21 (.lenS (.t 20)) (tq 22 (.bin .leq (.t 21) (.c (.int .i64 200))) (tm 2 (.t 22) .done)))))
 .ret))))
theorem fc200:fcomp Tryz.prog Tryz.f200 = some (c200.erase,[.mov (.t 2)],23):=by kernel_rfl
def impl_isPlain_L1 :List UInt8 → Option (Fl Bool Unit)
  | [] =>
    some (.go ())
  | x_54 :: xs =>
    ((if (decide ((x_54.toNat:Int) < 32)) then
    some true
    else
    some (decide ((x_54.toNat:Int) > 126)):Option Bool)).bind fun s18_56 =>
    if s18_56 then
    some (.ret false)
    else
    impl_isPlain_L1 xs 

def impl_isPlain (t_1:Str):Option Bool :=
    (impl_isPlain_L1 t_1 ).bind fun q => (match q with
    | .ret r => some r
    | .go _ =>
    some (decide ((t_1.length:Int) ≤ 200)))
theorem w_impl_isPlain (t_1:Str) (r:Bool) (hf:impl_isPlain t_1 = some r):CallOK Tryz.prog 200 .flat [(.str t_1)] (.bool r):=by
 refine CallOK.of_awp mixed Tryz.func200 fc200 nle ?_;rw [argT_eq];unfold impl_isPlain at hf;unfold c200;refine (show awp Tryz.prog false 0 _ (ofL [(0,(.str t_1))]) [] _ from ?_);refine sr<|s_mov (.bool false) rfl<|dk<|awp_seq<|sr<|s_mov (.str t_1) rfl<|s_dof (o_lenS rfl) fun hl2 => s_mov (.int .i64 0) rfl<|dk<|?_
 obtain ⟨p47,hb1,hf⟩:=ob hf
 refine awp_cutx (X:={q:Unit // p47 = .go q}) (fun q => ([(0,(.str t_1))],[])) ?_ ?_
 ·refine awp_loop (X:={q:Nat // impl_isPlain_L1 (t_1.drop q)  = some p47}) (fun q => ([(0,(.str t_1)),(5,(.int .i64 (t_1.length:Int))),(6,(.int .i64 (q.1:Int)))],[])) (fun q => t_1.length - q.1) ⟨0,hb1⟩ ⟨[],[],_,_,rfl,rfl,⟨.refl _,⟨.refl _,⟨.refl _,trivial⟩⟩⟩,(.refl _)⟩ ?_
  rintro ⟨s6_32,hc1⟩
  have hc1:impl_isPlain_L1 (t_1.drop s6_32)  = some p47:=hc1
  refine (show awp Tryz.prog false 0 _ (ofL [(0,(.str t_1)),(5,(.int .i64 (t_1.length:Int))),(6,(.int .i64 (s6_32:Int)))]) [] _ from ?_)
  rcases dropc t_1 s6_32 with ⟨hie50,hd53⟩ | ⟨hlt48,x_54,hx49,hd53⟩
  ·rw [hd53,impl_isPlain_L1.eq_1] at hc1
   have hq52:=dlf hie50
   refine sr<|s_q (.bool (decide ((s6_32:Int) < (t_1.length:Int)))) rfl rfl rfl<|dk<|awp_seq<|w_condf rfl hq52<|w_exit<|k_seqx<|k_loopx<|k_blkx<|?_;obtain rfl:=os hc1;exact k_cutn ⟨_,rfl⟩ ⟨[],[],_,_,rfl,rfl,⟨.refl _,trivial⟩,(.refl _)⟩
  ·rw [hd53,impl_isPlain_L1.eq_2] at hc1
   have hq52:=dlt hlt48
   refine sr<|s_q (.bool (decide ((s6_32:Int) < (t_1.length:Int)))) rfl rfl rfl<|dk<|awp_seq<|w_condt rfl hq52<|w_skip<|k_seq<|awp_seq<|w_blk<|sr<|s_mov (.int .i64 (s6_32:Int)) rfl<|s_mov (.int .i64 (s6_32:Int)) rfl<|dk<|awp_seq<|?_
   obtain ⟨s18_56,hb2,hc1⟩:=ob hc1
   refine awp_cut ([(0,(.str t_1)),(5,(.int .i64 (t_1.length:Int))),(6,(.int .i64 (s6_32:Int))),(18,(.bool s18_56))],[]) ?_ ?_
   ·refine w_reg ?_
    rcases oi hb2 with ⟨c58,hb2⟩ | ⟨c58,hb2⟩
    ·refine s_mov (.str t_1) rfl<|s_mov (.int .i64 (s6_32:Int)) rfl<|s_do (o_idxsn rfl rfl hx49)<|s_q (.bool (decide ((x_54.toNat:Int) < 32))) rfl rfl rfl<|s_mov (.bool (decide ((x_54.toNat:Int) < 32))) rfl<|s_lit (s:=13) (b:=true) rfl c58<|s_off rfl rfl<|s_off rfl rfl<|s_off rfl rfl<|s_off rfl rfl<|s_q (.bool true) rfl trivial rfl<|w_done<|?_;obtain rfl:=os hb2;exact ⟨[],[],_,_,rfl,rfl,⟨.refl _,⟨.refl _,⟨.refl _,⟨.refl _,trivial⟩⟩⟩⟩,(.refl _)⟩
    ·refine s_mov (.str t_1) rfl<|s_mov (.int .i64 (s6_32:Int)) rfl<|s_do (o_idxsn rfl rfl hx49)<|s_q (.bool (decide ((x_54.toNat:Int) < 32))) rfl rfl rfl<|s_mov (.bool (decide ((x_54.toNat:Int) < 32))) rfl<|s_lit (s:=13) (b:=false) rfl (bf c58)<|s_on rfl<|s_mov (.str t_1) rfl<|s_on rfl<|s_mov (.int .i64 (s6_32:Int)) rfl<|s_on rfl<|s_do (o_idxsn rfl rfl hx49)<|s_on rfl<|s_q (.bool (decide ((x_54.toNat:Int) > 126))) rfl rfl rfl<|s_q (.bool (decide ((x_54.toNat:Int) > 126))) rfl trivial rfl<|w_done<|?_;obtain rfl:=os hb2;exact ⟨[],[],_,_,rfl,rfl,⟨.refl _,⟨.refl _,⟨.refl _,⟨.refl _,trivial⟩⟩⟩⟩,(.refl _)⟩
   ·rcases oi hc1 with ⟨c59,hc1⟩ | ⟨c59,hc1⟩
    ·refine w_condt rfl c59<|sr<|s_mov (.bool false) rfl<|dk<|w_ret<|?_;obtain rfl:=os hc1;obtain rfl:=os hf;exact r_flat ⟨trivial,trivial⟩ rfl (.refl _)
    ·refine w_condf rfl (bf c59)<|w_skip<|k_blk<|k_seq<|w_reg<|s_q (.int .i64 (w64 ((s6_32:Int) + 1))) rfl rfl rfl<|s_mov (.int .i64 (w64 ((s6_32:Int) + 1))) rfl<|w_done<|?_;exact k_loopn ⟨(s6_32 + 1),hc1⟩ (mul hlt48) ⟨[],[],_,_,rfl,rfl,⟨.refl _,⟨.refl _,⟨.of_eq (congrArg (AV.int _) (w64_incr hlt48 hl2)),trivial⟩⟩⟩,(.refl _)⟩
 ·rintro ⟨_,rfl⟩
  refine sr<|s_mov (.str t_1) rfl<|s_dof (o_lenS rfl) fun hl60 => s_q (.bool (decide ((t_1.length:Int) ≤ 200))) rfl rfl rfl<|s_mov (.bool (decide ((t_1.length:Int) ≤ 200))) rfl<|dk<|w_ret<|?_;obtain rfl:=os hf;exact r_flat ⟨trivial,trivial⟩ rfl (.refl _)

/- impl.AtomOK -/
def c164:ACode :=
 (.seq (.reg (tq 1 (.box 3 (.t 0)) (tm 2 (.c (.bool false)) .done)))
 (.seq (.seq (.reg (tq 3 (.faddr 0 (.t 1)) (tq 4 (.load 1 false (.t 3)) .done)))
 (.block 0 (.seq (.reg (tq 6 (.bin .eql (.t 4) (.c (.int .i64 1))) (tm 5 (.t 6) .done)))
 (.cond (.t 5) (.seq (.reg (tq 7 (.faddr 1 (.t 1)) (tq 8 (.load 1 false (.t 7)) (tq 9 (.call 132 [(.t 8)]) (tm 10 (.t 9) (tg 11 10 true (.faddr 2 (.t 1)) (tg 12 10 true (.load 1 false (.t 11)) (tg 13 10 true (.bin .eql (.t 12) (.c (.str []))) (tq 14 (.pick (.t 10) (.t 13) (.c (.bool false))) (tm 2 (.t 14) .done))))))))))
 .ret)
 (.seq (.reg (tq 16 (.bin .eql (.t 4) (.c (.int .i64 2))) (tm 15 (.t 16) .done)))
 (.cond (.t 15) (.seq (.reg (tq 17 (.faddr 1 (.t 1)) (tq 18 (.load 1 false (.t 17)) (tq 19 (.bin .eql (.t 18) (.c (.int .i64 0))) (tm 20 (.t 19) (tg 21 20 true (.faddr 2 (.t 1)) (tg 22 20 true (.load 1 false (.t 21)) (tg 23 20 true (.call 200 [(.t 22)]) (tq 24 (.pick (.t 20) (.t 23) (.c (.bool false))) (tm 2 (.t 24) .done))))))))))
 .ret)
 (.seq (.reg (tq 26 (.bin .eql (.t 4) (.c (.int .i64 3))) (tm 25 (.t 26) .done)))
 (.cond (.t 25) (.seq (.reg (tq 27 (.faddr 1 (.t 1)) (tq 28 (.load 1 false (.t 27)) (tq 29 (.call 43 [(.t 28),(.c (.int .i64 0)),(.c (.int .i64 1))]) (tm 30 (.t 29) (tg 31 30 true (.faddr 2 (.t 1)) (tg 32 30 true (.load 1 false (.t 31)) (tg 33 30 true (.bin .eql (.t 32) (.c (.str []))) (tq 34 (.pick (.t 30) (.t 33) (.c (.bool false))) (tm 2 (.t 34) .done))))))))))
 .ret)
 (.seq (.reg (tq 36 (.bin .eql (.t 4) (.c (.int .i64 4))) (tm 35 (.t 36) .done)))
 (.cond (.t 35) (.seq (.reg (tq 37 (.faddr 1 (.t 1)) (tq 38 (.load 1 false (.t 37)) (tq 39 (.call 73 [(.t 38)]) (tm 40 (.t 39) (tg 41 40 true (.faddr 2 (.t 1)) (tg 42 40 true (.load 1 false (.t 41)) (tg 43 40 true (.bin .eql (.t 42) (.c (.str []))) (tq 44 (.pick (.t 40) (.t 43) (.c (.bool false))) (tm 2 (.t 44) .done))))))))))
 .ret)
 .skip))))))))))
 (.seq (.reg (tm 2 (.c (.bool false)) .done))
 .ret)))
theorem fc164:fcomp Tryz.prog Tryz.f164 = some (c164.erase,[.mov (.t 2)],45):=by kernel_rfl
def impl_AtomOK (a_1:GAtom):Option Bool :=
    if (a_1.Kind == 1) then
    (impl_isNumber a_1.N).bind fun r_3 =>
    if r_3 then
    some (a_1.T == [])
    else
    some false
    else
    if (a_1.Kind == 2) then
    if (a_1.N == 0) then
    (impl_isPlain a_1.T).bind fun r_8 =>
    some r_8
    else
    some false
    else
    if (a_1.Kind == 3) then
    (impl_within a_1.N 0 1).bind fun r_11 =>
    if r_11 then
    some (a_1.T == [])
    else
    some false
    else
    if (a_1.Kind == 4) then
    (impl_isId a_1.N).bind fun r_15 =>
    if r_15 then
    some (a_1.T == [])
    else
    some false
    else
    some false
theorem w_impl_AtomOK (a_1:GAtom) (r:Bool) (hf:impl_AtomOK a_1 = some r):CallOK Tryz.prog 164 .flat [(encGAtom a_1)] (.bool r):=by
 refine CallOK.of_awp mixed Tryz.func164 fc164 nle ?_;rw [argT_eq];unfold impl_AtomOK at hf;unfold c164;refine (show awp Tryz.prog false 0 _ (ofL [(0,(encGAtom a_1))]) [] _ from ?_);refine sr<|s_do (o_box (j:=0) (c:=(.agg [(.int .i64 a_1.Kind),(.int .i64 a_1.N),(.str a_1.T)])) rfl trivial rfl rfl)<|s_mov (.bool false) rfl<|dk<|awp_seq<|sr<|s_q (.ptr 0 0 0) rfl trivial rfl<|s_q (.int .i64 a_1.Kind) rfl nle rfl<|dk<|w_blk<|sr<|s_q (.bool (a_1.Kind == 1)) rfl rfl rfl<|s_mov (.bool (a_1.Kind == 1)) rfl<|dk<|?_
 rcases oi hf with ⟨c2,hf⟩ | ⟨c2,hf⟩
 ·refine w_condt rfl c2<|sr<|?_
  obtain ⟨r_3,er4,hf⟩:=ob hf
  rcases oi hf with ⟨c5,hf⟩ | ⟨c5,hf⟩
  ·refine s_q (.ptr 0 0 1) rfl trivial rfl<|s_q (.int .i64 a_1.N) rfl nle rfl<|s_do (o_call (w_impl_isNumber _ _ er4) rfl (.refl _) rfl)<|s_mov (.bool r_3) rfl<|s_lit (s:=10) (b:=true) rfl c5<|s_on rfl<|s_q (.ptr 0 0 2) rfl trivial rfl<|s_on rfl<|s_q (.str a_1.T) rfl nle rfl<|s_on rfl<|s_q (.bool (a_1.T == [])) rfl trivial rfl<|s_q (.bool (a_1.T == [])) rfl trivial rfl<|s_mov (.bool (a_1.T == [])) rfl<|dk<|w_ret<|?_;obtain rfl:=os hf;exact r_flat ⟨trivial,trivial⟩ rfl (.refl _)
  ·refine s_q (.ptr 0 0 1) rfl trivial rfl<|s_q (.int .i64 a_1.N) rfl nle rfl<|s_do (o_call (w_impl_isNumber _ _ er4) rfl (.refl _) rfl)<|s_mov (.bool r_3) rfl<|s_lit (s:=10) (b:=false) rfl (bf c5)<|s_off rfl rfl<|s_off rfl rfl<|s_off rfl rfl<|s_q (.bool false) rfl trivial rfl<|s_mov (.bool false) rfl<|dk<|w_ret<|?_;obtain rfl:=os hf;exact r_flat ⟨trivial,trivial⟩ rfl (.refl _)
 ·refine w_condf rfl (bf c2)<|sr<|s_q (.bool (a_1.Kind == 2)) rfl rfl rfl<|s_mov (.bool (a_1.Kind == 2)) rfl<|dk<|?_
  rcases oi hf with ⟨c6,hf⟩ | ⟨c6,hf⟩
  ·refine w_condt rfl c6<|sr<|?_
   rcases oi hf with ⟨c7,hf⟩ | ⟨c7,hf⟩
   ·obtain ⟨r_8,er9,hf⟩:=ob hf
    refine s_q (.ptr 0 0 1) rfl trivial rfl<|s_q (.int .i64 a_1.N) rfl nle rfl<|s_q (.bool (a_1.N == 0)) rfl rfl rfl<|s_mov (.bool (a_1.N == 0)) rfl<|s_lit (s:=20) (b:=true) rfl c7<|s_on rfl<|s_q (.ptr 0 0 2) rfl trivial rfl<|s_on rfl<|s_q (.str a_1.T) rfl nle rfl<|s_on rfl<|s_do (o_call (w_impl_isPlain _ _ er9) rfl (.refl _) rfl)<|s_q (.bool r_8) rfl trivial rfl<|s_mov (.bool r_8) rfl<|dk<|w_ret<|?_;obtain rfl:=os hf;exact r_flat ⟨trivial,trivial⟩ rfl (.refl _)
   ·refine s_q (.ptr 0 0 1) rfl trivial rfl<|s_q (.int .i64 a_1.N) rfl nle rfl<|s_q (.bool (a_1.N == 0)) rfl rfl rfl<|s_mov (.bool (a_1.N == 0)) rfl<|s_lit (s:=20) (b:=false) rfl (bf c7)<|s_off rfl rfl<|s_off rfl rfl<|s_off rfl rfl<|s_q (.bool false) rfl trivial rfl<|s_mov (.bool false) rfl<|dk<|w_ret<|?_;obtain rfl:=os hf;exact r_flat ⟨trivial,trivial⟩ rfl (.refl _)
  ·refine w_condf rfl (bf c6)<|sr<|s_q (.bool (a_1.Kind == 3)) rfl rfl rfl<|s_mov (.bool (a_1.Kind == 3)) rfl<|dk<|?_
   rcases oi hf with ⟨c10,hf⟩ | ⟨c10,hf⟩
   ·refine w_condt rfl c10<|sr<|?_
    obtain ⟨r_11,er12,hf⟩:=ob hf
    rcases oi hf with ⟨c13,hf⟩ | ⟨c13,hf⟩
    ·refine s_q (.ptr 0 0 1) rfl trivial rfl<|s_q (.int .i64 a_1.N) rfl nle rfl<|s_do (o_call (w_impl_within _ _ _ _ er12) rfl (.refl _) rfl)<|s_mov (.bool r_11) rfl<|s_lit (s:=30) (b:=true) rfl c13<|s_on rfl<|s_q (.ptr 0 0 2) rfl trivial rfl<|s_on rfl<|s_q (.str a_1.T) rfl nle rfl<|s_on rfl<|s_q (.bool (a_1.T == [])) rfl trivial rfl<|s_q (.bool (a_1.T == [])) rfl trivial rfl<|s_mov (.bool (a_1.T == [])) rfl<|dk<|w_ret<|?_;obtain rfl:=os hf;exact r_flat ⟨trivial,trivial⟩ rfl (.refl _)
    ·refine s_q (.ptr 0 0 1) rfl trivial rfl<|s_q (.int .i64 a_1.N) rfl nle rfl<|s_do (o_call (w_impl_within _ _ _ _ er12) rfl (.refl _) rfl)<|s_mov (.bool r_11) rfl<|s_lit (s:=30) (b:=false) rfl (bf c13)<|s_off rfl rfl<|s_off rfl rfl<|s_off rfl rfl<|s_q (.bool false) rfl trivial rfl<|s_mov (.bool false) rfl<|dk<|w_ret<|?_;obtain rfl:=os hf;exact r_flat ⟨trivial,trivial⟩ rfl (.refl _)
   ·refine w_condf rfl (bf c10)<|sr<|s_q (.bool (a_1.Kind == 4)) rfl rfl rfl<|s_mov (.bool (a_1.Kind == 4)) rfl<|dk<|?_
    rcases oi hf with ⟨c14,hf⟩ | ⟨c14,hf⟩
    ·refine w_condt rfl c14<|sr<|?_
     obtain ⟨r_15,er16,hf⟩:=ob hf
     rcases oi hf with ⟨c17,hf⟩ | ⟨c17,hf⟩
     ·refine s_q (.ptr 0 0 1) rfl trivial rfl<|s_q (.int .i64 a_1.N) rfl nle rfl<|s_do (o_call (w_impl_isId _ _ er16) rfl (.refl _) rfl)<|s_mov (.bool r_15) rfl<|s_lit (s:=40) (b:=true) rfl c17<|s_on rfl<|s_q (.ptr 0 0 2) rfl trivial rfl<|s_on rfl<|s_q (.str a_1.T) rfl nle rfl<|s_on rfl<|s_q (.bool (a_1.T == [])) rfl trivial rfl<|s_q (.bool (a_1.T == [])) rfl trivial rfl<|s_mov (.bool (a_1.T == [])) rfl<|dk<|w_ret<|?_;obtain rfl:=os hf;exact r_flat ⟨trivial,trivial⟩ rfl (.refl _)
     ·refine s_q (.ptr 0 0 1) rfl trivial rfl<|s_q (.int .i64 a_1.N) rfl nle rfl<|s_do (o_call (w_impl_isId _ _ er16) rfl (.refl _) rfl)<|s_mov (.bool r_15) rfl<|s_lit (s:=40) (b:=false) rfl (bf c17)<|s_off rfl rfl<|s_off rfl rfl<|s_off rfl rfl<|s_q (.bool false) rfl trivial rfl<|s_mov (.bool false) rfl<|dk<|w_ret<|?_;obtain rfl:=os hf;exact r_flat ⟨trivial,trivial⟩ rfl (.refl _)
    ·refine w_condf rfl (bf c14)<|w_skip<|k_blk<|k_seq<|sr<|s_mov (.bool false) rfl<|dk<|w_ret<|?_;obtain rfl:=os hf;exact r_flat ⟨trivial,trivial⟩ rfl (.refl _)

/- cmp.isNaN[int] -/
def c222:ACode :=
 (.seq (.reg (tm 2 (.c (.bool false)) .done))
 (.seq (.reg (tm 3 (.t 0) (tm 4 (.t 0) (tq 5 (.bin .neq (.t 3) (.t 4)) (tm 2 (.t 5) .done)))))
 .ret))
theorem fc222:fcomp Tryz.prog Tryz.f222 = some (c222.erase,[.mov (.t 2)],6):=by kernel_rfl
def cmp_isNaN_int (x_1:Int):Option Bool :=
    some (x_1 != x_1)
theorem w_cmp_isNaN_int (x_1:Int) (r:Bool) (hf:cmp_isNaN_int x_1 = some r):CallOK Tryz.prog 222 .flat [(.int .i64 x_1)] (.bool r):=by
  refine CallOK.of_awp mixed Tryz.func222 fc222 nle ?_
  rw [argT_eq]
  unfold cmp_isNaN_int at hf
  unfold c222
  refine (show awp Tryz.prog false 0 _ (ofL [(0,(.int .i64 x_1))]) [] _ from ?_)
  refine awp_seq ?_
  refine w_reg ?_
  refine s_do (o_mov (.bool false) rfl) ?_
  refine w_done ?_
  refine k_seq ?_
  refine awp_seq ?_
  refine w_reg ?_
  refine s_do (o_mov (.int .i64 x_1) rfl) ?_
  refine s_do (o_mov (.int .i64 x_1) rfl) ?_
  refine s_do (o_q (.bool (x_1 != x_1)) rfl rfl rfl) ?_
  refine s_do (o_mov (.bool (x_1 != x_1)) rfl) ?_
  refine w_done ?_
  refine k_seq ?_
  refine w_ret ?_
  obtain rfl:=os hf
  exact r_flat ⟨trivial,trivial⟩ rfl (.refl _)

/- cmp.Compare[int] -/
def c202:ACode :=
 (.seq (.reg (tm 4 (.c (.int .i64 0)) .done))
 (.seq (.reg (tm 7 (.t 0) (tq 8 (.call 222 [(.t 7)]) (tm 5 (.t 8) .done))))
 (.seq (.reg (tm 9 (.t 1) (tq 10 (.call 222 [(.t 9)]) (tm 6 (.t 10) .done))))
 (.seq (.seq (.reg (tm 11 (.t 5) .done))
 (.cond (.t 11) (.seq (.seq (.reg (tm 12 (.t 6) .done))
 (.cond (.t 12) (.seq (.reg (tm 4 (.c (.int .i64 0)) .done))
 .ret)
 .skip))
 (.seq (.reg (tq 4 (.mov (.c (.int .i64 (-1)))) .done))
 .ret))
 .skip))
 (.seq (.seq (.reg (tm 13 (.t 6) .done))
 (.cond (.t 13) (.seq (.reg (tm 4 (.c (.int .i64 1)) .done))
 .ret)
 .skip))
 (.seq (.seq (.reg (tm 14 (.t 0) (tm 15 (.t 1) (tq 16 (.bin .lss (.t 14) (.t 15)) .done))))
 (.cond (.t 16) (.seq (.reg (tq 4 (.mov (.c (.int .i64 (-1)))) .done))
 .ret)
 .skip))
 (.seq (.seq (.reg (tm 17 (.t 0) (tm 18 (.t 1) (tq 19 (.bin .gtr (.t 17) (.t 18)) .done))))
 (.cond (.t 19) (.seq (.reg (tm 4 (.c (.int .i64 1)) .done))
 .ret)
 .skip))
 (.seq (.reg (tm 4 (.c (.int .i64 0)) .done))
 .ret))))))))
theorem fc202:fcomp Tryz.prog Tryz.f202 = some (c202.erase,[.mov (.t 4)],20):=by kernel_rfl
def cmp_Compare_int (x_1:Int) (y_2:Int):Option Int :=
    (cmp_isNaN_int x_1).bind fun r_3 =>
    (cmp_isNaN_int y_2).bind fun r_5 =>
    if r_3 then
    if r_5 then
    some 0
    else
    some (-1)
    else
    if r_5 then
    some 1
    else
    if (decide (x_1 < y_2)) then
    some (-1)
    else
    if (decide (x_1 > y_2)) then
    some 1
    else
    some 0
theorem w_cmp_Compare_int (x_1:Int) (y_2:Int) (r:Int) (hf:cmp_Compare_int x_1 y_2 = some r):CallOK Tryz.prog 202 .flat [(.int .i64 x_1),(.int .i64 y_2)] (.int .i64 r):=by
 refine CallOK.of_awp mixed Tryz.func202 fc202 nle ?_;rw [argT_eq];unfold cmp_Compare_int at hf;unfold c202;refine (show awp Tryz.prog false 0 _ (ofL [(0,(.int .i64 x_1)),(1,(.int .i64 y_2))]) [] _ from ?_);refine sr<|s_mov (.int .i64 0) rfl<|dk<|sr<|?_
 obtain ⟨r_3,er4,hf⟩:=ob hf
 refine s_mov (.int .i64 x_1) rfl<|s_do (o_call (w_cmp_isNaN_int _ _ er4) rfl (.refl _) rfl)<|s_mov (.bool r_3) rfl<|dk<|sr<|?_
 obtain ⟨r_5,er6,hf⟩:=ob hf
 refine s_mov (.int .i64 y_2) rfl<|s_do (o_call (w_cmp_isNaN_int _ _ er6) rfl (.refl _) rfl)<|s_mov (.bool r_5) rfl<|dk<|awp_seq<|sr<|s_mov (.bool r_3) rfl<|dk<|?_
 rcases oi hf with ⟨c7,hf⟩ | ⟨c7,hf⟩
 ·refine w_condt rfl c7<|awp_seq<|sr<|s_mov (.bool r_5) rfl<|dk<|?_
  rcases oi hf with ⟨c8,hf⟩ | ⟨c8,hf⟩
  ·refine w_condt rfl c8<|sr<|s_mov (.int .i64 0) rfl<|dk<|w_ret<|?_;obtain rfl:=os hf;exact r_flat ⟨trivial,trivial⟩ rfl (.refl _)
  ·refine w_condf rfl (bf c8)<|w_skip<|k_seq<|sr<|s_mov (.int .i64 (-1)) rfl<|dk<|w_ret<|?_;obtain rfl:=os hf;exact r_flat ⟨trivial,trivial⟩ rfl (.refl _)
 ·refine w_condf rfl (bf c7)<|w_skip<|k_seq<|awp_seq<|sr<|s_mov (.bool r_5) rfl<|dk<|?_
  rcases oi hf with ⟨c9,hf⟩ | ⟨c9,hf⟩
  ·refine w_condt rfl c9<|sr<|s_mov (.int .i64 1) rfl<|dk<|w_ret<|?_;obtain rfl:=os hf;exact r_flat ⟨trivial,trivial⟩ rfl (.refl _)
  ·refine w_condf rfl (bf c9)<|w_skip<|k_seq<|awp_seq<|sr<|s_mov (.int .i64 x_1) rfl<|s_mov (.int .i64 y_2) rfl<|s_q (.bool (decide (x_1 < y_2))) rfl rfl rfl<|dk<|?_
   rcases oi hf with ⟨c10,hf⟩ | ⟨c10,hf⟩
   ·refine w_condt rfl c10<|sr<|s_mov (.int .i64 (-1)) rfl<|dk<|w_ret<|?_;obtain rfl:=os hf;exact r_flat ⟨trivial,trivial⟩ rfl (.refl _)
   ·refine w_condf rfl (bf c10)<|w_skip<|k_seq<|awp_seq<|sr<|s_mov (.int .i64 x_1) rfl<|s_mov (.int .i64 y_2) rfl<|s_q (.bool (decide (x_1 > y_2))) rfl rfl rfl<|dk<|?_
    rcases oi hf with ⟨c11,hf⟩ | ⟨c11,hf⟩
    ·refine w_condt rfl c11<|sr<|s_mov (.int .i64 1) rfl<|dk<|w_ret<|?_;obtain rfl:=os hf;exact r_flat ⟨trivial,trivial⟩ rfl (.refl _)
    ·refine w_condf rfl (bf c11)<|w_skip<|k_seq<|sr<|s_mov (.int .i64 0) rfl<|dk<|w_ret<|?_;obtain rfl:=os hf;exact r_flat ⟨trivial,trivial⟩ rfl (.refl _)

/- internal/bytealg.CompareString -/
def internal_bytealg_CompareString (a b:Str):Option Int:=some (Lib.compareBytes a b)
set_option maxRecDepth 100000 in
open Go.RowKit in
theorem cmps_run (a b:ByteArray) (w:World):Calls Tryz.prog 223 #[.string a,.string b] w fun e w' => e = .returned (.int .i64 (Lib.compareBytes a.data.toList b.data.toList)) ∧ w' = w:=by
  go_enter Tryz.func223,(show Tryz.f223.ntmps = _ from rfl)
  go_wp2
  rw [run_callFunc_extern Tryz.func232 (by kernel_rfl) (by kernel_rfl) (by kernel_rfl) (e:=Extern.BytealgCompare.compare) (by kernel_rfl),Lib.run_compareString]
  simp only [Result.andThen]
  rw [Oper.upon_value]
  go_wp2
  go_ret
  exact ⟨rfl,rfl⟩
open Go.RowKit in
theorem w_internal_bytealg_CompareString (a b:Str) (r:Int) (hf:internal_bytealg_CompareString a b = some r):CallOK Tryz.prog 223 .flat [(.str a),(.str b)] (.int .i64 r):=by
  intro w vals fps hr
  simp only [RepVs,Rep] at hr
  obtain ⟨v1,vs1,f1,f2,rfl,⟨rfl,h1,rfl⟩,⟨v2,vs2,f3,f4,rfl,⟨rfl,h2,rfl⟩,⟨rfl,rfl⟩,rfl⟩,rfl⟩:=hr
  unfold internal_bytealg_CompareString at hf
  obtain rfl:=os hf
  refine (cmps_run ⟨a.toArray⟩ ⟨b.toArray⟩ w).mono ?_
  rintro e w' ⟨rfl,rfl⟩
  refine ⟨Below.refl _ _,?_⟩
  exact ⟨[.int .i64 (Lib.compareBytes a b)],rfl,by simp [Rep]⟩

/- strings.Compare -/
def c203:ACode :=
 (.seq (.reg (tm 4 (.c (.int .i64 0)) .done))
 (.seq (.reg (tm 5 (.t 0) (tm 6 (.t 1) (tq 7 (.call 223 [(.t 5),(.t 6)]) (tm 4 (.t 7) .done)))))
 .ret))
theorem fc203:fcomp Tryz.prog Tryz.f203 = some (c203.erase,[.mov (.t 4)],8):=by kernel_rfl
def strings_Compare (a_1:Str) (b_2:Str):Option Int :=
    (internal_bytealg_CompareString a_1 b_2).bind fun r_3 =>
    some r_3
theorem w_strings_Compare (a_1:Str) (b_2:Str) (r:Int) (hf:strings_Compare a_1 b_2 = some r):CallOK Tryz.prog 203 .flat [(.str a_1),(.str b_2)] (.int .i64 r):=by
  refine CallOK.of_awp mixed Tryz.func203 fc203 nle ?_
  rw [argT_eq]
  unfold strings_Compare at hf
  unfold c203
  refine (show awp Tryz.prog false 0 _ (ofL [(0,(.str a_1)),(1,(.str b_2))]) [] _ from ?_)
  refine awp_seq ?_
  refine w_reg ?_
  refine s_do (o_mov (.int .i64 0) rfl) ?_
  refine w_done ?_
  refine k_seq ?_
  refine awp_seq ?_
  refine w_reg ?_
  obtain ⟨r_3,er4,hf⟩:=ob hf
  refine s_do (o_mov (.str a_1) rfl) ?_
  refine s_do (o_mov (.str b_2) rfl) ?_
  refine s_do (o_call (w_internal_bytealg_CompareString _ _ _ er4) rfl (.refl _) rfl) ?_
  refine s_do (o_mov (.int .i64 r_3) rfl) ?_
  refine w_done ?_
  refine k_seq ?_
  refine w_ret ?_
  obtain rfl:=os hf
  exact r_flat ⟨trivial,trivial⟩ rfl (.refl _)

/- cmp.Or[int] -/
def c201:ACode :=
 (.seq (.reg (tm 2 (.c (.int .i64 0)) .done))
 (.seq (.reg (tm 3 (.c (.int .i64 0)) .done))
 (.seq (.seq (.reg (tm 6 (.t 0) (tq 7 (.len (.t 6)) (tm 8 (.c (.int .i64 0)) .done))))
 (.block 0 (.loop (.seq (.reg (tq 9 (.bin .lss (.t 8) (.t 7)) .done))
 (.seq (.cond (.t 9) .skip
 (.exit 0))
 (.seq (.block 1 (.seq (.reg (tq 10 (.iaddr 1 (.t 6) (.t 8)) (tq 11 (.load 1 false (.t 10)) (tm 5 (.t 11) .done))))
 (.seq (.reg (tm 12 (.t 5) (tm 13 (.t 3) (tq 14 (.bin .neq (.t 12) (.t 13)) .done))))
 (.cond (.t 14) (.seq (.reg (tm 15 (.t 5) (tm 2 (.t 15) .done)))
 .ret)
 .skip))))
 (.reg (tq 16 (.bin .add (.t 8) (.c (.int .i64 1))) (tm 8 (.t 16) .done)))))))))
 (.cut (.seq (.reg (tm 17 (.t 3) (tm 2 (.t 17) .done)))
 .ret)))))
theorem fc201:fcomp Tryz.prog Tryz.f201 = some (c201.erase,[.mov (.t 2)],18):=by kernel_rfl
def cmp_Or_int_L1 :List Int → Option (Fl Int Unit)
  | [] =>
    some (.go ())
  | x_24 :: xs =>
    if (x_24 != 0) then
    some (.ret x_24)
    else
    cmp_Or_int_L1 xs 

def cmp_Or_int (vals_1:(List Int)):Option Int :=
    (cmp_Or_int_L1 vals_1 ).bind fun q => (match q with
    | .ret r => some r
    | .go _ =>
    some 0)
theorem w_cmp_Or_int (vals_1:(List Int)) (r:Int) (hf:cmp_Or_int vals_1 = some r):CallOK Tryz.prog 201 .flat [(.lst 1 (vals_1.map encI))] (.int .i64 r):=by
 refine CallOK.of_awp mixed Tryz.func201 fc201 nle ?_;rw [argT_eq];unfold cmp_Or_int at hf;unfold c201;refine (show awp Tryz.prog false 0 _ (ofL [(0,(.lst 1 (vals_1.map encI)))]) [] _ from ?_);refine sr<|s_mov (.int .i64 0) rfl<|dk<|sr<|s_mov (.int .i64 0) rfl<|dk<|awp_seq<|sr<|s_mov (.lst 1 (vals_1.map encI)) rfl<|s_dof (o_len (enc:=encI) rfl) fun hl2 => s_mov (.int .i64 0) rfl<|dk<|?_
 obtain ⟨p17,hb1,hf⟩:=ob hf
 refine awp_cutx (X:={q:Unit // p17 = .go q}) (fun q => ([(3,(.int .i64 0))],[])) ?_ ?_
 ·refine awp_loop (X:={q:Nat // cmp_Or_int_L1 (vals_1.drop q)  = some p17}) (fun q => ([(3,(.int .i64 0)),(6,(.lst 1 (vals_1.map encI))),(7,(.int .i64 (vals_1.length:Int))),(8,(.int .i64 (q.1:Int)))],[])) (fun q => vals_1.length - q.1) ⟨0,hb1⟩ ⟨[],[],_,_,rfl,rfl,⟨.refl _,⟨.refl _,⟨.refl _,⟨.refl _,trivial⟩⟩⟩⟩,(.refl _)⟩ ?_
  rintro ⟨s8_12,hc1⟩
  have hc1:cmp_Or_int_L1 (vals_1.drop s8_12)  = some p17:=hc1
  refine (show awp Tryz.prog false 0 _ (ofL [(3,(.int .i64 0)),(6,(.lst 1 (vals_1.map encI))),(7,(.int .i64 (vals_1.length:Int))),(8,(.int .i64 (s8_12:Int)))]) [] _ from ?_)
  rcases dropc vals_1 s8_12 with ⟨hie20,hd23⟩ | ⟨hlt18,x_24,hx19,hd23⟩
  ·rw [hd23,cmp_Or_int_L1.eq_1] at hc1
   have hq22:=dlf hie20
   refine sr<|s_q (.bool (decide ((s8_12:Int) < (vals_1.length:Int)))) rfl rfl rfl<|dk<|awp_seq<|w_condf rfl hq22<|w_exit<|k_seqx<|k_loopx<|k_blkx<|?_;obtain rfl:=os hc1;exact k_cutn ⟨_,rfl⟩ ⟨[],[],_,_,rfl,rfl,⟨.refl _,trivial⟩,(.refl _)⟩
  ·rw [hd23,cmp_Or_int_L1.eq_2] at hc1
   have hq22:=dlt hlt18
   refine sr<|s_q (.bool (decide ((s8_12:Int) < (vals_1.length:Int)))) rfl rfl rfl<|dk<|awp_seq<|w_condt rfl hq22<|w_skip<|k_seq<|awp_seq<|w_blk<|sr<|s_do (o_iaddrn (enc:=encI) rfl rfl hx19)<|s_q (.int .i64 x_24) rfl ⟨rfl,rfl⟩ rfl<|s_mov (.int .i64 x_24) rfl<|dk<|sr<|s_mov (.int .i64 x_24) rfl<|s_mov (.int .i64 0) rfl<|s_q (.bool (x_24 != 0)) rfl rfl rfl<|dk<|?_
   rcases oi hc1 with ⟨c25,hc1⟩ | ⟨c25,hc1⟩
   ·refine w_condt rfl c25<|sr<|s_mov (.int .i64 x_24) rfl<|s_mov (.int .i64 x_24) rfl<|dk<|w_ret<|?_;obtain rfl:=os hc1;obtain rfl:=os hf;exact r_flat ⟨trivial,trivial⟩ rfl (.refl _)
   ·refine w_condf rfl (bf c25)<|w_skip<|k_blk<|k_seq<|w_reg<|s_q (.int .i64 (w64 ((s8_12:Int) + 1))) rfl rfl rfl<|s_mov (.int .i64 (w64 ((s8_12:Int) + 1))) rfl<|w_done<|?_;exact k_loopn ⟨(s8_12 + 1),hc1⟩ (mul hlt18) ⟨[],[],_,_,rfl,rfl,⟨.refl _,⟨.refl _,⟨.refl _,⟨.of_eq (congrArg (AV.int _) (w64_incr hlt18 hl2)),trivial⟩⟩⟩⟩,(.refl _)⟩
 ·rintro ⟨_,rfl⟩
  refine sr<|s_mov (.int .i64 0) rfl<|s_mov (.int .i64 0) rfl<|dk<|w_ret<|?_;obtain rfl:=os hf;exact r_flat ⟨trivial,trivial⟩ rfl (.refl _)

/- impl.compareAtoms -/
def c165:ACode :=
 (.seq (.reg (tq 2 (.box 3 (.t 0)) (tq 3 (.box 3 (.t 1)) (tm 4 (.c (.int .i64 0)) .done))))
 (.seq (.reg (tq 5 (.faddr 0 (.t 2)) (tq 6 (.load 1 false (.t 5)) (tq 7 (.faddr 0 (.t 3)) (tq 8 (.load 1 false (.t 7)) (tq 10 (.faddr 1 (.t 2)) (tq 11 (.load 1 false (.t 10)) (tq 12 (.faddr 1 (.t 3)) (tq 13 (.load 1 false (.t 12)) (tq 15 (.faddr 2 (.t 2)) (tq 16 (.load 1 false (.t 15)) (tq 17 (.faddr 2 (.t 3)) (tq 18 (.load 1 false (.t 17)) (.l ⟨(some 9),none,.call 202 [(.t 6),(.t 8)]⟩ [⟨(some 18),none,.load 1 false (.t 17)⟩,⟨(some 17),none,.faddr 2 (.t 3)⟩,⟨(some 16),none,.load 1 false (.t 15)⟩,⟨(some 15),none,.faddr 2 (.t 2)⟩,⟨(some 13),none,.load 1 false (.t 12)⟩,⟨(some 12),none,.faddr 1 (.t 3)⟩,⟨(some 11),none,.load 1 false (.t 10)⟩,⟨(some 10),none,.faddr 1 (.t 2)⟩]
 (.l ⟨(some 14),none,.call 202 [(.t 11),(.t 13)]⟩ [⟨(some 18),none,.load 1 false (.t 17)⟩,⟨(some 17),none,.faddr 2 (.t 3)⟩,⟨(some 16),none,.load 1 false (.t 15)⟩,⟨(some 15),none,.faddr 2 (.t 2)⟩]
 (.l ⟨(some 19),none,.call 203 [(.t 16),(.t 18)]⟩ []
 (.l ⟨(some 20),none,.bslice 1 [(.t 9),(.t 14),(.t 19)]⟩ []
 (.l ⟨(some 21),none,.call 201 [(.t 20)]⟩ []
 (tm 4 (.t 21) .done) .non) .non) .non) .non) .non))))))))))))))
 .ret))
theorem fc165:fcomp Tryz.prog Tryz.f165 = some (c165.erase,[.mov (.t 4)],22):=by kernel_rfl
def impl_compareAtoms (a_1:GAtom) (b_2:GAtom):Option Int :=
    (cmp_Compare_int a_1.Kind b_2.Kind).bind fun r_3 =>
    (cmp_Compare_int a_1.N b_2.N).bind fun r_5 =>
    (strings_Compare a_1.T b_2.T).bind fun r_7 =>
    (cmp_Or_int [r_3,r_5,r_7]).bind fun r_9 =>
    some r_9
theorem w_impl_compareAtoms (a_1:GAtom) (b_2:GAtom) (r:Int) (hf:impl_compareAtoms a_1 b_2 = some r):CallOK Tryz.prog 165 .flat [(encGAtom a_1),(encGAtom b_2)] (.int .i64 r):=by
 refine CallOK.of_awp mixed Tryz.func165 fc165 nle ?_;rw [argT_eq];unfold impl_compareAtoms at hf;unfold c165;refine (show awp Tryz.prog false 0 _ (ofL [(0,(encGAtom a_1)),(1,(encGAtom b_2))]) [] _ from ?_);refine sr<|s_do (o_box (j:=0) (c:=(.agg [(.int .i64 a_1.Kind),(.int .i64 a_1.N),(.str a_1.T)])) rfl trivial rfl rfl)<|s_do (o_box (j:=1) (c:=(.agg [(.int .i64 b_2.Kind),(.int .i64 b_2.N),(.str b_2.T)])) rfl trivial rfl rfl)<|s_mov (.int .i64 0) rfl<|dk<|sr<|s_q (.ptr 0 0 0) rfl trivial rfl<|s_q (.int .i64 a_1.Kind) rfl nle rfl<|s_q (.ptr 1 0 0) rfl trivial rfl<|s_q (.int .i64 b_2.Kind) rfl nle rfl<|s_q (.ptr 0 0 1) rfl trivial rfl<|s_q (.int .i64 a_1.N) rfl nle rfl<|?_
 refine s_q (.ptr 1 0 1) rfl trivial rfl<|s_q (.int .i64 b_2.N) rfl nle rfl<|s_q (.ptr 0 0 2) rfl trivial rfl<|s_q (.str a_1.T) rfl nle rfl<|s_q (.ptr 1 0 2) rfl trivial rfl<|s_q (.str b_2.T) rfl nle rfl<|?_
 obtain ⟨r_3,er4,hf⟩:=ob hf
 refine s_dol (o_call (w_cmp_Compare_int _ _ _ er4) rfl (.refl _) rfl) a_same trivial ?_
 obtain ⟨r_5,er6,hf⟩:=ob hf
 refine s_dol (o_call (w_cmp_Compare_int _ _ _ er6) rfl (.refl _) rfl) a_same trivial ?_
 obtain ⟨r_7,er8,hf⟩:=ob hf
 refine s_dol (o_call (w_strings_Compare _ _ _ er8) rfl (.refl _) rfl) a_same trivial ?_;refine s_dol (o_bslice (j:=2) (as':=[(.int .i64 r_3),(.int .i64 r_5),(.int .i64 r_7)]) rfl (fun _ => by decide) ⟨rfl,⟨rfl,⟨rfl,trivial⟩⟩⟩ (.refl _) rfl rfl rfl) trivial trivial ?_
 obtain ⟨r_9,er10,hf⟩:=ob hf
 refine s_dol (o_call (w_cmp_Or_int _ _ er10) rfl (.cons (.of_eq (congrArg (AV.lst _) (tko [r_3,r_5,r_7]))) .nil) rfl) a_same trivial<|s_mov (.int .i64 r_9) rfl<|dk<|w_ret<|?_;obtain rfl:=os hf;exact r_flat ⟨trivial,trivial⟩ rfl (.refl _)

/- impl.DatumOK -/
def c117:ACode :=
 (.seq (.reg (tm 2 (.c (.bool false)) .done))
 (.seq (.seq (.reg (tm 5 (.t 0) (tq 6 (.len (.t 5)) (tm 7 (.c (.int .i64 0)) .done))))
 (.block 0 (.loop (.seq (.reg (tq 8 (.bin .lss (.t 7) (.t 6)) .done))
 (.seq (.cond (.t 8) .skip
 (.exit 0))
 (.seq (.block 1 (.seq (.reg (tm 9 (.t 7) (tq 10 (.iaddr 3 (.t 5) (.t 7)) (tq 11 (.load 3 true (.t 10)) (tq 4 (.box 3 (.c (.agg [(.int .i64 0),(.int .i64 0),(.str [])]))) (tm 3 (.t 9) (.q ⟨none,none,.store 3 (.t 4) (.t 11)⟩
 .done)))))))
 (.seq (.reg (tq 12 (.load 3 true (.t 4)) (.l ⟨(some 13),none,.call 164 [(.t 12)]⟩ []
 (tq 14 (.not (.t 13)) (tm 15 (.t 14) (tg 16 15 false (.faddr 0 (.t 4)) (tg 17 15 false (.load 1 false (.t 16)) (tg 18 15 false (.mov (.t 0)) (tg 19 15 false (.iaddr 3 (.t 18) (.c (.int .i64 0))) (tg 20 15 false (.faddr 0 (.t 19)) (tg 21 15 false (.load 1 false (.t 20)) (tg 22 15 false (.bin .neq (.t 17) (.t 21)) (tq 23 (.pick (.t 15) (.c (.bool true)) (.t 22)) (tm 24 (.t 23) (tg 25 24 false (.mov (.t 3)) (tg 26 24 false (.bin .gtr (.t 25) (.c (.int .i64 0))) (tg 27 24 false (.mov (.t 26)) (tg 28 27 true (.mov (.t 0)) (tg 29 27 true (.mov (.t 3)) (tg 30 27 true (.bin .sub (.t 29) (.c (.int .i64 1))) (tg 31 27 true (.iaddr 3 (.t 28) (.t 30)) (tg 32 27 true (.load 3 true (.t 31)) (tg 33 27 true (.load 3 true (.t 4)) (.l ⟨(some 34),(some (27,true)),.call 165 [(.t 32),(.t 33)]⟩ []
 (tg 35 27 true (.bin .geq (.t 34) (.c (.int .i64 0))) (tg 36 24 false (.pick (.t 27) (.t 35) (.c (.bool false))) (tq 37 (.pick (.t 24) (.c (.bool true)) (.t 36)) .done))) .non))))))))))))))))))))) .non)))
 (.cut (.cond (.t 37) (.seq (.reg (tm 2 (.c (.bool false)) .done))
 .ret)
 .skip)))))
 (.reg (tq 38 (.bin .add (.t 7) (.c (.int .i64 1))) (tm 7 (.t 38) .done)))))))))
 (.cut (.seq (.reg (tm 39 (.t 0) (tq 40 (.len (.t 39)) (tq 41 (.bin .leq (.t 40) (.c (.int .i64 8))) (tm 2 (.t 41) .done)))))
 .ret))))
theorem fc117:fcomp Tryz.prog Tryz.f117 = some (c117.erase,[.mov (.t 2)],42):=by kernel_rfl
def impl_DatumOK_L1 (d_1:(List GAtom)):List GAtom → Nat → Option (Fl Bool Unit)
  | [],s7_60 =>
    some (.go ())
  | x_96 :: xs,s7_60 =>
    (((impl_AtomOK x_96).bind fun r_110 =>
    if (!r_110) then
    some true
    else
    (idx d_1 0).bind fun x_113 =>
    if (x_96.Kind != x_113.Kind) then
    some true
    else
    if (decide ((s7_60:Int) > 0)) then
    (idx d_1 (w64 ((s7_60:Int) - 1))).bind fun x_117 =>
    (impl_compareAtoms x_117 x_96).bind fun r_119 =>
    some (decide (r_119 ≥ 0))
    else
    some false:Option Bool)).bind fun s37_108 =>
    if s37_108 then
    some (.ret false)
    else
    impl_DatumOK_L1 d_1 xs (s7_60 + 1)

def impl_DatumOK (d_1:(List GAtom)):Option Bool :=
    (impl_DatumOK_L1 d_1 d_1 0).bind fun q => (match q with
    | .ret r => some r
    | .go _ =>
    some (decide ((d_1.length:Int) ≤ 8)))
theorem w_impl_DatumOK (d_1:(List GAtom)) (r:Bool) (hf:impl_DatumOK d_1 = some r):CallOK Tryz.prog 117 .flat [(.lst 3 (d_1.map encGAtom))] (.bool r):=by
 refine CallOK.of_awp mixed Tryz.func117 fc117 nle ?_;rw [argT_eq];unfold impl_DatumOK at hf;unfold c117;refine (show awp Tryz.prog false 0 _ (ofL [(0,(.lst 3 (d_1.map encGAtom)))]) [] _ from ?_);refine sr<|s_mov (.bool false) rfl<|dk<|awp_seq<|sr<|s_mov (.lst 3 (d_1.map encGAtom)) rfl<|s_dof (o_len (enc:=encGAtom) rfl) fun hl2 => s_mov (.int .i64 0) rfl<|dk<|?_
 obtain ⟨p89,hb1,hf⟩:=ob hf
 refine awp_cutx (X:={q:Unit // p89 = .go q}) (fun q => ([(0,(.lst 3 (d_1.map encGAtom)))],[])) ?_ ?_
 ·refine awp_loop (X:={q:Nat // impl_DatumOK_L1 d_1 (d_1.drop q) q = some p89}) (fun q => ([(0,(.lst 3 (d_1.map encGAtom))),(5,(.lst 3 (d_1.map encGAtom))),(6,(.int .i64 (d_1.length:Int))),(7,(.int .i64 (q.1:Int)))],[])) (fun q => d_1.length - q.1) ⟨0,hb1⟩ ⟨[],[],_,_,rfl,rfl,⟨.refl _,⟨.refl _,⟨.refl _,⟨.refl _,trivial⟩⟩⟩⟩,(.refl _)⟩ ?_
  rintro ⟨s7_60,hc1⟩
  have hc1:impl_DatumOK_L1 d_1 (d_1.drop s7_60) s7_60 = some p89:=hc1
  refine (show awp Tryz.prog false 0 _ (ofL [(0,(.lst 3 (d_1.map encGAtom))),(5,(.lst 3 (d_1.map encGAtom))),(6,(.int .i64 (d_1.length:Int))),(7,(.int .i64 (s7_60:Int)))]) [] _ from ?_)
  rcases dropc d_1 s7_60 with ⟨hie92,hd95⟩ | ⟨hlt90,x_96,hx91,hd95⟩
  ·rw [hd95,impl_DatumOK_L1.eq_1] at hc1
   have hq94:=dlf hie92
   refine sr<|s_q (.bool (decide ((s7_60:Int) < (d_1.length:Int)))) rfl rfl rfl<|dk<|awp_seq<|w_condf rfl hq94<|w_exit<|k_seqx<|k_loopx<|k_blkx<|?_;obtain rfl:=os hc1;exact k_cutn ⟨_,rfl⟩ ⟨[],[],_,_,rfl,rfl,⟨.refl _,trivial⟩,(.refl _)⟩
  ·rw [hd95,impl_DatumOK_L1.eq_2] at hc1
   have hq94:=dlt hlt90
   refine sr<|s_q (.bool (decide ((s7_60:Int) < (d_1.length:Int)))) rfl rfl rfl<|dk<|awp_seq<|w_condt rfl hq94<|w_skip<|k_seq<|awp_seq<|w_blk<|sr<|s_mov (.int .i64 (s7_60:Int)) rfl<|s_do (o_iaddrn (enc:=encGAtom) rfl rfl hx91)<|s_q (encGAtom x_96) rfl nle rfl<|s_do (o_box (j:=0) (c:=(.agg [(.int .i64 0),(.int .i64 0),(.str [])])) rfl trivial rfl rfl)<|s_mov (.int .i64 (s7_60:Int)) rfl<|s_do0 (o_storebox (v:=(.agg [(.int .i64 x_96.Kind),(.int .i64 x_96.N),(.str x_96.T)])) (y':=(.agg [(.int .i64 x_96.Kind),(.int .i64 x_96.N),(.str x_96.T)])) rfl rfl rfl trivial ⟨rfl,nle⟩ ⟨⟨rfl,trivial⟩,⟨⟨rfl,trivial⟩,⟨⟨rfl,trivial⟩,trivial⟩⟩⟩ rfl)<|?_
   refine dk<|awp_seq<|?_
   obtain ⟨s37_108,hb2,hc1⟩:=ob hc1
   refine awp_cut ([(0,(.lst 3 (d_1.map encGAtom))),(5,(.lst 3 (d_1.map encGAtom))),(6,(.int .i64 (d_1.length:Int))),(7,(.int .i64 (s7_60:Int))),(37,(.bool s37_108))],[]) ?_ ?_
   ·refine w_reg<|s_q (.agg [(.int .i64 x_96.Kind),(.int .i64 x_96.N),(.str x_96.T)]) rfl nle rfl<|?_
    obtain ⟨r_110,er111,hb2⟩:=ob hb2
    refine s_dol (o_call (w_impl_AtomOK _ _ er111) rfl (.refl _) rfl) a_same trivial<|s_q (.bool (!r_110)) rfl trivial rfl<|s_mov (.bool (!r_110)) rfl<|?_
    rcases oi hb2 with ⟨c112,hb2⟩ | ⟨c112,hb2⟩
    ·refine s_lit (s:=15) (b:=true) rfl c112<|s_off rfl rfl<|s_off rfl rfl<|s_off rfl rfl<|s_off rfl rfl<|s_off rfl rfl<|s_off rfl rfl<|s_off rfl rfl<|s_q (.bool true) rfl trivial rfl<|s_mov (.bool true) rfl<|s_off rfl rfl<|s_off rfl rfl<|s_off rfl rfl<|s_offs rfl<|s_offs rfl<|s_offs rfl<|s_offs rfl<|s_offs rfl<|s_offs rfl<|s_offsl rfl trivial<|s_offs rfl<|s_off rfl rfl<|s_q (.bool true) rfl trivial rfl<|w_done<|?_;obtain rfl:=os hb2;exact ⟨[],[],_,_,rfl,rfl,⟨.refl _,⟨.refl _,⟨.refl _,⟨.refl _,⟨.refl _,trivial⟩⟩⟩⟩⟩,(.refl _)⟩
    ·refine s_lit (s:=15) (b:=false) rfl (bf c112)<|s_on rfl<|s_q (.ptr 0 0 0) rfl trivial rfl<|s_on rfl<|s_q (.int .i64 x_96.Kind) rfl nle rfl<|s_on rfl<|s_mov (.lst 3 (d_1.map encGAtom)) rfl<|s_on rfl<|?_
     obtain ⟨x_113,ex114,hb2⟩:=ob hb2
     refine s_do (o_iaddr (enc:=encGAtom) rfl rfl (idx0 ex114) (idx1 ex114))<|s_on rfl<|s_q (.iptr (encGAtom x_113) 0) rfl trivial rfl<|s_on rfl<|s_q (.int .i64 x_113.Kind) rfl nle rfl<|s_on rfl<|s_q (.bool (x_96.Kind != x_113.Kind)) rfl rfl rfl<|s_q (.bool (x_96.Kind != x_113.Kind)) rfl trivial rfl<|s_mov (.bool (x_96.Kind != x_113.Kind)) rfl<|?_
     rcases oi hb2 with ⟨c115,hb2⟩ | ⟨c115,hb2⟩
     ·refine s_lit (s:=24) (b:=true) rfl c115<|s_off rfl rfl<|s_off rfl rfl<|s_off rfl rfl<|s_offs rfl<|s_offs rfl<|s_offs rfl<|s_offs rfl<|s_offs rfl<|s_offs rfl<|s_offsl rfl trivial<|s_offs rfl<|s_off rfl rfl<|s_q (.bool true) rfl trivial rfl<|w_done<|?_;obtain rfl:=os hb2;exact ⟨[],[],_,_,rfl,rfl,⟨.refl _,⟨.refl _,⟨.refl _,⟨.refl _,⟨.refl _,trivial⟩⟩⟩⟩⟩,(.refl _)⟩
     ·refine s_lit (s:=24) (b:=false) rfl (bf c115)<|s_on rfl<|s_mov (.int .i64 (s7_60:Int)) rfl<|s_on rfl<|s_q (.bool (decide ((s7_60:Int) > 0))) rfl rfl rfl<|s_on rfl<|s_mov (.bool (decide ((s7_60:Int) > 0))) rfl<|?_
      rcases oi hb2 with ⟨c116,hb2⟩ | ⟨c116,hb2⟩
      ·refine s_lit (s:=27) (b:=true) rfl c116<|s_on rfl<|s_mov (.lst 3 (d_1.map encGAtom)) rfl<|s_on rfl<|s_mov (.int .i64 (s7_60:Int)) rfl<|s_on rfl<|s_q (.int .i64 (w64 ((s7_60:Int) - 1))) rfl rfl rfl<|s_on rfl<|?_
       obtain ⟨x_117,ex118,hb2⟩:=ob hb2
       refine s_do (o_iaddr (enc:=encGAtom) rfl rfl (idx0 ex118) (idx1 ex118))<|s_on rfl<|s_q (encGAtom x_117) rfl nle rfl<|s_on rfl<|s_q (.agg [(.int .i64 x_96.Kind),(.int .i64 x_96.N),(.str x_96.T)]) rfl nle rfl<|s_onl rfl<|?_
       obtain ⟨r_119,er120,hb2⟩:=ob hb2
       refine s_dol (o_call (w_impl_compareAtoms _ _ _ er120) rfl (.refl _) rfl) a_same trivial<|s_on rfl<|s_q (.bool (decide (r_119 ≥ 0))) rfl rfl rfl<|s_on rfl<|s_q (.bool (decide (r_119 ≥ 0))) rfl trivial rfl<|s_q (.bool (decide (r_119 ≥ 0))) rfl trivial rfl<|w_done<|?_;obtain rfl:=os hb2;exact ⟨[],[],_,_,rfl,rfl,⟨.refl _,⟨.refl _,⟨.refl _,⟨.refl _,⟨.refl _,trivial⟩⟩⟩⟩⟩,(.refl _)⟩
      ·refine s_lit (s:=27) (b:=false) rfl (bf c116)<|s_off rfl rfl<|s_off rfl rfl<|s_off rfl rfl<|s_off rfl rfl<|s_off rfl rfl<|s_off rfl rfl<|s_offl rfl rfl trivial<|s_off rfl rfl<|s_on rfl<|s_q (.bool false) rfl trivial rfl<|s_q (.bool false) rfl trivial rfl<|w_done<|?_;obtain rfl:=os hb2;exact ⟨[],[],_,_,rfl,rfl,⟨.refl _,⟨.refl _,⟨.refl _,⟨.refl _,⟨.refl _,trivial⟩⟩⟩⟩⟩,(.refl _)⟩
   ·rcases oi hc1 with ⟨c121,hc1⟩ | ⟨c121,hc1⟩
    ·refine w_condt rfl c121<|sr<|s_mov (.bool false) rfl<|dk<|w_ret<|?_;obtain rfl:=os hc1;obtain rfl:=os hf;exact r_flat ⟨trivial,trivial⟩ rfl (.refl _)
    ·refine w_condf rfl (bf c121)<|w_skip<|k_blk<|k_seq<|w_reg<|s_q (.int .i64 (w64 ((s7_60:Int) + 1))) rfl rfl rfl<|s_mov (.int .i64 (w64 ((s7_60:Int) + 1))) rfl<|w_done<|?_;exact k_loopn ⟨(s7_60 + 1),hc1⟩ (mul hlt90) ⟨[],[],_,_,rfl,rfl,⟨.refl _,⟨.refl _,⟨.refl _,⟨.of_eq (congrArg (AV.int _) (w64_incr hlt90 hl2)),trivial⟩⟩⟩⟩,(.refl _)⟩
 ·rintro ⟨_,rfl⟩
  refine sr<|s_mov (.lst 3 (d_1.map encGAtom)) rfl<|s_dof (o_len (enc:=encGAtom) rfl) fun hl122 => s_q (.bool (decide ((d_1.length:Int) ≤ 8))) rfl rfl rfl<|s_mov (.bool (decide ((d_1.length:Int) ≤ 8))) rfl<|dk<|w_ret<|?_;obtain rfl:=os hf;exact r_flat ⟨trivial,trivial⟩ rfl (.refl _)

/- slices.IndexFunc[[]impl.Atom,impl.Atom] -/
def c208:ACode :=
 (.seq (.reg (tm 4 (.c (.int .i64 0)) .done))
 (.seq (.seq (.reg (tm 6 (.t 0) (tq 7 (.len (.t 6)) (tm 8 (.c (.int .i64 0)) .done))))
 (.block 0 (.loop (.seq (.reg (tq 9 (.bin .lss (.t 8) (.t 7)) .done))
 (.seq (.cond (.t 9) .skip
 (.exit 0))
 (.seq (.block 1 (.seq (.reg (tm 10 (.t 8) (tm 5 (.t 10) .done)))
 (.seq (.reg (tm 11 (.t 1) (tm 12 (.t 0) (tm 13 (.t 5) (tq 14 (.iaddr 3 (.t 12) (.t 13)) (tq 15 (.load 3 true (.t 14)) (tq 16 (.calv (.t 11) [(.t 15)]) .done)))))))
 (.cond (.t 16) (.seq (.reg (tm 17 (.t 5) (tm 4 (.t 17) .done)))
 .ret)
 .skip))))
 (.reg (tq 18 (.bin .add (.t 8) (.c (.int .i64 1))) (tm 8 (.t 18) .done)))))))))
 (.cut (.seq (.reg (tq 4 (.mov (.c (.int .i64 (-1)))) .done))
 .ret))))
theorem fc208:fcomp Tryz.prog Tryz.f208 = some (c208.erase,[.mov (.t 4)],19):=by kernel_rfl
def slices_IndexFunc_impl_Atom_impl_Atom_L1 (f_2:(GAtom → Option Bool)):List GAtom → Nat → Option (Fl Int Unit)
  | [],s8_17 =>
    some (.go ())
  | x_31 :: xs,s8_17 =>
    (f_2 x_31).bind fun r_32 =>
    if r_32 then
    some (.ret (s8_17:Int))
    else
    slices_IndexFunc_impl_Atom_impl_Atom_L1 f_2 xs (s8_17 + 1)

def slices_IndexFunc_impl_Atom_impl_Atom (s_1:(List GAtom)) (f_2:(GAtom → Option Bool)):Option Int :=
    (slices_IndexFunc_impl_Atom_impl_Atom_L1 f_2 s_1 0).bind fun q => (match q with
    | .ret r => some r
    | .go _ =>
    some (-1))
theorem w_slices_IndexFunc_impl_Atom_impl_Atom (s_1:(List GAtom)) (f_2:(GAtom → Option Bool)) (r:Int) (hf:slices_IndexFunc_impl_Atom_impl_Atom s_1 f_2 = some r) (kf_f_2:Nat) (cf_f_2:List AV) (okf_f_2:okFn Tryz.prog kf_f_2 = true) (hcf_f_2:∀ h p,closeWs h p cf_f_2 = some cf_f_2) (hrf_f_2:∀ f,rens f cf_f_2 = cf_f_2) (hpf_f_2:∀ a0 r,f_2 a0 = some r → CallOK Tryz.prog kf_f_2 .flat ([(encGAtom a0)] ++ cf_f_2) (.bool r)):CallOK Tryz.prog 208 .flat [(.lst 3 (s_1.map encGAtom)),(.fn kf_f_2 cf_f_2)] (.int .i64 r):=by
 refine CallOK.of_awp mixed Tryz.func208 fc208 nle ?_;rw [argT_eq];unfold slices_IndexFunc_impl_Atom_impl_Atom at hf;unfold c208;refine (show awp Tryz.prog false 0 _ (ofL [(0,(.lst 3 (s_1.map encGAtom))),(1,(.fn kf_f_2 cf_f_2))]) [] _ from ?_);refine sr<|s_mov (.int .i64 0) rfl<|dk<|awp_seq<|sr<|s_mov (.lst 3 (s_1.map encGAtom)) rfl<|s_dof (o_len (enc:=encGAtom) rfl) fun hl3 => s_mov (.int .i64 0) rfl<|dk<|?_
 obtain ⟨p24,hb1,hf⟩:=ob hf
 refine awp_cutx (X:={q:Unit // p24 = .go q}) (fun q => ([],[])) ?_ ?_
 ·refine awp_loop (X:={q:Nat // slices_IndexFunc_impl_Atom_impl_Atom_L1 f_2 (s_1.drop q) q = some p24}) (fun q => ([(0,(.lst 3 (s_1.map encGAtom))),(1,(.fn kf_f_2 cf_f_2)),(7,(.int .i64 (s_1.length:Int))),(8,(.int .i64 (q.1:Int)))],[])) (fun q => s_1.length - q.1) ⟨0,hb1⟩ ⟨[],[],_,_,rfl,rfl,⟨.refl _,⟨.of_eq (congrArg (AV.fn _) (hrf_f_2 _)),⟨.refl _,⟨.refl _,trivial⟩⟩⟩⟩,(.refl _)⟩ ?_
  rintro ⟨s8_17,hc1⟩
  have hc1:slices_IndexFunc_impl_Atom_impl_Atom_L1 f_2 (s_1.drop s8_17) s8_17 = some p24:=hc1
  refine (show awp Tryz.prog false 0 _ (ofL [(0,(.lst 3 (s_1.map encGAtom))),(1,(.fn kf_f_2 cf_f_2)),(7,(.int .i64 (s_1.length:Int))),(8,(.int .i64 (s8_17:Int)))]) [] _ from ?_)
  rcases dropc s_1 s8_17 with ⟨hie27,hd30⟩ | ⟨hlt25,x_31,hx26,hd30⟩
  ·rw [hd30,slices_IndexFunc_impl_Atom_impl_Atom_L1.eq_1] at hc1
   have hq29:=dlf hie27
   refine sr<|s_q (.bool (decide ((s8_17:Int) < (s_1.length:Int)))) rfl rfl rfl<|dk<|awp_seq<|w_condf rfl hq29<|w_exit<|k_seqx<|k_loopx<|k_blkx<|?_;obtain rfl:=os hc1;exact k_cutn ⟨_,rfl⟩ ⟨[],[],_,_,rfl,rfl,trivial,(.refl _)⟩
  ·rw [hd30,slices_IndexFunc_impl_Atom_impl_Atom_L1.eq_2] at hc1
   have hq29:=dlt hlt25
   refine sr<|s_q (.bool (decide ((s8_17:Int) < (s_1.length:Int)))) rfl rfl rfl<|dk<|awp_seq<|w_condt rfl hq29<|w_skip<|k_seq<|awp_seq<|w_blk<|sr<|s_mov (.int .i64 (s8_17:Int)) rfl<|s_mov (.int .i64 (s8_17:Int)) rfl<|dk<|sr<|?_
   obtain ⟨r_32,er33,hc1⟩:=ob hc1
   refine s_mov (.fn kf_f_2 cf_f_2) rfl<|s_mov (.lst 3 (s_1.map encGAtom)) rfl<|s_mov (.int .i64 (s8_17:Int)) rfl<|s_do (o_iaddrn (enc:=encGAtom) rfl rfl hx26)<|s_q (encGAtom x_31) rfl nle rfl<|s_do (o_calvp (v:=(.bool r_32)) rfl okf_f_2 hcf_f_2 (hpf_f_2 _ _ er33) rfl (.refl _) rfl)<|dk<|?_
   rcases oi hc1 with ⟨c34,hc1⟩ | ⟨c34,hc1⟩
   ·refine w_condt rfl c34<|sr<|s_mov (.int .i64 (s8_17:Int)) rfl<|s_mov (.int .i64 (s8_17:Int)) rfl<|dk<|w_ret<|?_;obtain rfl:=os hc1;obtain rfl:=os hf;exact r_flat ⟨trivial,trivial⟩ rfl (.refl _)
   ·refine w_condf rfl (bf c34)<|w_skip<|k_blk<|k_seq<|w_reg<|s_q (.int .i64 (w64 ((s8_17:Int) + 1))) rfl rfl rfl<|s_mov (.int .i64 (w64 ((s8_17:Int) + 1))) rfl<|w_done<|?_;exact k_loopn ⟨(s8_17 + 1),hc1⟩ (mul hlt25) ⟨[],[],_,_,rfl,rfl,⟨.refl _,⟨.of_eq (congrArg (AV.fn _) (hrf_f_2 _)),⟨.refl _,⟨.of_eq (congrArg (AV.int _) (w64_incr hlt25 hl3)),trivial⟩⟩⟩⟩,(.refl _)⟩
 ·rintro ⟨_,rfl⟩
  refine sr<|s_mov (.int .i64 (-1)) rfl<|dk<|w_ret<|?_;obtain rfl:=os hf;exact r_flat ⟨trivial,trivial⟩ rfl (.refl _)

/- slices.ContainsFunc[[]impl.Atom,impl.Atom] -/
def c175:ACode :=
 (.seq (.reg (tm 4 (.c (.bool false)) .done))
 (.seq (.reg (tm 5 (.t 0) (tm 6 (.t 1) (tq 7 (.call 208 [(.t 5),(.t 6)]) (tq 8 (.bin .geq (.t 7) (.c (.int .i64 0))) (tm 4 (.t 8) .done))))))
 .ret))
theorem fc175:fcomp Tryz.prog Tryz.f175 = some (c175.erase,[.mov (.t 4)],9):=by kernel_rfl
def slices_ContainsFunc_impl_Atom_impl_Atom (s_1:(List GAtom)) (f_2:(GAtom → Option Bool)):Option Bool :=
    (slices_IndexFunc_impl_Atom_impl_Atom s_1 f_2).bind fun r_3 =>
    some (decide (r_3 ≥ 0))
theorem w_slices_ContainsFunc_impl_Atom_impl_Atom (s_1:(List GAtom)) (f_2:(GAtom → Option Bool)) (r:Bool) (hf:slices_ContainsFunc_impl_Atom_impl_Atom s_1 f_2 = some r) (kf_f_2:Nat) (cf_f_2:List AV) (okf_f_2:okFn Tryz.prog kf_f_2 = true) (hcf_f_2:∀ h p,closeWs h p cf_f_2 = some cf_f_2) (hrf_f_2:∀ f,rens f cf_f_2 = cf_f_2) (hpf_f_2:∀ a0 r,f_2 a0 = some r → CallOK Tryz.prog kf_f_2 .flat ([(encGAtom a0)] ++ cf_f_2) (.bool r)):CallOK Tryz.prog 175 .flat [(.lst 3 (s_1.map encGAtom)),(.fn kf_f_2 cf_f_2)] (.bool r):=by
 refine CallOK.of_awp mixed Tryz.func175 fc175 nle ?_;rw [argT_eq];unfold slices_ContainsFunc_impl_Atom_impl_Atom at hf;unfold c175;refine (show awp Tryz.prog false 0 _ (ofL [(0,(.lst 3 (s_1.map encGAtom))),(1,(.fn kf_f_2 cf_f_2))]) [] _ from ?_);refine sr<|s_mov (.bool false) rfl<|dk<|sr<|?_
 obtain ⟨r_3,er4,hf⟩:=ob hf
 refine s_mov (.lst 3 (s_1.map encGAtom)) rfl<|s_mov (.fn kf_f_2 cf_f_2) rfl<|s_do (o_call (w_slices_IndexFunc_impl_Atom_impl_Atom _ _ _ er4 kf_f_2 cf_f_2 okf_f_2 hcf_f_2 hrf_f_2 hpf_f_2) (cls_cons rfl (cls_cons (cls_fn hcf_f_2) rfl)) (.refl _) rfl)<|s_q (.bool (decide (r_3 ≥ 0))) rfl rfl rfl<|s_mov (.bool (decide (r_3 ≥ 0))) rfl<|dk<|w_ret<|?_;obtain rfl:=os hf;exact r_flat ⟨trivial,trivial⟩ rfl (.refl _)

/- (impl.Column).fits$1 -/
def c194:ACode :=
 (.seq (.reg (tq 2 (.box 3 (.t 0)) (tm 3 (.c (.bool false)) .done)))
 (.seq (.reg (tq 4 (.faddr 1 (.t 2)) (tq 5 (.load 1 false (.t 4)) (tq 6 (.faddr 4 (.t 1)) (tq 7 (.load 1 false (.t 6)) (tq 8 (.faddr 5 (.t 1)) (tq 9 (.load 1 false (.t 8)) (tq 10 (.call 43 [(.t 5),(.t 7),(.t 9)]) (tq 11 (.not (.t 10)) (tm 3 (.t 11) .done))))))))))
 .ret))
theorem fc194:fcomp Tryz.prog Tryz.f194 = some (c194.erase,[.mov (.t 3)],12):=by kernel_rfl
def impl_Column_fits_1 (a_1:GAtom) (cap_2:GColumn):Option Bool :=
    (impl_within a_1.N cap_2.Low cap_2.High).bind fun r_3 =>
    some (!r_3)
theorem w_impl_Column_fits_1 (a_1:GAtom) (cap_2:GColumn) (r:Bool) (hf:impl_Column_fits_1 a_1 cap_2 = some r):CallOK Tryz.prog 194 .flat [(encGAtom a_1),(.iptr (encGColumn cap_2) 0)] (.bool r):=by
  refine CallOK.of_awp mixed Tryz.func194 fc194 nle ?_
  rw [argT_eq]
  unfold impl_Column_fits_1 at hf
  unfold c194
  refine (show awp Tryz.prog false 0 _ (ofL [(0,(encGAtom a_1)),(1,(.iptr (encGColumn cap_2) 0))]) [] _ from ?_)
  refine awp_seq ?_
  refine w_reg ?_
  refine s_do (o_box (j:=0) (c:=(.agg [(.int .i64 a_1.Kind),(.int .i64 a_1.N),(.str a_1.T)])) rfl trivial rfl rfl) ?_
  refine s_do (o_mov (.bool false) rfl) ?_
  refine w_done ?_
  refine k_seq ?_
  refine awp_seq ?_
  refine w_reg ?_
  obtain ⟨r_3,er4,hf⟩:=ob hf
  refine s_do (o_q (.ptr 0 0 1) rfl trivial rfl) ?_
  refine s_do (o_q (.int .i64 a_1.N) rfl nle rfl) ?_
  refine s_do (o_q (.iptr (encGColumn cap_2) 4) rfl trivial rfl) ?_
  refine s_do (o_q (.int .i64 cap_2.Low) rfl nle rfl) ?_
  refine s_do (o_q (.iptr (encGColumn cap_2) 5) rfl trivial rfl) ?_
  refine s_do (o_q (.int .i64 cap_2.High) rfl nle rfl) ?_
  refine s_do (o_call (w_impl_within _ _ _ _ er4) rfl (.refl _) rfl) ?_
  refine s_do (o_q (.bool (!r_3)) rfl trivial rfl) ?_
  refine s_do (o_mov (.bool (!r_3)) rfl) ?_
  refine w_done ?_
  refine k_seq ?_
  refine w_ret ?_
  obtain rfl:=os hf
  exact r_flat ⟨trivial,trivial⟩ rfl (.refl _)

/- (impl.Column).fits -/
def c140:ACode :=
 (.seq (.reg (tq 2 (.box 8 (.t 0)) (tm 4 (.c (.int .i64 0)) .done)))
 (.seq (.block 0 (.seq (.reg (tm 6 (.t 1) (tq 7 (.len (.t 6)) (tq 8 (.bin .gtr (.t 7) (.c (.int .i64 0))) (tm 9 (.t 8) (tg 10 9 true (.mov (.t 1)) (tg 11 9 true (.iaddr 3 (.t 10) (.c (.int .i64 0))) (tg 12 9 true (.faddr 0 (.t 11)) (tg 13 9 true (.load 1 false (.t 12)) (tg 14 9 true (.faddr 1 (.t 2)) (tg 15 9 true (.load 1 false (.t 14)) (tg 16 9 true (.bin .neq (.t 13) (.t 15)) (tq 17 (.pick (.t 9) (.t 16) (.c (.bool false))) (tm 5 (.t 17) .done))))))))))))))
 (.cut (.cond (.t 5) (.seq (.reg (tm 4 (.c (.int .i64 9)) .done))
 .ret)
 (.seq (.reg (tm 19 (.t 1) (tq 20 (.len (.t 19)) (tq 21 (.faddr 2 (.t 2)) (tq 22 (.load 1 false (.t 21)) (tq 23 (.faddr 3 (.t 2)) (tq 24 (.load 1 false (.t 23)) (tq 25 (.call 43 [(.t 20),(.t 22),(.t 24)]) (tq 26 (.not (.t 25)) (tm 18 (.t 26) .done))))))))))
 (.cond (.t 18) (.seq (.reg (tm 4 (.c (.int .i64 6)) .done))
 .ret)
 (.seq (.reg (tq 28 (.faddr 1 (.t 2)) (tq 29 (.load 1 false (.t 28)) (tq 30 (.bin .eql (.t 29) (.c (.int .i64 1))) (tm 31 (.t 30) (tg 32 31 true (.mov (.t 1)) (tg 33 31 true (.mkfn 194 [(.t 2)]) (tg 34 31 true (.call 175 [(.t 32),(.t 33)]) (tq 35 (.pick (.t 31) (.t 34) (.c (.bool false))) (tm 27 (.t 35) .done))))))))))
 (.cut (.cond (.t 27) (.seq (.reg (tm 4 (.c (.int .i64 4)) .done))
 .ret)
 .skip)))))))))
 (.seq (.reg (tm 4 (.c (.int .i64 0)) .done))
 .ret)))
theorem fc140:fcomp Tryz.prog Tryz.f140 = some (c140.erase,[.mov (.t 4)],36):=by kernel_rfl
def impl_Column_fits (c_1:GColumn) (d_2:(List GAtom)):Option Int :=
    ((if (decide ((d_2.length:Int) > 0)) then
    (idx d_2 0).bind fun x_11 =>
    some (x_11.Kind != c_1.Kind)
    else
    some false:Option Bool)).bind fun s5_7 =>
    if s5_7 then
    some 9
    else
    (impl_within (d_2.length:Int) c_1.Min c_1.Max).bind fun r_15 =>
    if (!r_15) then
    some 6
    else
    ((if (c_1.Kind == 1) then
    (slices_ContainsFunc_impl_Atom_impl_Atom d_2 (fun a0 => impl_Column_fits_1 a0 c_1)).bind fun r_24 =>
    some r_24
    else
    some false:Option Bool)).bind fun s27_21 =>
    if s27_21 then
    some 4
    else
    some 0
theorem w_impl_Column_fits (c_1:GColumn) (d_2:(List GAtom)) (r:Int) (hf:impl_Column_fits c_1 d_2 = some r):CallOK Tryz.prog 140 .flat [(encGColumn c_1),(.lst 3 (d_2.map encGAtom))] (.int .i64 r):=by
 refine CallOK.of_awp mixed Tryz.func140 fc140 nle ?_;rw [argT_eq];unfold impl_Column_fits at hf;unfold c140;refine (show awp Tryz.prog false 0 _ (ofL [(0,(encGColumn c_1)),(1,(.lst 3 (d_2.map encGAtom)))]) [] _ from ?_);refine sr<|s_do (o_box (j:=0) (c:=(.agg [(.str c_1.Name),(.int .i64 c_1.Kind),(.int .i64 c_1.Min),(.int .i64 c_1.Max),(.int .i64 c_1.Low),(.int .i64 c_1.High),(.str c_1.Ref),(.bool c_1.Strong)])) rfl trivial rfl rfl)<|s_mov (.int .i64 0) rfl<|dk<|awp_seq<|w_blk<|awp_seq<|?_
 obtain ⟨s5_7,hb1,hf⟩:=ob hf
 refine awp_cut ([(1,(.lst 3 (d_2.map encGAtom))),(2,(.ptr 0 0 0)),(5,(.bool s5_7))],[.box 8 (.agg [(.str c_1.Name),(.int .i64 c_1.Kind),(.int .i64 c_1.Min),(.int .i64 c_1.Max),(.int .i64 c_1.Low),(.int .i64 c_1.High),(.str c_1.Ref),(.bool c_1.Strong)])]) ?_ ?_
 ·refine w_reg<|s_mov (.lst 3 (d_2.map encGAtom)) rfl<|s_dof (o_len (enc:=encGAtom) rfl) fun hl9 => s_q (.bool (decide ((d_2.length:Int) > 0))) rfl rfl rfl<|s_mov (.bool (decide ((d_2.length:Int) > 0))) rfl<|?_
  rcases oi hb1 with ⟨c10,hb1⟩ | ⟨c10,hb1⟩
  ·refine s_lit (s:=9) (b:=true) rfl c10<|s_on rfl<|s_mov (.lst 3 (d_2.map encGAtom)) rfl<|s_on rfl<|?_
   obtain ⟨x_11,ex12,hb1⟩:=ob hb1
   refine s_do (o_iaddr (enc:=encGAtom) rfl rfl (idx0 ex12) (idx1 ex12))<|s_on rfl<|s_q (.iptr (encGAtom x_11) 0) rfl trivial rfl<|s_on rfl<|s_q (.int .i64 x_11.Kind) rfl nle rfl<|s_on rfl<|s_q (.ptr 0 0 1) rfl trivial rfl<|s_on rfl<|s_q (.int .i64 c_1.Kind) rfl nle rfl<|s_on rfl<|s_q (.bool (x_11.Kind != c_1.Kind)) rfl rfl rfl<|s_q (.bool (x_11.Kind != c_1.Kind)) rfl trivial rfl<|s_mov (.bool (x_11.Kind != c_1.Kind)) rfl<|w_done<|?_;obtain rfl:=os hb1;exact ⟨[],[0],_,_,rfl,rfl,⟨.refl _,⟨.refl _,⟨.refl _,trivial⟩⟩⟩,(.refl _)⟩
  ·refine s_lit (s:=9) (b:=false) rfl (bf c10)<|s_off rfl rfl<|s_off rfl rfl<|s_off rfl rfl<|s_off rfl rfl<|s_off rfl rfl<|s_off rfl rfl<|s_off rfl rfl<|s_q (.bool false) rfl trivial rfl<|s_mov (.bool false) rfl<|w_done<|?_;obtain rfl:=os hb1;exact ⟨[],[0],_,_,rfl,rfl,⟨.refl _,⟨.refl _,⟨.refl _,trivial⟩⟩⟩,(.refl _)⟩
 ·rcases oi hf with ⟨c13,hf⟩ | ⟨c13,hf⟩
  ·refine w_condt rfl c13<|sr<|s_mov (.int .i64 9) rfl<|dk<|w_ret<|?_;obtain rfl:=os hf;exact r_flat ⟨trivial,trivial⟩ rfl (.refl _)
  ·refine w_condf rfl (bf c13)<|sr<|?_
   obtain ⟨r_15,er16,hf⟩:=ob hf
   refine s_mov (.lst 3 (d_2.map encGAtom)) rfl<|s_dof (o_len (enc:=encGAtom) rfl) fun hl14 => s_q (.ptr 0 0 2) rfl trivial rfl<|s_q (.int .i64 c_1.Min) rfl nle rfl<|s_q (.ptr 0 0 3) rfl trivial rfl<|s_q (.int .i64 c_1.Max) rfl nle rfl<|s_do (o_call (w_impl_within _ _ _ _ er16) rfl (.refl _) rfl)<|s_q (.bool (!r_15)) rfl trivial rfl<|s_mov (.bool (!r_15)) rfl<|dk<|?_
   rcases oi hf with ⟨c17,hf⟩ | ⟨c17,hf⟩
   ·refine w_condt rfl c17<|sr<|s_mov (.int .i64 6) rfl<|dk<|w_ret<|?_;obtain rfl:=os hf;exact r_flat ⟨trivial,trivial⟩ rfl (.refl _)
   ·refine w_condf rfl (bf c17)<|awp_seq<|?_
    obtain ⟨s27_21,hb1,hf⟩:=ob hf
    refine awp_cut ([(27,(.bool s27_21))],[]) ?_ ?_
    ·refine w_reg ?_
     rcases oi hb1 with ⟨c23,hb1⟩ | ⟨c23,hb1⟩
     ·obtain ⟨r_24,er25,hb1⟩:=ob hb1
      refine s_q (.ptr 0 0 1) rfl trivial rfl<|s_q (.int .i64 c_1.Kind) rfl nle rfl<|s_q (.bool (c_1.Kind == 1)) rfl rfl rfl<|s_mov (.bool (c_1.Kind == 1)) rfl<|s_lit (s:=31) (b:=true) rfl c23<|s_on rfl<|s_mov (.lst 3 (d_2.map encGAtom)) rfl<|s_on rfl<|s_q (.fn 194 [(.ptr 0 0 0)]) rfl trivial rfl<|s_on rfl<|?_;refine s_do (o_call (w_slices_ContainsFunc_impl_Atom_impl_Atom _ _ _ er25 194 [(.iptr (encGColumn c_1) 0)] (by kernel_rfl) (fun _ _ => rfl) (fun _ => rfl) (fun a0 r h => w_impl_Column_fits_1 a0 c_1 r h)) rfl (.refl _) rfl) ?_;refine s_q (.bool r_24) rfl trivial rfl<|s_mov (.bool r_24) rfl<|w_done<|?_;obtain rfl:=os hb1;exact ⟨[],[],_,_,rfl,rfl,⟨.refl _,trivial⟩,(.refl _)⟩
     ·refine s_q (.ptr 0 0 1) rfl trivial rfl<|s_q (.int .i64 c_1.Kind) rfl nle rfl<|s_q (.bool (c_1.Kind == 1)) rfl rfl rfl<|s_mov (.bool (c_1.Kind == 1)) rfl<|s_lit (s:=31) (b:=false) rfl (bf c23)<|s_off rfl rfl<|s_off rfl rfl<|s_off rfl rfl<|s_q (.bool false) rfl trivial rfl<|s_mov (.bool false) rfl<|w_done<|?_;obtain rfl:=os hb1;exact ⟨[],[],_,_,rfl,rfl,⟨.refl _,trivial⟩,(.refl _)⟩
    ·rcases oi hf with ⟨c26,hf⟩ | ⟨c26,hf⟩
     ·refine w_condt rfl c26<|sr<|s_mov (.int .i64 4) rfl<|dk<|w_ret<|?_;obtain rfl:=os hf;exact r_flat ⟨trivial,trivial⟩ rfl (.refl _)
     ·refine w_condf rfl (bf c26)<|w_skip<|k_blk<|k_seq<|sr<|s_mov (.int .i64 0) rfl<|dk<|w_ret<|?_;obtain rfl:=os hf;exact r_flat ⟨trivial,trivial⟩ rfl (.refl _)

/- impl.cellsOK -/
def c74:ACode :=
 (.seq (.reg (tq 2 (.box 4 (.t 0)) (tq 3 (.box 2 (.t 1)) (tm 4 (.c (.bool false)) .done))))
 (.seq (.seq (.reg (tq 7 (.faddr 1 (.t 3)) (tq 8 (.load 1 false (.t 7)) (tq 9 (.len (.t 8)) (tq 10 (.faddr 1 (.t 2)) (tq 11 (.load 1 false (.t 10)) (tq 12 (.len (.t 11)) (tq 13 (.bin .neq (.t 9) (.t 12)) .done))))))))
 (.cond (.t 13) (.seq (.reg (tm 4 (.c (.bool false)) .done))
 .ret)
 .skip))
 (.seq (.seq (.reg (tq 14 (.faddr 1 (.t 3)) (tq 15 (.load 1 false (.t 14)) (tq 16 (.len (.t 15)) (tm 17 (.c (.int .i64 0)) .done)))))
 (.block 0 (.loop (.seq (.reg (tq 18 (.bin .lss (.t 17) (.t 16)) .done))
 (.seq (.cond (.t 18) .skip
 (.exit 0))
 (.seq (.block 1 (.seq (.reg (tm 19 (.t 17) (tq 20 (.iaddr 1 (.t 15) (.t 17)) (tq 21 (.load 1 false (.t 20)) (tm 5 (.t 19) (tm 6 (.t 21) .done))))))
 (.seq (.reg (tm 22 (.t 6) (tq 23 (.call 117 [(.t 22)]) (tq 24 (.not (.t 23)) (tm 25 (.t 24) (tg 26 25 false (.faddr 1 (.t 2)) (tg 27 25 false (.load 1 false (.t 26)) (tg 28 25 false (.mov (.t 5)) (tg 29 25 false (.iaddr 8 (.t 27) (.t 28)) (tg 30 25 false (.load 8 true (.t 29)) (tg 31 25 false (.mov (.t 6)) (tg 32 25 false (.call 140 [(.t 30),(.t 31)]) (tg 33 25 false (.bin .neq (.t 32) (.c (.int .i64 0))) (tq 34 (.pick (.t 25) (.c (.bool true)) (.t 33)) .done))))))))))))))
 (.cut (.cond (.t 34) (.seq (.reg (tm 4 (.c (.bool false)) .done))
 .ret)
 .skip)))))
 (.reg (tq 35 (.bin .add (.t 17) (.c (.int .i64 1))) (tm 17 (.t 35) .done)))))))))
 (.cut (.seq (.reg (tm 4 (.c (.bool true)) .done))
 .ret)))))
theorem fc74:fcomp Tryz.prog Tryz.f74 = some (c74.erase,[.mov (.t 4)],36):=by kernel_rfl
def impl_cellsOK_L1 (t_1:GTable):List (List GAtom) → Nat → Option (Fl Bool Unit)
  | [],s17_48 =>
    some (.go ())
  | x_76 :: xs,s17_48 =>
    (((impl_DatumOK x_76).bind fun r_86 =>
    if (!r_86) then
    some true
    else
    (idx t_1.Columns (s17_48:Int)).bind fun x_89 =>
    (impl_Column_fits x_89 x_76).bind fun r_91 =>
    some (r_91 != 0):Option Bool)).bind fun s34_84 =>
    if s34_84 then
    some (.ret false)
    else
    impl_cellsOK_L1 t_1 xs (s17_48 + 1)

def impl_cellsOK (t_1:GTable) (r_2:GRow):Option Bool :=
    if ((r_2.Cells.length:Int) != (t_1.Columns.length:Int)) then
    some false
    else
    (impl_cellsOK_L1 t_1 r_2.Cells 0).bind fun q => (match q with
    | .ret r => some r
    | .go _ =>
    some true)
theorem w_impl_cellsOK (t_1:GTable) (r_2:GRow) (r:Bool) (hf:impl_cellsOK t_1 r_2 = some r):CallOK Tryz.prog 74 .flat [(encGTable t_1),(encGRow r_2)] (.bool r):=by
 refine CallOK.of_awp mixed Tryz.func74 fc74 nle ?_;rw [argT_eq];unfold impl_cellsOK at hf;unfold c74;refine (show awp Tryz.prog false 0 _ (ofL [(0,(encGTable t_1)),(1,(encGRow r_2))]) [] _ from ?_);refine sr<|s_do (o_box (j:=0) (c:=(.agg [(.str t_1.Name),(.lst 8 (t_1.Columns.map encGColumn)),(.lst 1 (t_1.Unique.map encI)),(.bool t_1.Root)])) rfl trivial rfl rfl)<|s_do (o_box (j:=1) (c:=(.agg [(.int .i64 r_2.Id),(.lst 1 (r_2.Cells.map (encL 3 encGAtom)))])) rfl trivial rfl rfl)<|s_mov (.bool false) rfl<|dk<|awp_seq<|sr<|s_q (.ptr 1 0 1) rfl trivial rfl<|s_q (.lst 1 (r_2.Cells.map (encL 3 encGAtom))) rfl nle rfl<|s_dof (o_len (enc:=(encL 3 encGAtom)) rfl) fun hl3 => ?_
 refine s_q (.ptr 0 0 1) rfl trivial rfl<|s_q (.lst 8 (t_1.Columns.map encGColumn)) rfl nle rfl<|s_dof (o_len (enc:=encGColumn) rfl) fun hl4 => s_q (.bool ((r_2.Cells.length:Int) != (t_1.Columns.length:Int))) rfl rfl rfl<|dk<|?_
 rcases oi hf with ⟨c5,hf⟩ | ⟨c5,hf⟩
 ·refine w_condt rfl c5<|sr<|s_mov (.bool false) rfl<|dk<|w_ret<|?_;obtain rfl:=os hf;exact r_flat ⟨trivial,trivial⟩ rfl (.refl _)
 ·refine w_condf rfl (bf c5)<|w_skip<|k_seq<|awp_seq<|sr<|s_q (.ptr 1 0 1) rfl trivial rfl<|s_q (.lst 1 (r_2.Cells.map (encL 3 encGAtom))) rfl nle rfl<|s_dof (o_len (enc:=(encL 3 encGAtom)) rfl) fun hl6 => s_mov (.int .i64 0) rfl<|dk<|?_
  obtain ⟨p69,hb1,hf⟩:=ob hf
  refine awp_cutx (X:={q:Unit // p69 = .go q}) (fun q => ([],[])) ?_ ?_
  ·refine awp_loop (X:={q:Nat // impl_cellsOK_L1 t_1 (r_2.Cells.drop q) q = some p69}) (fun q => ([(2,(.ptr 0 0 0)),(15,(.lst 1 (r_2.Cells.map (encL 3 encGAtom)))),(16,(.int .i64 (r_2.Cells.length:Int))),(17,(.int .i64 (q.1:Int)))],[.box 4 (.agg [(.str t_1.Name),(.lst 8 (t_1.Columns.map encGColumn)),(.lst 1 (t_1.Unique.map encI)),(.bool t_1.Root)])])) (fun q => r_2.Cells.length - q.1) ⟨0,hb1⟩ ⟨[],[0],_,_,rfl,rfl,⟨.refl _,⟨.refl _,⟨.refl _,⟨.refl _,trivial⟩⟩⟩⟩,(.refl _)⟩ ?_
   rintro ⟨s17_48,hc1⟩
   have hc1:impl_cellsOK_L1 t_1 (r_2.Cells.drop s17_48) s17_48 = some p69:=hc1
   refine (show awp Tryz.prog false 0 _ (ofL [(2,(.ptr 0 0 0)),(15,(.lst 1 (r_2.Cells.map (encL 3 encGAtom)))),(16,(.int .i64 (r_2.Cells.length:Int))),(17,(.int .i64 (s17_48:Int)))]) [.box 4 (.agg [(.str t_1.Name),(.lst 8 (t_1.Columns.map encGColumn)),(.lst 1 (t_1.Unique.map encI)),(.bool t_1.Root)])] _ from ?_)
   rcases dropc r_2.Cells s17_48 with ⟨hie72,hd75⟩ | ⟨hlt70,x_76,hx71,hd75⟩
   ·rw [hd75,impl_cellsOK_L1.eq_1] at hc1
    have hq74:=dlf hie72
    refine sr<|s_q (.bool (decide ((s17_48:Int) < (r_2.Cells.length:Int)))) rfl rfl rfl<|dk<|awp_seq<|w_condf rfl hq74<|w_exit<|k_seqx<|k_loopx<|k_blkx<|?_;obtain rfl:=os hc1;exact k_cutn ⟨_,rfl⟩ ⟨[],[],_,_,rfl,rfl,trivial,(.refl _)⟩
   ·rw [hd75,impl_cellsOK_L1.eq_2] at hc1
    have hq74:=dlt hlt70
    refine sr<|s_q (.bool (decide ((s17_48:Int) < (r_2.Cells.length:Int)))) rfl rfl rfl<|dk<|awp_seq<|w_condt rfl hq74<|w_skip<|k_seq<|awp_seq<|w_blk<|sr<|s_mov (.int .i64 (s17_48:Int)) rfl<|s_do (o_iaddrn (enc:=(encL 3 encGAtom)) rfl rfl hx71)<|s_q (.lst 3 (x_76.map encGAtom)) rfl ⟨rfl,rfl⟩ rfl<|s_mov (.int .i64 (s17_48:Int)) rfl<|s_mov (.lst 3 (x_76.map encGAtom)) rfl<|dk<|awp_seq<|?_
    obtain ⟨s34_84,hb2,hc1⟩:=ob hc1
    refine awp_cut ([(2,(.ptr 0 0 0)),(15,(.lst 1 (r_2.Cells.map (encL 3 encGAtom)))),(16,(.int .i64 (r_2.Cells.length:Int))),(17,(.int .i64 (s17_48:Int))),(34,(.bool s34_84))],[.box 4 (.agg [(.str t_1.Name),(.lst 8 (t_1.Columns.map encGColumn)),(.lst 1 (t_1.Unique.map encI)),(.bool t_1.Root)])]) ?_ ?_
    ·refine w_reg<|s_mov (.lst 3 (x_76.map encGAtom)) rfl<|?_
     obtain ⟨r_86,er87,hb2⟩:=ob hb2
     refine s_do (o_call (w_impl_DatumOK _ _ er87) rfl (.refl _) rfl)<|s_q (.bool (!r_86)) rfl trivial rfl<|s_mov (.bool (!r_86)) rfl<|?_
     rcases oi hb2 with ⟨c88,hb2⟩ | ⟨c88,hb2⟩
     ·refine s_lit (s:=25) (b:=true) rfl c88<|s_off rfl rfl<|s_off rfl rfl<|s_off rfl rfl<|s_off rfl rfl<|s_off rfl rfl<|s_off rfl rfl<|s_off rfl rfl<|s_off rfl rfl<|s_q (.bool true) rfl trivial rfl<|w_done<|?_;obtain rfl:=os hb2;exact ⟨[],[0],_,_,rfl,rfl,⟨.refl _,⟨.refl _,⟨.refl _,⟨.refl _,⟨.refl _,trivial⟩⟩⟩⟩⟩,(.refl _)⟩
     ·refine s_lit (s:=25) (b:=false) rfl (bf c88)<|s_on rfl<|s_q (.ptr 0 0 1) rfl trivial rfl<|s_on rfl<|s_q (.lst 8 (t_1.Columns.map encGColumn)) rfl nle rfl<|s_on rfl<|s_mov (.int .i64 (s17_48:Int)) rfl<|s_on rfl<|?_
      obtain ⟨x_89,ex90,hb2⟩:=ob hb2
      refine s_do (o_iaddr (enc:=encGColumn) rfl rfl (idx0 ex90) (idx1 ex90))<|s_on rfl<|s_q (encGColumn x_89) rfl nle rfl<|s_on rfl<|s_mov (.lst 3 (x_76.map encGAtom)) rfl<|s_on rfl<|?_
      obtain ⟨r_91,er92,hb2⟩:=ob hb2
      refine s_do (o_call (w_impl_Column_fits _ _ _ er92) rfl (.refl _) rfl)<|s_on rfl<|s_q (.bool (r_91 != 0)) rfl rfl rfl<|s_q (.bool (r_91 != 0)) rfl trivial rfl<|w_done<|?_;obtain rfl:=os hb2;exact ⟨[],[0],_,_,rfl,rfl,⟨.refl _,⟨.refl _,⟨.refl _,⟨.refl _,⟨.refl _,trivial⟩⟩⟩⟩⟩,(.refl _)⟩
    ·rcases oi hc1 with ⟨c93,hc1⟩ | ⟨c93,hc1⟩
     ·refine w_condt rfl c93<|sr<|s_mov (.bool false) rfl<|dk<|w_ret<|?_;obtain rfl:=os hc1;obtain rfl:=os hf;exact r_flat ⟨trivial,trivial⟩ rfl (.refl _)
     ·refine w_condf rfl (bf c93)<|w_skip<|k_blk<|k_seq<|w_reg<|s_q (.int .i64 (w64 ((s17_48:Int) + 1))) rfl rfl rfl<|s_mov (.int .i64 (w64 ((s17_48:Int) + 1))) rfl<|w_done<|?_;exact k_loopn ⟨(s17_48 + 1),hc1⟩ (mul hlt70) ⟨[],[0],_,_,rfl,rfl,⟨.refl _,⟨.refl _,⟨.refl _,⟨.of_eq (congrArg (AV.int _) (w64_incr hlt70 hl6)),trivial⟩⟩⟩⟩,(.refl _)⟩
  ·rintro ⟨_,rfl⟩
   refine sr<|s_mov (.bool true) rfl<|dk<|w_ret<|?_;obtain rfl:=os hf;exact r_flat ⟨trivial,trivial⟩ rfl (.refl _)

/- impl.storeFits -/
def c56:ACode :=
 (.seq (.reg (tq 2 (.box 1 (.t 0)) (tq 3 (.box 2 (.t 1)) (tm 4 (.c (.bool false)) .done))))
 (.seq (.seq (.reg (tq 9 (.load 1 true (.t 2)) (tq 10 (.call 33 [(.t 9)]) (tq 11 (.not (.t 10)) (tm 12 (.t 11) (tg 13 12 false (.faddr 0 (.t 3)) (tg 14 12 false (.load 1 false (.t 13)) (tg 15 12 false (.len (.t 14)) (tg 16 12 false (.faddr 0 (.t 2)) (tg 17 12 false (.load 1 false (.t 16)) (tg 18 12 false (.len (.t 17)) (tg 19 12 false (.bin .neq (.t 15) (.t 18)) (tq 20 (.pick (.t 12) (.c (.bool true)) (.t 19)) (tm 21 (.t 20) (tg 22 21 false (.faddr 1 (.t 3)) (tg 23 21 false (.load 1 false (.t 22)) (tg 24 21 false (.call 73 [(.t 23)]) (tg 25 21 false (.not (.t 24)) (tq 26 (.pick (.t 21) (.c (.bool true)) (.t 25)) .done)))))))))))))))))))
 (.cut (.cond (.t 26) (.seq (.reg (tm 4 (.c (.bool false)) .done))
 .ret)
 .skip)))
 (.seq (.seq (.reg (tq 27 (.faddr 0 (.t 3)) (tq 28 (.load 1 false (.t 27)) (tq 29 (.len (.t 28)) (tm 30 (.c (.int .i64 0)) .done)))))
 (.block 0 (.loop (.seq (.reg (tq 31 (.bin .lss (.t 30) (.t 29)) .done))
 (.seq (.cond (.t 31) .skip
 (.exit 0))
 (.seq (.block 1 (.seq (.reg (tm 32 (.t 30) (tq 33 (.iaddr 1 (.t 28) (.t 30)) (tq 34 (.load 1 false (.t 33)) (tm 5 (.t 32) (tm 6 (.t 34) .done))))))
 (.seq (.seq (.reg (tm 35 (.t 6) (tq 36 (.len (.t 35)) (tq 37 (.bin .gtr (.t 36) (.c (.int .i64 12))) (tm 38 (.t 37) (tg 39 38 false (.mov (.t 6)) (tg 40 38 false (.call 125 [(.t 39)]) (tg 41 38 false (.not (.t 40)) (tq 42 (.pick (.t 38) (.c (.bool true)) (.t 41)) .done)))))))))
 (.cut (.cond (.t 42) (.seq (.reg (tm 4 (.c (.bool false)) .done))
 .ret)
 .skip)))
 (.seq (.reg (tm 43 (.t 6) (tq 44 (.len (.t 43)) (tm 45 (.c (.int .i64 0)) .done))))
 (.block 2 (.loop (.seq (.reg (tq 46 (.bin .lss (.t 45) (.t 44)) .done))
 (.seq (.cond (.t 46) .skip
 (.exit 2))
 (.seq (.block 3 (.seq (.reg (tq 47 (.iaddr 2 (.t 43) (.t 45)) (tq 48 (.load 2 true (.t 47)) (tq 8 (.box 2 (.c (.agg [(.int .i64 0),.nil]))) (.q ⟨none,none,.store 2 (.t 8) (.t 48)⟩
 .done)))))
 (.seq (.reg (tq 49 (.faddr 0 (.t 8)) (tq 50 (.load 1 false (.t 49)) (tq 51 (.faddr 1 (.t 3)) (tq 52 (.load 1 false (.t 51)) (tq 53 (.bin .sub (.t 52) (.c (.int .i64 1))) (.l ⟨(some 54),none,.call 43 [(.t 50),(.c (.int .i64 1)),(.t 53)]⟩ []
 (tq 55 (.not (.t 54)) (tm 56 (.t 55) (tg 57 56 false (.faddr 0 (.t 2)) (tg 58 56 false (.load 1 false (.t 57)) (tg 59 56 false (.mov (.t 5)) (tg 60 56 false (.iaddr 4 (.t 58) (.t 59)) (tg 61 56 false (.load 4 true (.t 60)) (tg 62 56 false (.load 2 true (.t 8)) (.l ⟨(some 63),(some (56,false)),.call 74 [(.t 61),(.t 62)]⟩ []
 (tg 64 56 false (.not (.t 63)) (tq 65 (.pick (.t 56) (.c (.bool true)) (.t 64)) .done)) .non))))))))) .non)))))))
 (.cut (.cond (.t 65) (.seq (.reg (tm 4 (.c (.bool false)) .done))
 .ret)
 .skip)))))
 (.reg (tq 66 (.bin .add (.t 45) (.c (.int .i64 1))) (tm 45 (.t 66) .done))))))))))))
 (.cut (.reg (tq 67 (.bin .add (.t 30) (.c (.int .i64 1))) (tm 30 (.t 67) .done))))))))))
 (.cut (.seq (.reg (tm 4 (.c (.bool true)) .done))
 .ret)))))
theorem fc56:fcomp Tryz.prog Tryz.f56 = some (c56.erase,[.mov (.t 4)],68):=by kernel_rfl
def impl_storeFits_L2 (x_2:GStore) (s_1:GSchema) (s30_226:Nat):List GRow → Option (Fl Bool Unit)
  | [] =>
    some (.go ())
  | x_418 :: xs =>
    (((impl_within x_418.Id 1 (w64 (x_2.Next - 1))).bind fun r_428 =>
    if (!r_428) then
    some true
    else
    (idx s_1.Tables (s30_226:Int)).bind fun x_431 =>
    (impl_cellsOK x_431 x_418).bind fun r_433 =>
    some (!r_433):Option Bool)).bind fun s65_426 =>
    if s65_426 then
    some (.ret false)
    else
    impl_storeFits_L2 x_2 s_1 s30_226 xs 

def impl_storeFits_L1 (x_2:GStore) (s_1:GSchema):List (List GRow) → Nat → Option (Fl Bool Unit)
  | [],s30_226 =>
    some (.go ())
  | x_336 :: xs,s30_226 =>
    ((if (decide ((x_336.length:Int) > 12)) then
    some true
    else
    (impl_areRising x_336).bind fun r_345 =>
    some (!r_345):Option Bool)).bind fun s42_341 =>
    if s42_341 then
    some (.ret false)
    else
    (impl_storeFits_L2 x_2 s_1 s30_226 x_336 ).bind fun q => (match q with
    | .ret r => some (.ret r)
    | .go _ =>
    impl_storeFits_L1 x_2 s_1 xs (s30_226 + 1))

def impl_storeFits (s_1:GSchema) (x_2:GStore):Option Bool :=
    (((impl_SchemaOK s_1).bind fun r_12 =>
    if (bif (!r_12) then true else ((x_2.Tables.length:Int) != (s_1.Tables.length:Int))) then
    some true
    else
    (impl_isId x_2.Next).bind fun r_17 =>
    some (!r_17):Option Bool)).bind fun s26_10 =>
    if s26_10 then
    some false
    else
    (impl_storeFits_L1 x_2 s_1 x_2.Tables 0).bind fun q => (match q with
    | .ret r => some r
    | .go _ =>
    some true)
theorem w_impl_storeFits (s_1:GSchema) (x_2:GStore) (r:Bool) (hf:impl_storeFits s_1 x_2 = some r):CallOK Tryz.prog 56 .flat [(encGSchema s_1),(encGStore x_2)] (.bool r):=by
 refine CallOK.of_awp mixed Tryz.func56 fc56 nle ?_;rw [argT_eq];unfold impl_storeFits at hf;unfold c56;refine (show awp Tryz.prog false 0 _ (ofL [(0,(encGSchema s_1)),(1,(encGStore x_2))]) [] _ from ?_);refine sr<|s_do (o_box (j:=0) (c:=(.agg [(.lst 4 (s_1.Tables.map encGTable))])) rfl trivial rfl rfl)<|s_do (o_box (j:=1) (c:=(.agg [(.lst 1 (x_2.Tables.map (encL 2 encGRow))),(.int .i64 x_2.Next)])) rfl trivial rfl rfl)<|s_mov (.bool false) rfl<|dk<|awp_seq<|awp_seq<|?_
 obtain ⟨s26_10,hb1,hf⟩:=ob hf
 refine awp_cut ([(2,(.ptr 0 0 0)),(3,(.ptr 1 0 0)),(26,(.bool s26_10))],[.box 1 (.agg [(.lst 4 (s_1.Tables.map encGTable))]),.box 2 (.agg [(.lst 1 (x_2.Tables.map (encL 2 encGRow))),(.int .i64 x_2.Next)])]) ?_ ?_
 ·refine w_reg<|s_q (.agg [(.lst 4 (s_1.Tables.map encGTable))]) rfl nle rfl<|?_
  obtain ⟨r_12,er13,hb1⟩:=ob hb1
  refine s_do (o_call (w_impl_SchemaOK _ _ er13) rfl (.refl _) rfl)<|s_q (.bool (!r_12)) rfl trivial rfl<|s_mov (.bool (!r_12)) rfl<|?_;refine s_g (v:=(!r_12)) (.ptr 1 0 0) rfl (fun hv => by (try simp only [gs_on hv]);exact ⟨rfl,trivial,rfl⟩) ?_;refine s_g (v:=(!r_12)) (.lst 1 (x_2.Tables.map (encL 2 encGRow))) rfl (fun hv => by (try simp only [gs_on hv]);exact ⟨rfl,nle,rfl⟩) ?_;refine s_g (v:=(!r_12)) (.int .i64 (x_2.Tables.length:Int)) rfl (fun hv => by (try simp only [gs_on hv]);exact ⟨rfl,trivial,lenV _ _⟩) ?_;refine s_g (v:=(!r_12)) (.ptr 0 0 0) rfl (fun hv => by (try simp only [gs_on hv]);exact ⟨rfl,trivial,rfl⟩) ?_;refine s_g (v:=(!r_12)) (.lst 4 (s_1.Tables.map encGTable)) rfl (fun hv => by (try simp only [gs_on hv]);exact ⟨rfl,nle,rfl⟩) ?_
  refine s_g (v:=(!r_12)) (.int .i64 (s_1.Tables.length:Int)) rfl (fun hv => by (try simp only [gs_on hv]);exact ⟨rfl,trivial,lenV _ _⟩) ?_;refine s_g (v:=(!r_12)) (.bool ((x_2.Tables.length:Int) != (s_1.Tables.length:Int))) rfl (fun hv => by (try simp only [gs_on hv]);exact ⟨rfl,rfl,rfl⟩) ?_;refine s_pick (x:=true) (y:=((x_2.Tables.length:Int) != (s_1.Tables.length:Int))) rfl (fun hv => by (try simp only [gs_on hv]);rfl) (fun hv => by (try simp only [gs_on hv]);rfl) ?_;refine s_mov (.bool (bif (!r_12) then true else ((x_2.Tables.length:Int) != (s_1.Tables.length:Int)))) rfl ?_
  rcases oi hb1 with ⟨c16,hb1⟩ | ⟨c16,hb1⟩
  ·refine s_lit (s:=21) (b:=true) rfl c16<|s_off rfl rfl<|s_off rfl rfl<|s_off rfl rfl<|s_off rfl rfl<|s_q (.bool true) rfl trivial rfl<|w_done<|?_;obtain rfl:=os hb1;exact ⟨[],[0,1],_,_,rfl,rfl,⟨.refl _,⟨.refl _,⟨.refl _,trivial⟩⟩⟩,(.refl _)⟩
  ·refine s_lit (s:=21) (b:=false) rfl (bf c16)<|s_on rfl<|s_q (.ptr 1 0 1) rfl trivial rfl<|s_on rfl<|s_q (.int .i64 x_2.Next) rfl nle rfl<|s_on rfl<|?_
   obtain ⟨r_17,er18,hb1⟩:=ob hb1
   refine s_do (o_call (w_impl_isId _ _ er18) rfl (.refl _) rfl)<|s_on rfl<|s_q (.bool (!r_17)) rfl trivial rfl<|s_q (.bool (!r_17)) rfl trivial rfl<|w_done<|?_;obtain rfl:=os hb1;exact ⟨[],[0,1],_,_,rfl,rfl,⟨.refl _,⟨.refl _,⟨.refl _,trivial⟩⟩⟩,(.refl _)⟩
 ·rcases oi hf with ⟨c19,hf⟩ | ⟨c19,hf⟩
  ·refine w_condt rfl c19<|sr<|s_mov (.bool false) rfl<|dk<|w_ret<|?_;obtain rfl:=os hf;exact r_flat ⟨trivial,trivial⟩ rfl (.refl _)
  ·refine w_condf rfl (bf c19)<|w_skip<|k_seq<|awp_seq<|sr<|s_q (.ptr 1 0 0) rfl trivial rfl<|s_q (.lst 1 (x_2.Tables.map (encL 2 encGRow))) rfl nle rfl<|s_dof (o_len (enc:=(encL 2 encGRow)) rfl) fun hl20 => s_mov (.int .i64 0) rfl<|dk<|?_
   obtain ⟨p329,hb1,hf⟩:=ob hf
   refine awp_cutx (X:={q:Unit // p329 = .go q}) (fun q => ([],[])) ?_ ?_
   ·refine awp_loop (X:={q:Nat // impl_storeFits_L1 x_2 s_1 (x_2.Tables.drop q) q = some p329}) (fun q => ([(2,(.ptr 0 0 0)),(3,(.ptr 1 0 0)),(28,(.lst 1 (x_2.Tables.map (encL 2 encGRow)))),(29,(.int .i64 (x_2.Tables.length:Int))),(30,(.int .i64 (q.1:Int)))],[.box 1 (.agg [(.lst 4 (s_1.Tables.map encGTable))]),.box 2 (.agg [(.lst 1 (x_2.Tables.map (encL 2 encGRow))),(.int .i64 x_2.Next)])])) (fun q => x_2.Tables.length - q.1) ⟨0,hb1⟩ ⟨[],[0,1],_,_,rfl,rfl,⟨.refl _,⟨.refl _,⟨.refl _,⟨.refl _,⟨.refl _,trivial⟩⟩⟩⟩⟩,(.refl _)⟩ ?_
    rintro ⟨s30_226,hc1⟩
    have hc1:impl_storeFits_L1 x_2 s_1 (x_2.Tables.drop s30_226) s30_226 = some p329:=hc1
    refine (show awp Tryz.prog false 0 _ (ofL [(2,(.ptr 0 0 0)),(3,(.ptr 1 0 0)),(28,(.lst 1 (x_2.Tables.map (encL 2 encGRow)))),(29,(.int .i64 (x_2.Tables.length:Int))),(30,(.int .i64 (s30_226:Int)))]) [.box 1 (.agg [(.lst 4 (s_1.Tables.map encGTable))]),.box 2 (.agg [(.lst 1 (x_2.Tables.map (encL 2 encGRow))),(.int .i64 x_2.Next)])] _ from ?_)
    rcases dropc x_2.Tables s30_226 with ⟨hie332,hd335⟩ | ⟨hlt330,x_336,hx331,hd335⟩
    ·rw [hd335,impl_storeFits_L1.eq_1] at hc1
     have hq334:=dlf hie332
     refine sr<|s_q (.bool (decide ((s30_226:Int) < (x_2.Tables.length:Int)))) rfl rfl rfl<|dk<|awp_seq<|w_condf rfl hq334<|w_exit<|k_seqx<|k_loopx<|k_blkx<|?_;obtain rfl:=os hc1;exact k_cutn ⟨_,rfl⟩ ⟨[],[],_,_,rfl,rfl,trivial,(.refl _)⟩
    ·rw [hd335,impl_storeFits_L1.eq_2] at hc1
     have hq334:=dlt hlt330
     refine sr<|s_q (.bool (decide ((s30_226:Int) < (x_2.Tables.length:Int)))) rfl rfl rfl<|dk<|awp_seq<|w_condt rfl hq334<|w_skip<|k_seq<|awp_seq<|w_blk<|sr<|s_mov (.int .i64 (s30_226:Int)) rfl<|s_do (o_iaddrn (enc:=(encL 2 encGRow)) rfl rfl hx331)<|s_q (.lst 2 (x_336.map encGRow)) rfl ⟨rfl,rfl⟩ rfl<|s_mov (.int .i64 (s30_226:Int)) rfl<|s_mov (.lst 2 (x_336.map encGRow)) rfl<|dk<|awp_seq<|awp_seq<|?_
     obtain ⟨s42_341,hb2,hc1⟩:=ob hc1
     refine awp_cut ([(2,(.ptr 0 0 0)),(3,(.ptr 1 0 0)),(5,(.int .i64 (s30_226:Int))),(6,(.lst 2 (x_336.map encGRow))),(28,(.lst 1 (x_2.Tables.map (encL 2 encGRow)))),(29,(.int .i64 (x_2.Tables.length:Int))),(30,(.int .i64 (s30_226:Int))),(42,(.bool s42_341))],[.box 1 (.agg [(.lst 4 (s_1.Tables.map encGTable))]),.box 2 (.agg [(.lst 1 (x_2.Tables.map (encL 2 encGRow))),(.int .i64 x_2.Next)])]) ?_ ?_
     ·refine w_reg ?_
      rcases oi hb2 with ⟨c344,hb2⟩ | ⟨c344,hb2⟩
      ·refine s_mov (.lst 2 (x_336.map encGRow)) rfl<|s_dof (o_len (enc:=encGRow) rfl) fun hl343 => s_q (.bool (decide ((x_336.length:Int) > 12))) rfl rfl rfl<|s_mov (.bool (decide ((x_336.length:Int) > 12))) rfl<|s_lit (s:=38) (b:=true) rfl c344<|s_off rfl rfl<|s_off rfl rfl<|s_off rfl rfl<|s_q (.bool true) rfl trivial rfl<|w_done<|?_;obtain rfl:=os hb2;exact ⟨[],[0,1],_,_,rfl,rfl,⟨.refl _,⟨.refl _,⟨.refl _,⟨.refl _,⟨.refl _,⟨.refl _,⟨.refl _,⟨.refl _,trivial⟩⟩⟩⟩⟩⟩⟩⟩,(.refl _)⟩
      ·obtain ⟨r_345,er346,hb2⟩:=ob hb2
       refine s_mov (.lst 2 (x_336.map encGRow)) rfl<|s_dof (o_len (enc:=encGRow) rfl) fun hl343 => s_q (.bool (decide ((x_336.length:Int) > 12))) rfl rfl rfl<|s_mov (.bool (decide ((x_336.length:Int) > 12))) rfl<|s_lit (s:=38) (b:=false) rfl (bf c344)<|s_on rfl<|s_mov (.lst 2 (x_336.map encGRow)) rfl<|s_on rfl<|s_do (o_call (w_impl_areRising _ _ er346) rfl (.refl _) rfl)<|s_on rfl<|s_q (.bool (!r_345)) rfl trivial rfl<|s_q (.bool (!r_345)) rfl trivial rfl<|w_done<|?_;obtain rfl:=os hb2;exact ⟨[],[0,1],_,_,rfl,rfl,⟨.refl _,⟨.refl _,⟨.refl _,⟨.refl _,⟨.refl _,⟨.refl _,⟨.refl _,⟨.refl _,trivial⟩⟩⟩⟩⟩⟩⟩⟩,(.refl _)⟩
     ·rcases oi hc1 with ⟨c347,hc1⟩ | ⟨c347,hc1⟩
      ·refine w_condt rfl c347<|sr<|s_mov (.bool false) rfl<|dk<|w_ret<|?_;obtain rfl:=os hc1;obtain rfl:=os hf;exact r_flat ⟨trivial,trivial⟩ rfl (.refl _)
      ·refine w_condf rfl (bf c347)<|w_skip<|k_seq<|sr<|s_mov (.lst 2 (x_336.map encGRow)) rfl<|s_dof (o_len (enc:=encGRow) rfl) fun hl348 => s_mov (.int .i64 0) rfl<|dk<|?_
       obtain ⟨p411,hb2,hc1⟩:=ob hc1
       refine awp_cutxb (X:={q:Unit // p411 = .go q}) (fun q => ([(2,(.ptr 0 0 0)),(3,(.ptr 1 0 0)),(28,(.lst 1 (x_2.Tables.map (encL 2 encGRow)))),(29,(.int .i64 (x_2.Tables.length:Int))),(30,(.int .i64 (s30_226:Int)))],[.box 1 (.agg [(.lst 4 (s_1.Tables.map encGTable))]),.box 2 (.agg [(.lst 1 (x_2.Tables.map (encL 2 encGRow))),(.int .i64 x_2.Next)])])) ?_ ?_
       ·refine awp_loop (X:={q:Nat // impl_storeFits_L2 x_2 s_1 s30_226 (x_336.drop q)  = some p411}) (fun q => ([(2,(.ptr 0 0 0)),(3,(.ptr 1 0 0)),(5,(.int .i64 (s30_226:Int))),(28,(.lst 1 (x_2.Tables.map (encL 2 encGRow)))),(29,(.int .i64 (x_2.Tables.length:Int))),(30,(.int .i64 (s30_226:Int))),(43,(.lst 2 (x_336.map encGRow))),(44,(.int .i64 (x_336.length:Int))),(45,(.int .i64 (q.1:Int)))],[.box 1 (.agg [(.lst 4 (s_1.Tables.map encGTable))]),.box 2 (.agg [(.lst 1 (x_2.Tables.map (encL 2 encGRow))),(.int .i64 x_2.Next)])])) (fun q => x_336.length - q.1) ⟨0,hb2⟩ ⟨[],[0,1],_,_,rfl,rfl,⟨.refl _,⟨.refl _,⟨.refl _,⟨.refl _,⟨.refl _,⟨.refl _,⟨.refl _,⟨.refl _,⟨.refl _,trivial⟩⟩⟩⟩⟩⟩⟩⟩⟩,(.refl _)⟩ ?_
        rintro ⟨s45_390,hc2⟩
        have hc2:impl_storeFits_L2 x_2 s_1 s30_226 (x_336.drop s45_390)  = some p411:=hc2
        refine (show awp Tryz.prog false 0 _ (ofL [(2,(.ptr 0 0 0)),(3,(.ptr 1 0 0)),(5,(.int .i64 (s30_226:Int))),(28,(.lst 1 (x_2.Tables.map (encL 2 encGRow)))),(29,(.int .i64 (x_2.Tables.length:Int))),(30,(.int .i64 (s30_226:Int))),(43,(.lst 2 (x_336.map encGRow))),(44,(.int .i64 (x_336.length:Int))),(45,(.int .i64 (s45_390:Int)))]) [.box 1 (.agg [(.lst 4 (s_1.Tables.map encGTable))]),.box 2 (.agg [(.lst 1 (x_2.Tables.map (encL 2 encGRow))),(.int .i64 x_2.Next)])] _ from ?_)
        rcases dropc x_336 s45_390 with ⟨hie414,hd417⟩ | ⟨hlt412,x_418,hx413,hd417⟩
        ·rw [hd417,impl_storeFits_L2.eq_1] at hc2
         have hq416:=dlf hie414
         refine sr<|s_q (.bool (decide ((s45_390:Int) < (x_336.length:Int)))) rfl rfl rfl<|dk<|awp_seq<|w_condf rfl hq416<|w_exit<|k_seqx<|k_loopx<|k_blkx<|?_;refine k_blk ?_;obtain rfl:=os hc2;exact k_cutn ⟨_,rfl⟩ ⟨[],[0,1],_,_,rfl,rfl,⟨.refl _,⟨.refl _,⟨.refl _,⟨.refl _,⟨.refl _,trivial⟩⟩⟩⟩⟩,(.refl _)⟩
        ·rw [hd417,impl_storeFits_L2.eq_2] at hc2
         have hq416:=dlt hlt412
         refine sr<|s_q (.bool (decide ((s45_390:Int) < (x_336.length:Int)))) rfl rfl rfl<|dk<|awp_seq<|w_condt rfl hq416<|w_skip<|k_seq<|awp_seq<|w_blk<|sr<|s_do (o_iaddrn (enc:=encGRow) rfl rfl hx413)<|s_q (encGRow x_418) rfl nle rfl<|s_do (o_box (j:=2) (c:=(.agg [(.int .i64 0),.nil])) rfl trivial rfl rfl)<|s_do0 (o_storebox (v:=(.agg [(.int .i64 x_418.Id),(.lst 1 (x_418.Cells.map (encL 3 encGAtom)))])) (y':=(.agg [(.int .i64 x_418.Id),(.lst 1 (x_418.Cells.map (encL 3 encGAtom)))])) rfl rfl rfl trivial ⟨rfl,nle⟩ ⟨⟨rfl,trivial⟩,⟨⟨rfl,trivial⟩,trivial⟩⟩ rfl)<|dk<|awp_seq<|?_
         obtain ⟨s65_426,hb3,hc2⟩:=ob hc2
         refine awp_cut ([(2,(.ptr 0 0 0)),(3,(.ptr 1 0 0)),(5,(.int .i64 (s30_226:Int))),(28,(.lst 1 (x_2.Tables.map (encL 2 encGRow)))),(29,(.int .i64 (x_2.Tables.length:Int))),(30,(.int .i64 (s30_226:Int))),(43,(.lst 2 (x_336.map encGRow))),(44,(.int .i64 (x_336.length:Int))),(45,(.int .i64 (s45_390:Int))),(65,(.bool s65_426))],[.box 1 (.agg [(.lst 4 (s_1.Tables.map encGTable))]),.box 2 (.agg [(.lst 1 (x_2.Tables.map (encL 2 encGRow))),(.int .i64 x_2.Next)])]) ?_ ?_
         ·refine w_reg<|s_q (.ptr 2 0 0) rfl trivial rfl<|s_q (.int .i64 x_418.Id) rfl nle rfl<|s_q (.ptr 1 0 1) rfl trivial rfl<|s_q (.int .i64 x_2.Next) rfl nle rfl<|s_q (.int .i64 (w64 (x_2.Next - 1))) rfl rfl rfl<|?_
          obtain ⟨r_428,er429,hb3⟩:=ob hb3
          refine s_dol (o_call (w_impl_within _ _ _ _ er429) rfl (.refl _) rfl) a_same trivial<|s_q (.bool (!r_428)) rfl trivial rfl<|s_mov (.bool (!r_428)) rfl<|?_
          rcases oi hb3 with ⟨c430,hb3⟩ | ⟨c430,hb3⟩
          ·refine s_lit (s:=56) (b:=true) rfl c430<|s_off rfl rfl<|s_off rfl rfl<|s_off rfl rfl<|s_off rfl rfl<|s_off rfl rfl<|s_off rfl rfl<|s_offl rfl rfl trivial<|s_off rfl rfl<|s_q (.bool true) rfl trivial rfl<|w_done<|?_;obtain rfl:=os hb3;exact ⟨[],[0,1],_,_,rfl,rfl,⟨.refl _,⟨.refl _,⟨.refl _,⟨.refl _,⟨.refl _,⟨.refl _,⟨.refl _,⟨.refl _,⟨.refl _,⟨.refl _,trivial⟩⟩⟩⟩⟩⟩⟩⟩⟩⟩,(.refl _)⟩
          ·refine s_lit (s:=56) (b:=false) rfl (bf c430)<|s_on rfl<|s_q (.ptr 0 0 0) rfl trivial rfl<|s_on rfl<|s_q (.lst 4 (s_1.Tables.map encGTable)) rfl nle rfl<|s_on rfl<|s_mov (.int .i64 (s30_226:Int)) rfl<|s_on rfl<|?_
           obtain ⟨x_431,ex432,hb3⟩:=ob hb3
           refine s_do (o_iaddr (enc:=encGTable) rfl rfl (idx0 ex432) (idx1 ex432))<|s_on rfl<|s_q (encGTable x_431) rfl nle rfl<|s_on rfl<|s_q (.agg [(.int .i64 x_418.Id),(.lst 1 (x_418.Cells.map (encL 3 encGAtom)))]) rfl nle rfl<|s_onl rfl<|?_
           obtain ⟨r_433,er434,hb3⟩:=ob hb3
           refine s_dol (o_call (w_impl_cellsOK _ _ _ er434) rfl (.refl _) rfl) a_same trivial<|s_on rfl<|s_q (.bool (!r_433)) rfl trivial rfl<|s_q (.bool (!r_433)) rfl trivial rfl<|w_done<|?_;obtain rfl:=os hb3;exact ⟨[],[0,1],_,_,rfl,rfl,⟨.refl _,⟨.refl _,⟨.refl _,⟨.refl _,⟨.refl _,⟨.refl _,⟨.refl _,⟨.refl _,⟨.refl _,⟨.refl _,trivial⟩⟩⟩⟩⟩⟩⟩⟩⟩⟩,(.refl _)⟩
         ·rcases oi hc2 with ⟨c435,hc2⟩ | ⟨c435,hc2⟩
          ·refine w_condt rfl c435<|sr<|s_mov (.bool false) rfl<|dk<|w_ret<|?_;obtain rfl:=os hc2;obtain rfl:=os hc1;obtain rfl:=os hf;exact r_flat ⟨trivial,trivial⟩ rfl (.refl _)
          ·refine w_condf rfl (bf c435)<|w_skip<|k_blk<|k_seq<|w_reg<|s_q (.int .i64 (w64 ((s45_390:Int) + 1))) rfl rfl rfl<|s_mov (.int .i64 (w64 ((s45_390:Int) + 1))) rfl<|w_done<|?_;exact k_loopn ⟨(s45_390 + 1),hc2⟩ (mul hlt412) ⟨[],[0,1],_,_,rfl,rfl,⟨.refl _,⟨.refl _,⟨.refl _,⟨.refl _,⟨.refl _,⟨.refl _,⟨.refl _,⟨.refl _,⟨.of_eq (congrArg (AV.int _) (w64_incr hlt412 hl348)),trivial⟩⟩⟩⟩⟩⟩⟩⟩⟩,(.refl _)⟩
       ·rintro ⟨_,rfl⟩
        refine w_reg<|s_q (.int .i64 (w64 ((s30_226:Int) + 1))) rfl rfl rfl<|s_mov (.int .i64 (w64 ((s30_226:Int) + 1))) rfl<|w_done<|?_;exact k_loopn ⟨(s30_226 + 1),hc1⟩ (mul hlt330) ⟨[],[0,1],_,_,rfl,rfl,⟨.refl _,⟨.refl _,⟨.refl _,⟨.refl _,⟨.of_eq (congrArg (AV.int _) (w64_incr hlt330 hl20)),trivial⟩⟩⟩⟩⟩,(.refl _)⟩
   ·rintro ⟨_,rfl⟩
    refine sr<|s_mov (.bool true) rfl<|dk<|w_ret<|?_;obtain rfl:=os hf;exact r_flat ⟨trivial,trivial⟩ rfl (.refl _)

/- impl.eachSet -/
def c126:ACode :=
 (.seq (.reg (tq 3 (.box 1 (.t 0)) (tq 4 (.box 2 (.t 1)) .done)))
 (.seq (.reg (tq 12 (.faddr 0 (.t 3)) (tq 13 (.load 1 false (.t 12)) (tq 14 (.len (.t 13)) (tm 15 (.c (.int .i64 0)) .done)))))
 (.block 0 (.loop (.seq (.reg (tq 16 (.bin .lss (.t 15) (.t 14)) .done))
 (.seq (.cond (.t 16) .skip
 (.exit 0))
 (.seq (.block 1 (.seq (.reg (tm 17 (.t 15) (tq 18 (.iaddr 4 (.t 13) (.t 15)) (tq 19 (.load 4 true (.t 18)) (tq 7 (.box 4 (.c (.agg [(.str []),.nil,.nil,(.bool false)]))) (tm 6 (.t 17) (.q ⟨none,none,.store 4 (.t 7) (.t 19)⟩
 .done)))))))
 (.seq (.reg (tq 20 (.faddr 1 (.t 7)) (tq 21 (.load 1 false (.t 20)) (tq 22 (.len (.t 21)) (tm 23 (.c (.int .i64 0)) .done)))))
 (.block 2 (.loop (.seq (.reg (tq 24 (.bin .lss (.t 23) (.t 22)) .done))
 (.seq (.cond (.t 24) .skip
 (.exit 2))
 (.seq (.block 3 (.seq (.reg (tm 25 (.t 23) (tq 26 (.iaddr 8 (.t 21) (.t 23)) (tq 27 (.load 8 true (.t 26)) (tq 9 (.box 8 (.c (.agg [(.str []),(.int .i64 0),(.int .i64 0),(.int .i64 0),(.int .i64 0),(.int .i64 0),(.str []),(.bool false)]))) (tm 8 (.t 25) (.q ⟨none,none,.store 8 (.t 9) (.t 27)⟩
 .done)))))))
 (.seq (.seq (.reg (tq 28 (.faddr 1 (.t 9)) (tq 29 (.load 1 false (.t 28)) (tq 30 (.bin .neq (.t 29) (.c (.int .i64 4))) .done))))
 (.cond (.t 30) (.exit 3)
 .skip))
 (.seq (.reg (tq 31 (.faddr 0 (.t 4)) (tq 32 (.load 1 false (.t 31)) (tm 33 (.t 6) (tq 34 (.iaddr 1 (.t 32) (.t 33)) (tq 35 (.load 1 false (.t 34)) (tq 36 (.len (.t 35)) (tm 37 (.c (.int .i64 0)) .done))))))))
 (.block 4 (.loop (.seq (.reg (tq 38 (.bin .lss (.t 37) (.t 36)) .done))
 (.seq (.cond (.t 38) .skip
 (.exit 4))
 (.seq (.block 5 (.seq (.reg (tq 39 (.iaddr 2 (.t 35) (.t 37)) (tq 40 (.load 2 true (.t 39)) (tq 11 (.box 2 (.c (.agg [(.int .i64 0),.nil]))) (.q ⟨none,none,.store 2 (.t 11) (.t 40)⟩
 .done)))))
 (.reg (tm 41 (.t 2) (tq 42 (.load 8 true (.t 9)) (tq 43 (.load 1 true (.t 3)) (tq 44 (.faddr 6 (.t 9)) (tq 45 (.load 1 false (.t 44)) (tq 47 (.faddr 1 (.t 11)) (tq 48 (.load 1 false (.t 47)) (tm 49 (.t 8) (tq 50 (.iaddr 1 (.t 48) (.t 49)) (tq 51 (.load 1 false (.t 50)) (.l ⟨(some 46),none,.call 90 [(.t 43),(.t 45)]⟩ [⟨(some 51),none,.load 1 false (.t 50)⟩,⟨(some 50),none,.iaddr 1 (.t 48) (.t 49)⟩,⟨(some 48),none,.load 1 false (.t 47)⟩,⟨(some 47),none,.faddr 1 (.t 11)⟩,⟨(some 42),none,.load 8 true (.t 9)⟩]
 (.l ⟨(some 52),none,.calv (.t 41) [(.t 42),(.t 46),(.t 51)]⟩ []
 .done .non) .non))))))))))))))
 (.reg (tq 53 (.bin .add (.t 37) (.c (.int .i64 1))) (tm 37 (.t 53) .done))))))))))))
 (.cut (.reg (tq 54 (.bin .add (.t 23) (.c (.int .i64 1))) (tm 23 (.t 54) .done))))))))))))
 (.cut (.reg (tq 55 (.bin .add (.t 15) (.c (.int .i64 1))) (tm 15 (.t 55) .done)))))))))))
theorem fc126:fcomp Tryz.prog Tryz.f126 = some (c126.erase,[],56):=by kernel_rfl
def impl_eachSet_L3 (s23_750:Nat) (s_1:GSchema) (x_808:GColumn) (f_3:(GColumn → Int → (List GAtom) → Option Unit)):List GRow → Option Unit
  | [] =>
    some ()
  | x_849 :: xs =>
    (idx x_849.Cells (s23_750:Int)).bind fun x_850 =>
    (impl_Schema_tableAt s_1 x_808.Ref).bind fun r_852 =>
    (f_3 x_808 r_852 x_850).bind fun r_854 =>
    impl_eachSet_L3 s23_750 s_1 x_808 f_3 xs 

def impl_eachSet_L2 (x_2:GStore) (s15_428:Nat) (s_1:GSchema) (f_3:(GColumn → Int → (List GAtom) → Option Unit)):List GColumn → Nat → Option Unit
  | [],s23_750 =>
    some ()
  | x_808 :: xs,s23_750 =>
    if (x_808.Kind != 4) then
    impl_eachSet_L2 x_2 s15_428 s_1 f_3 xs (s23_750 + 1)
    else
    (idx x_2.Tables (s15_428:Int)).bind fun x_810 =>
    (impl_eachSet_L3 s23_750 s_1 x_808 f_3 x_810 ).bind fun _ =>
    impl_eachSet_L2 x_2 s15_428 s_1 f_3 xs (s23_750 + 1)

def impl_eachSet_L1 (x_2:GStore) (s_1:GSchema) (f_3:(GColumn → Int → (List GAtom) → Option Unit)):List GTable → Nat → Option Unit
  | [],s15_428 =>
    some ()
  | x_647 :: xs,s15_428 =>
    (impl_eachSet_L2 x_2 s15_428 s_1 f_3 x_647.Columns 0).bind fun _ =>
    impl_eachSet_L1 x_2 s_1 f_3 xs (s15_428 + 1)

def impl_eachSet (s_1:GSchema) (x_2:GStore) (f_3:(GColumn → Int → (List GAtom) → Option Unit)):Option Unit :=
    impl_eachSet_L1 x_2 s_1 f_3 s_1.Tables 0
theorem w_impl_eachSet (s_1:GSchema) (x_2:GStore) (f_3:(GColumn → Int → (List GAtom) → Option Unit)) (r:Unit) (hf:impl_eachSet s_1 x_2 f_3 = some r) (kf_f_3:Nat) (cf_f_3:List AV) (okf_f_3:okFn Tryz.prog kf_f_3 = true) (hcf_f_3:∀ h p,closeWs h p cf_f_3 = some cf_f_3) (hrf_f_3:∀ f,rens f cf_f_3 = cf_f_3) (hpf_f_3:∀ a0 a1 a2 r,f_3 a0 a1 a2 = some r → CallOK Tryz.prog kf_f_3 .flat ([(encGColumn a0),(.int .i64 a1),(.lst 3 (a2.map encGAtom))] ++ cf_f_3) (.tup [])):CallOK Tryz.prog 126 .flat [(encGSchema s_1),(encGStore x_2),(.fn kf_f_3 cf_f_3)] (.tup []):=by
 refine CallOK.of_awp mixed Tryz.func126 fc126 nle ?_;rw [argT_eq];unfold impl_eachSet at hf;unfold c126;refine (show awp Tryz.prog false 0 _ (ofL [(0,(encGSchema s_1)),(1,(encGStore x_2)),(2,(.fn kf_f_3 cf_f_3))]) [] _ from ?_);refine sr<|s_do (o_box (j:=0) (c:=(.agg [(.lst 4 (s_1.Tables.map encGTable))])) rfl trivial rfl rfl)<|s_do (o_box (j:=1) (c:=(.agg [(.lst 1 (x_2.Tables.map (encL 2 encGRow))),(.int .i64 x_2.Next)])) rfl trivial rfl rfl)<|dk<|sr<|s_q (.ptr 0 0 0) rfl trivial rfl<|s_q (.lst 4 (s_1.Tables.map encGTable)) rfl nle rfl<|s_dof (o_len (enc:=encGTable) rfl) fun hl4 => s_mov (.int .i64 0) rfl<|dk<|?_;refine awp_loop (X:={q:Nat // impl_eachSet_L1 x_2 s_1 f_3 (s_1.Tables.drop q) q = some r}) (fun q => ([(2,(.fn kf_f_3 cf_f_3)),(3,(.ptr 0 0 0)),(4,(.ptr 1 0 0)),(13,(.lst 4 (s_1.Tables.map encGTable))),(14,(.int .i64 (s_1.Tables.length:Int))),(15,(.int .i64 (q.1:Int)))],[.box 1 (.agg [(.lst 4 (s_1.Tables.map encGTable))]),.box 2 (.agg [(.lst 1 (x_2.Tables.map (encL 2 encGRow))),(.int .i64 x_2.Next)])])) (fun q => s_1.Tables.length - q.1) ⟨0,hf⟩ ⟨[],[0,1],_,_,rfl,rfl,⟨.of_eq (congrArg (AV.fn _) (hrf_f_3 _)),⟨.refl _,⟨.refl _,⟨.refl _,⟨.refl _,⟨.refl _,trivial⟩⟩⟩⟩⟩⟩,(.refl _)⟩ ?_
 rintro ⟨s15_428,hc1⟩
 have hc1:impl_eachSet_L1 x_2 s_1 f_3 (s_1.Tables.drop s15_428) s15_428 = some r:=hc1
 refine (show awp Tryz.prog false 0 _ (ofL [(2,(.fn kf_f_3 cf_f_3)),(3,(.ptr 0 0 0)),(4,(.ptr 1 0 0)),(13,(.lst 4 (s_1.Tables.map encGTable))),(14,(.int .i64 (s_1.Tables.length:Int))),(15,(.int .i64 (s15_428:Int)))]) [.box 1 (.agg [(.lst 4 (s_1.Tables.map encGTable))]),.box 2 (.agg [(.lst 1 (x_2.Tables.map (encL 2 encGRow))),(.int .i64 x_2.Next)])] _ from ?_)
 rcases dropc s_1.Tables s15_428 with ⟨hie643,hd646⟩ | ⟨hlt641,x_647,hx642,hd646⟩
 ·rw [hd646,impl_eachSet_L1.eq_1] at hc1
  have hq645:=dlf hie643
  refine sr<|s_q (.bool (decide ((s15_428:Int) < (s_1.Tables.length:Int)))) rfl rfl rfl<|dk<|awp_seq<|w_condf rfl hq645<|w_exit<|k_seqx<|k_loopx<|k_blkx<|?_;obtain rfl:=os hc1;exact r_flat trivial rfl (.refl _)
 ·rw [hd646,impl_eachSet_L1.eq_2] at hc1
  have hq645:=dlt hlt641
  refine sr<|s_q (.bool (decide ((s15_428:Int) < (s_1.Tables.length:Int)))) rfl rfl rfl<|dk<|awp_seq<|w_condt rfl hq645<|w_skip<|k_seq<|awp_seq<|w_blk<|sr<|s_mov (.int .i64 (s15_428:Int)) rfl<|s_do (o_iaddrn (enc:=encGTable) rfl rfl hx642)<|s_q (encGTable x_647) rfl nle rfl<|s_do (o_box (j:=2) (c:=(.agg [(.str []),.nil,.nil,(.bool false)])) rfl trivial rfl rfl)<|s_mov (.int .i64 (s15_428:Int)) rfl<|s_do0 (o_storebox (v:=(.agg [(.str x_647.Name),(.lst 8 (x_647.Columns.map encGColumn)),(.lst 1 (x_647.Unique.map encI)),(.bool x_647.Root)])) (y':=(.agg [(.str x_647.Name),(.lst 8 (x_647.Columns.map encGColumn)),(.lst 1 (x_647.Unique.map encI)),(.bool x_647.Root)])) rfl rfl rfl trivial ⟨rfl,nle⟩ ⟨⟨rfl,trivial⟩,⟨⟨rfl,trivial⟩,⟨⟨rfl,trivial⟩,⟨⟨rfl,trivial⟩,trivial⟩⟩⟩⟩ rfl)<|?_
  refine dk<|sr<|s_q (.ptr 2 0 1) rfl trivial rfl<|s_q (.lst 8 (x_647.Columns.map encGColumn)) rfl nle rfl<|s_dof (o_len (enc:=encGColumn) rfl) fun hl648 => s_mov (.int .i64 0) rfl<|dk<|?_
  obtain ⟨p801,hb1,hc1⟩:=ob hc1
  refine awp_cutb ([(2,(.fn kf_f_3 cf_f_3)),(3,(.ptr 0 0 0)),(4,(.ptr 1 0 0)),(13,(.lst 4 (s_1.Tables.map encGTable))),(14,(.int .i64 (s_1.Tables.length:Int))),(15,(.int .i64 (s15_428:Int)))],[.box 1 (.agg [(.lst 4 (s_1.Tables.map encGTable))]),.box 2 (.agg [(.lst 1 (x_2.Tables.map (encL 2 encGRow))),(.int .i64 x_2.Next)])]) ?_ ?_
  ·refine awp_loop (X:={q:Nat // impl_eachSet_L2 x_2 s15_428 s_1 f_3 (x_647.Columns.drop q) q = some p801}) (fun q => ([(2,(.fn kf_f_3 cf_f_3)),(3,(.ptr 0 0 0)),(4,(.ptr 1 0 0)),(6,(.int .i64 (s15_428:Int))),(13,(.lst 4 (s_1.Tables.map encGTable))),(14,(.int .i64 (s_1.Tables.length:Int))),(15,(.int .i64 (s15_428:Int))),(21,(.lst 8 (x_647.Columns.map encGColumn))),(22,(.int .i64 (x_647.Columns.length:Int))),(23,(.int .i64 (q.1:Int)))],[.box 1 (.agg [(.lst 4 (s_1.Tables.map encGTable))]),.box 2 (.agg [(.lst 1 (x_2.Tables.map (encL 2 encGRow))),(.int .i64 x_2.Next)])])) (fun q => x_647.Columns.length - q.1) ⟨0,hb1⟩ ⟨[],[0,1],_,_,rfl,rfl,⟨.of_eq (congrArg (AV.fn _) (hrf_f_3 _)),⟨.refl _,⟨.refl _,⟨.refl _,⟨.refl _,⟨.refl _,⟨.refl _,⟨.refl _,⟨.refl _,⟨.refl _,trivial⟩⟩⟩⟩⟩⟩⟩⟩⟩⟩,(.refl _)⟩ ?_
   rintro ⟨s23_750,hc1⟩
   have hc1:impl_eachSet_L2 x_2 s15_428 s_1 f_3 (x_647.Columns.drop s23_750) s23_750 = some p801:=hc1
   refine (show awp Tryz.prog false 0 _ (ofL [(2,(.fn kf_f_3 cf_f_3)),(3,(.ptr 0 0 0)),(4,(.ptr 1 0 0)),(6,(.int .i64 (s15_428:Int))),(13,(.lst 4 (s_1.Tables.map encGTable))),(14,(.int .i64 (s_1.Tables.length:Int))),(15,(.int .i64 (s15_428:Int))),(21,(.lst 8 (x_647.Columns.map encGColumn))),(22,(.int .i64 (x_647.Columns.length:Int))),(23,(.int .i64 (s23_750:Int)))]) [.box 1 (.agg [(.lst 4 (s_1.Tables.map encGTable))]),.box 2 (.agg [(.lst 1 (x_2.Tables.map (encL 2 encGRow))),(.int .i64 x_2.Next)])] _ from ?_)
   rcases dropc x_647.Columns s23_750 with ⟨hie804,hd807⟩ | ⟨hlt802,x_808,hx803,hd807⟩
   ·rw [hd807,impl_eachSet_L2.eq_1] at hc1
    have hq806:=dlf hie804
    refine sr<|s_q (.bool (decide ((s23_750:Int) < (x_647.Columns.length:Int)))) rfl rfl rfl<|dk<|awp_seq<|w_condf rfl hq806<|w_exit<|k_seqx<|k_loopx<|k_blkx<|?_;refine k_blk ?_;obtain rfl:=os hc1;exact ⟨[],[0,1],_,_,rfl,rfl,⟨.of_eq (congrArg (AV.fn _) (hrf_f_3 _)),⟨.refl _,⟨.refl _,⟨.refl _,⟨.refl _,⟨.refl _,trivial⟩⟩⟩⟩⟩⟩,(.refl _)⟩
   ·rw [hd807,impl_eachSet_L2.eq_2] at hc1
    have hq806:=dlt hlt802
    refine sr<|s_q (.bool (decide ((s23_750:Int) < (x_647.Columns.length:Int)))) rfl rfl rfl<|dk<|awp_seq<|w_condt rfl hq806<|w_skip<|k_seq<|awp_seq<|w_blk<|sr<|s_mov (.int .i64 (s23_750:Int)) rfl<|s_do (o_iaddrn (enc:=encGColumn) rfl rfl hx803)<|s_q (encGColumn x_808) rfl nle rfl<|s_do (o_box (j:=2) (c:=(.agg [(.str []),(.int .i64 0),(.int .i64 0),(.int .i64 0),(.int .i64 0),(.int .i64 0),(.str []),(.bool false)])) rfl trivial rfl rfl)<|s_mov (.int .i64 (s23_750:Int)) rfl<|s_do0 (o_storebox (v:=(.agg [(.str x_808.Name),(.int .i64 x_808.Kind),(.int .i64 x_808.Min),(.int .i64 x_808.Max),(.int .i64 x_808.Low),(.int .i64 x_808.High),(.str x_808.Ref),(.bool x_808.Strong)])) (y':=(.agg [(.str x_808.Name),(.int .i64 x_808.Kind),(.int .i64 x_808.Min),(.int .i64 x_808.Max),(.int .i64 x_808.Low),(.int .i64 x_808.High),(.str x_808.Ref),(.bool x_808.Strong)])) rfl rfl rfl trivial ⟨rfl,nle⟩ ⟨⟨rfl,trivial⟩,⟨⟨rfl,trivial⟩,⟨⟨rfl,trivial⟩,⟨⟨rfl,trivial⟩,⟨⟨rfl,trivial⟩,⟨⟨rfl,trivial⟩,⟨⟨rfl,trivial⟩,⟨⟨rfl,trivial⟩,trivial⟩⟩⟩⟩⟩⟩⟩⟩ rfl)<|?_
    refine dk<|awp_seq<|sr<|s_q (.ptr 2 0 1) rfl trivial rfl<|s_q (.int .i64 x_808.Kind) rfl nle rfl<|s_q (.bool (x_808.Kind != 4)) rfl rfl rfl<|dk<|?_
    rcases oi hc1 with ⟨c809,hc1⟩ | ⟨c809,hc1⟩
    ·refine w_condt rfl c809<|w_exit<|k_seqx<|k_blkx<|?_;refine k_seq<|w_cut ([(2,(.fn kf_f_3 cf_f_3)),(3,(.ptr 0 0 0)),(4,(.ptr 1 0 0)),(6,(.int .i64 (s15_428:Int))),(13,(.lst 4 (s_1.Tables.map encGTable))),(14,(.int .i64 (s_1.Tables.length:Int))),(15,(.int .i64 (s15_428:Int))),(21,(.lst 8 (x_647.Columns.map encGColumn))),(22,(.int .i64 (x_647.Columns.length:Int))),(23,(.int .i64 (s23_750:Int)))],[.box 1 (.agg [(.lst 4 (s_1.Tables.map encGTable))]),.box 2 (.agg [(.lst 1 (x_2.Tables.map (encL 2 encGRow))),(.int .i64 x_2.Next)])]) ⟨[],[0,1],_,_,rfl,rfl,⟨.of_eq (congrArg (AV.fn _) (hrf_f_3 _)),⟨.refl _,⟨.refl _,⟨.refl _,⟨.refl _,⟨.refl _,⟨.refl _,⟨.refl _,⟨.refl _,⟨.refl _,trivial⟩⟩⟩⟩⟩⟩⟩⟩⟩⟩,(.refl _)⟩<|?_
     refine w_reg<|s_q (.int .i64 (w64 ((s23_750:Int) + 1))) rfl rfl rfl<|s_mov (.int .i64 (w64 ((s23_750:Int) + 1))) rfl<|w_done<|?_;exact k_loopn ⟨(s23_750 + 1),hc1⟩ (mul hlt802) ⟨[],[0,1],_,_,rfl,rfl,⟨.of_eq (congrArg (AV.fn _) (hrf_f_3 _)),⟨.refl _,⟨.refl _,⟨.refl _,⟨.refl _,⟨.refl _,⟨.refl _,⟨.refl _,⟨.refl _,⟨.of_eq (congrArg (AV.int _) (w64_incr hlt802 hl648)),trivial⟩⟩⟩⟩⟩⟩⟩⟩⟩⟩,(.refl _)⟩
    ·refine w_condf rfl (bf c809)<|w_skip<|k_seq<|sr<|?_
     obtain ⟨x_810,ex811,hc1⟩:=ob hc1
     refine s_q (.ptr 1 0 0) rfl trivial rfl<|s_q (.lst 1 (x_2.Tables.map (encL 2 encGRow))) rfl nle rfl<|s_mov (.int .i64 (s15_428:Int)) rfl<|s_do (o_iaddr (enc:=(encL 2 encGRow)) rfl rfl (idx0 ex811) (idx1 ex811))<|s_q (.lst 2 (x_810.map encGRow)) rfl ⟨rfl,rfl⟩ rfl<|s_dof (o_len (enc:=encGRow) rfl) fun hl812 => s_mov (.int .i64 0) rfl<|dk<|?_
     obtain ⟨p842,hb2,hc1⟩:=ob hc1
     refine awp_cutb ([(2,(.fn kf_f_3 cf_f_3)),(3,(.ptr 0 0 0)),(4,(.ptr 1 0 0)),(6,(.int .i64 (s15_428:Int))),(13,(.lst 4 (s_1.Tables.map encGTable))),(14,(.int .i64 (s_1.Tables.length:Int))),(15,(.int .i64 (s15_428:Int))),(21,(.lst 8 (x_647.Columns.map encGColumn))),(22,(.int .i64 (x_647.Columns.length:Int))),(23,(.int .i64 (s23_750:Int)))],[.box 1 (.agg [(.lst 4 (s_1.Tables.map encGTable))]),.box 2 (.agg [(.lst 1 (x_2.Tables.map (encL 2 encGRow))),(.int .i64 x_2.Next)])]) ?_ ?_
     ·refine awp_loop (X:={q:Nat // impl_eachSet_L3 s23_750 s_1 x_808 f_3 (x_810.drop q)  = some p842}) (fun q => ([(2,(.fn kf_f_3 cf_f_3)),(3,(.ptr 0 0 0)),(4,(.ptr 1 0 0)),(6,(.int .i64 (s15_428:Int))),(8,(.int .i64 (s23_750:Int))),(9,(.ptr 2 0 0)),(13,(.lst 4 (s_1.Tables.map encGTable))),(14,(.int .i64 (s_1.Tables.length:Int))),(15,(.int .i64 (s15_428:Int))),(21,(.lst 8 (x_647.Columns.map encGColumn))),(22,(.int .i64 (x_647.Columns.length:Int))),(23,(.int .i64 (s23_750:Int))),(35,(.lst 2 (x_810.map encGRow))),(36,(.int .i64 (x_810.length:Int))),(37,(.int .i64 (q.1:Int)))],[.box 1 (.agg [(.lst 4 (s_1.Tables.map encGTable))]),.box 2 (.agg [(.lst 1 (x_2.Tables.map (encL 2 encGRow))),(.int .i64 x_2.Next)]),.box 8 (.agg [(.str x_808.Name),(.int .i64 x_808.Kind),(.int .i64 x_808.Min),(.int .i64 x_808.Max),(.int .i64 x_808.Low),(.int .i64 x_808.High),(.str x_808.Ref),(.bool x_808.Strong)])])) (fun q => x_810.length - q.1) ⟨0,hb2⟩ ⟨[],[0,1,2],_,_,rfl,rfl,⟨.of_eq (congrArg (AV.fn _) (hrf_f_3 _)),⟨.refl _,⟨.refl _,⟨.refl _,⟨.refl _,⟨.refl _,⟨.refl _,⟨.refl _,⟨.refl _,⟨.refl _,⟨.refl _,⟨.refl _,⟨.refl _,⟨.refl _,⟨.refl _,trivial⟩⟩⟩⟩⟩⟩⟩⟩⟩⟩⟩⟩⟩⟩⟩,(.refl _)⟩ ?_
      rintro ⟨s37_832,hc2⟩
      have hc2:impl_eachSet_L3 s23_750 s_1 x_808 f_3 (x_810.drop s37_832)  = some p842:=hc2
      refine (show awp Tryz.prog false 0 _ (ofL [(2,(.fn kf_f_3 cf_f_3)),(3,(.ptr 0 0 0)),(4,(.ptr 1 0 0)),(6,(.int .i64 (s15_428:Int))),(8,(.int .i64 (s23_750:Int))),(9,(.ptr 2 0 0)),(13,(.lst 4 (s_1.Tables.map encGTable))),(14,(.int .i64 (s_1.Tables.length:Int))),(15,(.int .i64 (s15_428:Int))),(21,(.lst 8 (x_647.Columns.map encGColumn))),(22,(.int .i64 (x_647.Columns.length:Int))),(23,(.int .i64 (s23_750:Int))),(35,(.lst 2 (x_810.map encGRow))),(36,(.int .i64 (x_810.length:Int))),(37,(.int .i64 (s37_832:Int)))]) [.box 1 (.agg [(.lst 4 (s_1.Tables.map encGTable))]),.box 2 (.agg [(.lst 1 (x_2.Tables.map (encL 2 encGRow))),(.int .i64 x_2.Next)]),.box 8 (.agg [(.str x_808.Name),(.int .i64 x_808.Kind),(.int .i64 x_808.Min),(.int .i64 x_808.Max),(.int .i64 x_808.Low),(.int .i64 x_808.High),(.str x_808.Ref),(.bool x_808.Strong)])] _ from ?_)
      rcases dropc x_810 s37_832 with ⟨hie845,hd848⟩ | ⟨hlt843,x_849,hx844,hd848⟩
      ·rw [hd848,impl_eachSet_L3.eq_1] at hc2
       have hq847:=dlf hie845
       refine sr<|s_q (.bool (decide ((s37_832:Int) < (x_810.length:Int)))) rfl rfl rfl<|dk<|awp_seq<|w_condf rfl hq847<|w_exit<|k_seqx<|k_loopx<|k_blkx<|?_;refine k_blk ?_;obtain rfl:=os hc2;exact ⟨[],[0,1],_,_,rfl,rfl,⟨.of_eq (congrArg (AV.fn _) (hrf_f_3 _)),⟨.refl _,⟨.refl _,⟨.refl _,⟨.refl _,⟨.refl _,⟨.refl _,⟨.refl _,⟨.refl _,⟨.refl _,trivial⟩⟩⟩⟩⟩⟩⟩⟩⟩⟩,(.refl _)⟩
      ·rw [hd848,impl_eachSet_L3.eq_2] at hc2
       have hq847:=dlt hlt843
       refine sr<|s_q (.bool (decide ((s37_832:Int) < (x_810.length:Int)))) rfl rfl rfl<|dk<|awp_seq<|w_condt rfl hq847<|w_skip<|k_seq<|awp_seq<|w_blk<|sr<|s_do (o_iaddrn (enc:=encGRow) rfl rfl hx844)<|s_q (encGRow x_849) rfl nle rfl<|s_do (o_box (j:=3) (c:=(.agg [(.int .i64 0),.nil])) rfl trivial rfl rfl)<|s_do0 (o_storebox (v:=(.agg [(.int .i64 x_849.Id),(.lst 1 (x_849.Cells.map (encL 3 encGAtom)))])) (y':=(.agg [(.int .i64 x_849.Id),(.lst 1 (x_849.Cells.map (encL 3 encGAtom)))])) rfl rfl rfl trivial ⟨rfl,nle⟩ ⟨⟨rfl,trivial⟩,⟨⟨rfl,trivial⟩,trivial⟩⟩ rfl)<|dk<|w_reg<|?_
       obtain ⟨x_850,ex851,hc2⟩:=ob hc2
       obtain ⟨r_852,er853,hc2⟩:=ob hc2
       obtain ⟨r_854,er855,hc2⟩:=ob hc2
       refine s_mov (.fn kf_f_3 cf_f_3) rfl<|s_q (.agg [(.str x_808.Name),(.int .i64 x_808.Kind),(.int .i64 x_808.Min),(.int .i64 x_808.Max),(.int .i64 x_808.Low),(.int .i64 x_808.High),(.str x_808.Ref),(.bool x_808.Strong)]) rfl nle rfl<|s_q (.agg [(.lst 4 (s_1.Tables.map encGTable))]) rfl nle rfl<|s_q (.ptr 2 0 6) rfl trivial rfl<|s_q (.str x_808.Ref) rfl nle rfl<|s_q (.ptr 3 0 1) rfl trivial rfl<|s_q (.lst 1 (x_849.Cells.map (encL 3 encGAtom))) rfl nle rfl<|s_mov (.int .i64 (s23_750:Int)) rfl<|s_do (o_iaddr (enc:=(encL 3 encGAtom)) rfl rfl (idx0 ex851) (idx1 ex851))<|s_q (.lst 3 (x_850.map encGAtom)) rfl ⟨rfl,rfl⟩ rfl<|s_dol (o_call (w_impl_Schema_tableAt _ _ _ er853) rfl (.refl _) rfl) a_same trivial<|?_
       refine s_dol (o_calvp (v:=(.tup [])) rfl okf_f_3 hcf_f_3 (hpf_f_3 _ _ _ _ er855) rfl (.refl _) rfl) a_same trivial<|w_done<|k_blk<|k_seq<|w_reg<|s_q (.int .i64 (w64 ((s37_832:Int) + 1))) rfl rfl rfl<|s_mov (.int .i64 (w64 ((s37_832:Int) + 1))) rfl<|w_done<|?_;exact k_loopn ⟨(s37_832 + 1),hc2⟩ (mul hlt843) ⟨[],[0,1,2],_,_,rfl,rfl,⟨.of_eq (congrArg (AV.fn _) (hrf_f_3 _)),⟨.refl _,⟨.refl _,⟨.refl _,⟨.refl _,⟨.refl _,⟨.refl _,⟨.refl _,⟨.refl _,⟨.refl _,⟨.refl _,⟨.refl _,⟨.refl _,⟨.refl _,⟨.of_eq (congrArg (AV.int _) (w64_incr hlt843 hl812)),trivial⟩⟩⟩⟩⟩⟩⟩⟩⟩⟩⟩⟩⟩⟩⟩,(.refl _)⟩
     ·refine w_reg<|s_q (.int .i64 (w64 ((s23_750:Int) + 1))) rfl rfl rfl<|s_mov (.int .i64 (w64 ((s23_750:Int) + 1))) rfl<|w_done<|?_;exact k_loopn ⟨(s23_750 + 1),hc1⟩ (mul hlt802) ⟨[],[0,1],_,_,rfl,rfl,⟨.of_eq (congrArg (AV.fn _) (hrf_f_3 _)),⟨.refl _,⟨.refl _,⟨.refl _,⟨.refl _,⟨.refl _,⟨.refl _,⟨.refl _,⟨.refl _,⟨.of_eq (congrArg (AV.int _) (w64_incr hlt802 hl648)),trivial⟩⟩⟩⟩⟩⟩⟩⟩⟩⟩,(.refl _)⟩
  ·refine w_reg<|s_q (.int .i64 (w64 ((s15_428:Int) + 1))) rfl rfl rfl<|s_mov (.int .i64 (w64 ((s15_428:Int) + 1))) rfl<|w_done<|?_;exact k_loopn ⟨(s15_428 + 1),hc1⟩ (mul hlt641) ⟨[],[0,1],_,_,rfl,rfl,⟨.of_eq (congrArg (AV.fn _) (hrf_f_3 _)),⟨.refl _,⟨.refl _,⟨.refl _,⟨.refl _,⟨.of_eq (congrArg (AV.int _) (w64_incr hlt641 hl4)),trivial⟩⟩⟩⟩⟩⟩,(.refl _)⟩

end Go.R
