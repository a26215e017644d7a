/- Walks. -/
import Derived.Test.YtmeckljlaaflkaaGreatSW1
set_option linter.all false
namespace Go.R
open Go Go.Proofs
set_option linter.unusedVariables false
set_option linter.unusedSimpArgs false
set_option maxHeartbeats 8000000
/- spec.DatumOK -/
def c164:ACode :=
 (.seq (.reg (tm 2 (.c (.bool false)) .done))
 (.seq (.seq (.reg (tm 4 (.t 0) (tq 5 (.len (.t 4)) (tq 6 (.bin .gtr (.t 5) (.c (.int .i64 4096))) .done))))
 (.cond (.t 6) (.seq (.reg (tm 2 (.c (.bool false)) .done))
 .ret)
 .skip))
 (.seq (.seq (.reg (tm 3 (.c (.int .i64 0)) .done))
 (.block 0 (.loop (.seq (.seq (.reg (tm 7 (.t 3) (tm 8 (.t 0) (tq 9 (.len (.t 8)) (tq 10 (.bin .lss (.t 7) (.t 9)) .done)))))
 (.cond (.t 10) .skip
 (.exit 0)))
 (.seq (.block 1 (.seq (.reg (tm 13 (.t 0) (tm 14 (.t 3) (tq 15 (.iaddr 3 (.t 13) (.t 14)) (tq 16 (.load 3 true (.t 15)) (.l ⟨(some 17),none,.call 224 [(.t 16)]⟩ []
 (tq 18 (.not (.t 17)) (tm 19 (.t 18) (tg 20 19 false (.mov (.t 0)) (tg 21 19 false (.mov (.t 3)) (tg 22 19 false (.iaddr 3 (.t 20) (.t 21)) (tg 23 19 false (.faddr 0 (.t 22)) (tg 24 19 false (.load 1 false (.t 23)) (tg 25 19 false (.mov (.t 0)) (tg 26 19 false (.iaddr 3 (.t 25) (.c (.int .i64 0))) (tg 27 19 false (.faddr 0 (.t 26)) (tg 28 19 false (.load 1 false (.t 27)) (tg 29 19 false (.bin .neq (.t 24) (.t 28)) (tq 30 (.pick (.t 19) (.c (.bool true)) (.t 29)) (tm 31 (.t 30) (tg 32 31 false (.mov (.t 3)) (tg 33 31 false (.bin .gtr (.t 32) (.c (.int .i64 0))) (tg 34 31 false (.mov (.t 33)) (tg 35 34 true (.mov (.t 0)) (tg 36 34 true (.mov (.t 3)) (tg 37 34 true (.bin .sub (.t 36) (.c (.int .i64 1))) (tg 38 34 true (.iaddr 3 (.t 35) (.t 37)) (tg 39 34 true (.load 3 true (.t 38)) (tg 40 34 true (.mov (.t 0)) (tg 41 34 true (.mov (.t 3)) (tg 42 34 true (.iaddr 3 (.t 40) (.t 41)) (tg 43 34 true (.load 3 true (.t 42)) (.l ⟨(some 44),(some (34,true)),.call 225 [(.t 39),(.t 43)]⟩ []
 (tg 45 34 true (.bin .geq (.t 44) (.c (.int .i64 0))) (tg 46 31 false (.pick (.t 34) (.t 45) (.c (.bool false))) (tq 47 (.pick (.t 31) (.c (.bool true)) (.t 46)) .done))) .non))))))))))))))))))))))))))) .non))))))
 (.cut (.cond (.t 47) (.seq (.reg (tm 2 (.c (.bool false)) .done))
 .ret)
 .skip))))
 (.reg (tm 11 (.t 3) (tq 12 (.bin .add (.t 11) (.c (.int .i64 1))) (tm 3 (.t 12) .done)))))))))
 (.cut (.seq (.reg (tm 48 (.t 0) (tq 49 (.len (.t 48)) (tq 50 (.bin .leq (.t 49) (.c (.int .i64 8))) (tm 2 (.t 50) .done)))))
 .ret)))))
theorem fc164:fcomp Tryz.prog Tryz.f164 = some (c164.erase,[.mov (.t 2)],51):=by kernel_rfl
def spec_DatumOK_L1 (d_1:(List GAtom)):List GAtom → Nat → Option (Fl Bool Unit)
  | [],i_83 =>
    some (.go ())
  | x_131 :: xs,i_83 =>
    (((spec_AtomOK x_131).bind fun r_147 =>
    if (!r_147) then
    some true
    else
    (idx d_1 0).bind fun x_150 =>
    if (x_131.Kind != x_150.Kind) then
    some true
    else
    if (decide ((i_83:Int) > 0)) then
    (idx d_1 (w64 ((i_83:Int) - 1))).bind fun x_154 =>
    (spec_l03Order x_154 x_131).bind fun r_156 =>
    some (decide (r_156 ≥ 0))
    else
    some false:Option Bool)).bind fun s47_145 =>
    if s47_145 then
    some (.ret false)
    else
    spec_DatumOK_L1 d_1 xs (i_83 + 1)

def spec_DatumOK (d_1:(List GAtom)):Option Bool :=
    if (decide ((d_1.length:Int) > 4096)) then
    some false
    else
    (spec_DatumOK_L1 d_1 d_1 0).bind fun q => (match q with
    | .ret r => some r
    | .go _ =>
    some (decide ((d_1.length:Int) ≤ 8)))
theorem w_spec_DatumOK (d_1:(List GAtom)) (r:Bool) (hf:spec_DatumOK d_1 = some r):CallOK Tryz.prog 164 .flat [(.lst 3 (d_1.map encGAtom))] (.bool r):=by
 refine CallOK.of_awp mixed Tryz.func164 fc164 nle ?_;rw [argT_eq];unfold spec_DatumOK at hf;unfold c164;refine (show awp Tryz.prog false 0 _ (ofL [(0,(.lst 3 (d_1.map encGAtom)))]) [] _ from ?_);refine sr<|s_mov (.bool false) rfl<|dk<|awp_seq<|sr<|s_mov (.lst 3 (d_1.map encGAtom)) rfl<|s_dof (o_len (enc:=encGAtom) rfl) fun hl2 => s_q (.bool (decide ((d_1.length:Int) > 4096))) rfl rfl rfl<|dk<|?_
 rcases oi hf with ⟨c3,hf⟩ | ⟨c3,hf⟩
 ·refine w_condt rfl c3<|sr<|s_mov (.bool false) rfl<|dk<|w_ret<|?_;obtain rfl:=os hf;exact r_flat ⟨trivial,trivial⟩ rfl (.refl _)
 ·refine w_condf rfl (bf c3)<|w_skip<|k_seq<|awp_seq<|sr<|s_mov (.int .i64 0) rfl<|dk<|?_
  obtain ⟨p124,hb1,hf⟩:=ob hf
  refine awp_cutx (X:={q:Unit // p124 = .go q}) (fun q => ([(0,(.lst 3 (d_1.map encGAtom)))],[])) ?_ ?_
  ·refine awp_loop (X:={q:Nat // spec_DatumOK_L1 d_1 (d_1.drop q) q = some p124}) (fun q => ([(0,(.lst 3 (d_1.map encGAtom))),(3,(.int .i64 (q.1:Int)))],[])) (fun q => d_1.length - q.1) ⟨0,hb1⟩ ⟨[],[],_,_,rfl,rfl,⟨.refl _,⟨.refl _,trivial⟩⟩,(.refl _)⟩ ?_
   rintro ⟨i_83,hc1⟩
   have hc1:spec_DatumOK_L1 d_1 (d_1.drop i_83) i_83 = some p124:=hc1
   refine (show awp Tryz.prog false 0 _ (ofL [(0,(.lst 3 (d_1.map encGAtom))),(3,(.int .i64 (i_83:Int)))]) [] _ from ?_)
   rcases dropc d_1 i_83 with ⟨hie127,hd130⟩ | ⟨hlt125,x_131,hx126,hd130⟩
   ·rw [hd130,spec_DatumOK_L1.eq_1] at hc1
    have hq129:=dlf hie127
    refine awp_seq<|sr<|s_mov (.int .i64 (i_83:Int)) rfl<|s_mov (.lst 3 (d_1.map encGAtom)) rfl<|s_dof (o_len (enc:=encGAtom) rfl) fun hl132 => s_q (.bool (decide ((i_83:Int) < (d_1.length:Int)))) rfl rfl rfl<|dk<|w_condf rfl hq129<|w_exit<|k_seqx<|k_loopx<|k_blkx<|?_;obtain rfl:=os hc1;exact k_cutn ⟨_,rfl⟩ ⟨[],[],_,_,rfl,rfl,⟨.refl _,trivial⟩,(.refl _)⟩
   ·rw [hd130,spec_DatumOK_L1.eq_2] at hc1
    have hq129:=dlt hlt125
    refine awp_seq<|sr<|s_mov (.int .i64 (i_83:Int)) rfl<|s_mov (.lst 3 (d_1.map encGAtom)) rfl<|s_dof (o_len (enc:=encGAtom) rfl) fun hl133 => s_q (.bool (decide ((i_83:Int) < (d_1.length:Int)))) rfl rfl rfl<|dk<|w_condt rfl hq129<|w_skip<|k_seq<|awp_seq<|w_blk<|awp_seq<|?_
    obtain ⟨s47_145,hb2,hc1⟩:=ob hc1
    refine awp_cut ([(0,(.lst 3 (d_1.map encGAtom))),(3,(.int .i64 (i_83:Int))),(47,(.bool s47_145))],[]) ?_ ?_
    ·refine w_reg<|s_mov (.lst 3 (d_1.map encGAtom)) rfl<|s_mov (.int .i64 (i_83:Int)) rfl<|s_do (o_iaddrn (enc:=encGAtom) rfl rfl hx126)<|s_q (encGAtom x_131) rfl nle rfl<|?_
     obtain ⟨r_147,er148,hb2⟩:=ob hb2
     refine s_dol (o_call (w_spec_AtomOK _ _ er148) rfl (.refl _) rfl) a_same trivial<|s_q (.bool (!r_147)) rfl trivial rfl<|s_mov (.bool (!r_147)) rfl<|?_
     rcases oi hb2 with ⟨c149,hb2⟩ | ⟨c149,hb2⟩
     ·refine s_lit (s:=19) (b:=true) rfl c149<|s_off rfl rfl<|s_off rfl rfl<|s_off rfl rfl<|s_off rfl rfl<|s_off rfl rfl<|s_off rfl rfl<|s_off rfl rfl<|s_off rfl rfl<|s_off rfl rfl<|s_off rfl rfl<|s_q (.bool true) rfl trivial rfl<|s_mov (.bool true) rfl<|s_off rfl rfl<|s_off rfl rfl<|s_off rfl rfl<|s_offs rfl<|s_offs rfl<|s_offs rfl<|s_offs rfl<|s_offs rfl<|s_offs rfl<|s_offs rfl<|s_offs rfl<|s_offs rfl<|s_offsl rfl trivial<|s_offs rfl<|s_off rfl rfl<|s_q (.bool true) rfl trivial rfl<|w_done<|?_;obtain rfl:=os hb2;exact ⟨[],[],_,_,rfl,rfl,⟨.refl _,⟨.refl _,⟨.refl _,trivial⟩⟩⟩,(.refl _)⟩
     ·refine s_lit (s:=19) (b:=false) rfl (bf c149)<|s_on rfl<|s_mov (.lst 3 (d_1.map encGAtom)) rfl<|s_on rfl<|s_mov (.int .i64 (i_83:Int)) rfl<|s_on rfl<|s_do (o_iaddrn (enc:=encGAtom) rfl rfl hx126)<|s_on rfl<|s_q (.iptr (encGAtom x_131) 0) rfl trivial rfl<|s_on rfl<|s_q (.int .i64 x_131.Kind) rfl nle rfl<|s_on rfl<|s_mov (.lst 3 (d_1.map encGAtom)) rfl<|s_on rfl<|?_
      obtain ⟨x_150,ex151,hb2⟩:=ob hb2
      refine s_do (o_iaddr (enc:=encGAtom) rfl rfl (idx0 ex151) (idx1 ex151))<|s_on rfl<|s_q (.iptr (encGAtom x_150) 0) rfl trivial rfl<|s_on rfl<|s_q (.int .i64 x_150.Kind) rfl nle rfl<|s_on rfl<|s_q (.bool (x_131.Kind != x_150.Kind)) rfl rfl rfl<|s_q (.bool (x_131.Kind != x_150.Kind)) rfl trivial rfl<|s_mov (.bool (x_131.Kind != x_150.Kind)) rfl<|?_
      rcases oi hb2 with ⟨c152,hb2⟩ | ⟨c152,hb2⟩
      ·refine s_lit (s:=31) (b:=true) rfl c152<|s_off rfl rfl<|s_off rfl rfl<|s_off rfl rfl<|s_offs rfl<|s_offs rfl<|s_offs rfl<|s_offs rfl<|s_offs rfl<|s_offs rfl<|s_offs rfl<|s_offs rfl<|s_offs rfl<|s_offsl rfl trivial<|s_offs rfl<|s_off rfl rfl<|s_q (.bool true) rfl trivial rfl<|w_done<|?_;obtain rfl:=os hb2;exact ⟨[],[],_,_,rfl,rfl,⟨.refl _,⟨.refl _,⟨.refl _,trivial⟩⟩⟩,(.refl _)⟩
      ·refine s_lit (s:=31) (b:=false) rfl (bf c152)<|s_on rfl<|s_mov (.int .i64 (i_83:Int)) rfl<|s_on rfl<|s_q (.bool (decide ((i_83:Int) > 0))) rfl rfl rfl<|s_on rfl<|s_mov (.bool (decide ((i_83:Int) > 0))) rfl<|?_
       rcases oi hb2 with ⟨c153,hb2⟩ | ⟨c153,hb2⟩
       ·refine s_lit (s:=34) (b:=true) rfl c153<|s_on rfl<|s_mov (.lst 3 (d_1.map encGAtom)) rfl<|s_on rfl<|s_mov (.int .i64 (i_83:Int)) rfl<|s_on rfl<|s_q (.int .i64 (w64 ((i_83:Int) - 1))) rfl rfl rfl<|s_on rfl<|?_
        obtain ⟨x_154,ex155,hb2⟩:=ob hb2
        refine s_do (o_iaddr (enc:=encGAtom) rfl rfl (idx0 ex155) (idx1 ex155))<|s_on rfl<|s_q (encGAtom x_154) rfl nle rfl<|s_on rfl<|s_mov (.lst 3 (d_1.map encGAtom)) rfl<|s_on rfl<|s_mov (.int .i64 (i_83:Int)) rfl<|s_on rfl<|s_do (o_iaddrn (enc:=encGAtom) rfl rfl hx126)<|s_on rfl<|s_q (encGAtom x_131) rfl nle rfl<|s_onl rfl<|?_
        obtain ⟨r_156,er157,hb2⟩:=ob hb2
        refine s_dol (o_call (w_spec_l03Order _ _ _ er157) rfl (.refl _) rfl) a_same trivial<|s_on rfl<|s_q (.bool (decide (r_156 ≥ 0))) rfl rfl rfl<|s_on rfl<|s_q (.bool (decide (r_156 ≥ 0))) rfl trivial rfl<|s_q (.bool (decide (r_156 ≥ 0))) rfl trivial rfl<|w_done<|?_;obtain rfl:=os hb2;exact ⟨[],[],_,_,rfl,rfl,⟨.refl _,⟨.refl _,⟨.refl _,trivial⟩⟩⟩,(.refl _)⟩
       ·refine s_lit (s:=34) (b:=false) rfl (bf c153)<|s_off rfl rfl<|s_off rfl rfl<|s_off rfl rfl<|s_off rfl rfl<|s_off rfl rfl<|s_off rfl rfl<|s_off rfl rfl<|s_off rfl rfl<|s_off rfl rfl<|s_offl rfl rfl trivial<|s_off rfl rfl<|s_on rfl<|s_q (.bool false) rfl trivial rfl<|s_q (.bool false) rfl trivial rfl<|w_done<|?_;obtain rfl:=os hb2;exact ⟨[],[],_,_,rfl,rfl,⟨.refl _,⟨.refl _,⟨.refl _,trivial⟩⟩⟩,(.refl _)⟩
    ·rcases oi hc1 with ⟨c158,hc1⟩ | ⟨c158,hc1⟩
     ·refine w_condt rfl c158<|sr<|s_mov (.bool false) rfl<|dk<|w_ret<|?_;obtain rfl:=os hc1;obtain rfl:=os hf;exact r_flat ⟨trivial,trivial⟩ rfl (.refl _)
     ·refine w_condf rfl (bf c158)<|w_skip<|k_blk<|k_seq<|w_reg<|s_mov (.int .i64 (i_83:Int)) rfl<|s_q (.int .i64 (w64 ((i_83:Int) + 1))) rfl rfl rfl<|s_mov (.int .i64 (w64 ((i_83:Int) + 1))) rfl<|w_done<|?_;exact k_loopn ⟨(i_83 + 1),hc1⟩ (mul hlt125) ⟨[],[],_,_,rfl,rfl,⟨.refl _,⟨.of_eq (congrArg (AV.int _) (w64_incr hlt125 hl133)),trivial⟩⟩,(.refl _)⟩
  ·rintro ⟨_,rfl⟩
   refine sr<|s_mov (.lst 3 (d_1.map encGAtom)) rfl<|s_dof (o_len (enc:=encGAtom) rfl) fun hl159 => s_q (.bool (decide ((d_1.length:Int) ≤ 8))) rfl rfl rfl<|s_mov (.bool (decide ((d_1.length:Int) ≤ 8))) rfl<|dk<|w_ret<|?_;obtain rfl:=os hf;exact r_flat ⟨trivial,trivial⟩ rfl (.refl _)

/- spec.l04Fits -/
def c167:ACode :=
 (.seq (.reg (tq 2 (.box 8 (.t 0)) (tm 4 (.c (.int .i64 0)) .done)))
 (.seq (.seq (.reg (tm 6 (.t 1) (tq 7 (.len (.t 6)) (tq 8 (.bin .gtr (.t 7) (.c (.int .i64 0))) (tm 9 (.t 8) (tg 10 9 true (.mov (.t 1)) (tg 11 9 true (.iaddr 3 (.t 10) (.c (.int .i64 0))) (tg 12 9 true (.faddr 0 (.t 11)) (tg 13 9 true (.load 1 false (.t 12)) (tg 14 9 true (.faddr 1 (.t 2)) (tg 15 9 true (.load 1 false (.t 14)) (tg 16 9 true (.bin .neq (.t 13) (.t 15)) (tq 17 (.pick (.t 9) (.t 16) (.c (.bool false))) .done)))))))))))))
 (.cut (.cond (.t 17) (.seq (.reg (tm 4 (.c (.int .i64 9)) .done))
 .ret)
 .skip)))
 (.seq (.seq (.reg (tm 18 (.t 1) (tq 19 (.len (.t 18)) (tq 20 (.faddr 2 (.t 2)) (tq 21 (.load 1 false (.t 20)) (tq 22 (.faddr 3 (.t 2)) (tq 23 (.load 1 false (.t 22)) (tq 24 (.call 66 [(.t 19),(.t 21),(.t 23)]) (tq 25 (.not (.t 24)) .done)))))))))
 (.cond (.t 25) (.seq (.reg (tm 4 (.c (.int .i64 6)) .done))
 .ret)
 .skip))
 (.seq (.seq (.reg (tm 5 (.c (.int .i64 0)) .done))
 (.block 0 (.loop (.seq (.seq (.reg (tm 26 (.t 5) (tm 27 (.t 1) (tq 28 (.len (.t 27)) (tq 29 (.bin .lss (.t 26) (.t 28)) .done)))))
 (.cond (.t 29) .skip
 (.exit 0)))
 (.seq (.block 1 (.seq (.reg (tq 32 (.faddr 1 (.t 2)) (tq 33 (.load 1 false (.t 32)) (tq 34 (.bin .eql (.t 33) (.c (.int .i64 1))) (tm 35 (.t 34) (tg 36 35 true (.mov (.t 1)) (tg 37 35 true (.mov (.t 5)) (tg 38 35 true (.iaddr 3 (.t 36) (.t 37)) (tg 39 35 true (.faddr 1 (.t 38)) (tg 40 35 true (.load 1 false (.t 39)) (tg 41 35 true (.faddr 4 (.t 2)) (tg 42 35 true (.load 1 false (.t 41)) (tg 43 35 true (.faddr 5 (.t 2)) (tg 44 35 true (.load 1 false (.t 43)) (.l ⟨(some 45),(some (35,true)),.call 66 [(.t 40),(.t 42),(.t 44)]⟩ []
 (tg 46 35 true (.not (.t 45)) (tq 47 (.pick (.t 35) (.t 46) (.c (.bool false))) .done)) .non)))))))))))))))
 (.cut (.cond (.t 47) (.seq (.reg (tm 4 (.c (.int .i64 4)) .done))
 .ret)
 .skip))))
 (.reg (tm 30 (.t 5) (tq 31 (.bin .add (.t 30) (.c (.int .i64 1))) (tm 5 (.t 31) .done)))))))))
 (.cut (.seq (.reg (tm 4 (.c (.int .i64 0)) .done))
 .ret))))))
theorem fc167:fcomp Tryz.prog Tryz.f167 = some (c167.erase,[.mov (.t 4)],48):=by kernel_rfl
def spec_l04Fits_L1 (c_1:GColumn):List GAtom → Option (Fl Int Unit)
  | [] =>
    some (.go ())
  | x_73 :: xs =>
    ((if (c_1.Kind == 1) then
    (spec_l01In x_73.N c_1.Low c_1.High).bind fun r_82 =>
    some (!r_82)
    else
    some false:Option Bool)).bind fun s47_79 =>
    if s47_79 then
    some (.ret 4)
    else
    spec_l04Fits_L1 c_1 xs 

def spec_l04Fits (c_1:GColumn) (d_2:(List GAtom)):Option Int :=
    ((if (decide ((d_2.length:Int) > 0)) then
    (idx d_2 0).bind fun x_11 =>
    some (x_11.Kind != c_1.Kind)
    else
    some false:Option Bool)).bind fun s17_7 =>
    if s17_7 then
    some 9
    else
    (spec_l01In (d_2.length:Int) c_1.Min c_1.Max).bind fun r_15 =>
    if (!r_15) then
    some 6
    else
    (spec_l04Fits_L1 c_1 d_2 ).bind fun q => (match q with
    | .ret r => some r
    | .go _ =>
    some 0)
theorem w_spec_l04Fits (c_1:GColumn) (d_2:(List GAtom)) (r:Int) (hf:spec_l04Fits c_1 d_2 = some r):CallOK Tryz.prog 167 .flat [(encGColumn c_1),(.lst 3 (d_2.map encGAtom))] (.int .i64 r):=by
 refine CallOK.of_awp mixed Tryz.func167 fc167 nle ?_;rw [argT_eq];unfold spec_l04Fits at hf;unfold c167;refine (show awp Tryz.prog false 0 _ (ofL [(0,(encGColumn c_1)),(1,(.lst 3 (d_2.map encGAtom)))]) [] _ from ?_);refine sr<|s_do (o_box (j:=0) (c:=(.agg [(.str c_1.Name),(.int .i64 c_1.Kind),(.int .i64 c_1.Min),(.int .i64 c_1.Max),(.int .i64 c_1.Low),(.int .i64 c_1.High),(.str c_1.Ref),(.bool c_1.Strong)])) rfl trivial rfl rfl)<|s_mov (.int .i64 0) rfl<|dk<|awp_seq<|awp_seq<|?_
 obtain ⟨s17_7,hb1,hf⟩:=ob hf
 refine awp_cut ([(1,(.lst 3 (d_2.map encGAtom))),(2,(.ptr 0 0 0)),(17,(.bool s17_7))],[.box 8 (.agg [(.str c_1.Name),(.int .i64 c_1.Kind),(.int .i64 c_1.Min),(.int .i64 c_1.Max),(.int .i64 c_1.Low),(.int .i64 c_1.High),(.str c_1.Ref),(.bool c_1.Strong)])]) ?_ ?_
 ·refine w_reg ?_
  rcases oi hb1 with ⟨c10,hb1⟩ | ⟨c10,hb1⟩
  ·obtain ⟨x_11,ex12,hb1⟩:=ob hb1
   refine s_mov (.lst 3 (d_2.map encGAtom)) rfl<|s_dof (o_len (enc:=encGAtom) rfl) fun hl9 => s_q (.bool (decide ((d_2.length:Int) > 0))) rfl rfl rfl<|s_mov (.bool (decide ((d_2.length:Int) > 0))) rfl<|s_lit (s:=9) (b:=true) rfl c10<|s_on rfl<|s_mov (.lst 3 (d_2.map encGAtom)) rfl<|s_on rfl<|s_do (o_iaddr (enc:=encGAtom) rfl rfl (idx0 ex12) (idx1 ex12))<|s_on rfl<|s_q (.iptr (encGAtom x_11) 0) rfl trivial rfl<|s_on rfl<|s_q (.int .i64 x_11.Kind) rfl nle rfl<|s_on rfl<|s_q (.ptr 0 0 1) rfl trivial rfl<|s_on rfl<|s_q (.int .i64 c_1.Kind) rfl nle rfl<|s_on rfl<|s_q (.bool (x_11.Kind != c_1.Kind)) rfl rfl rfl<|s_q (.bool (x_11.Kind != c_1.Kind)) rfl trivial rfl<|?_
   refine w_done ?_;obtain rfl:=os hb1;exact ⟨[],[0],_,_,rfl,rfl,⟨.refl _,⟨.refl _,⟨.refl _,trivial⟩⟩⟩,(.refl _)⟩
  ·refine s_mov (.lst 3 (d_2.map encGAtom)) rfl<|s_dof (o_len (enc:=encGAtom) rfl) fun hl9 => s_q (.bool (decide ((d_2.length:Int) > 0))) rfl rfl rfl<|s_mov (.bool (decide ((d_2.length:Int) > 0))) rfl<|s_lit (s:=9) (b:=false) rfl (bf c10)<|s_off rfl rfl<|s_off rfl rfl<|s_off rfl rfl<|s_off rfl rfl<|s_off rfl rfl<|s_off rfl rfl<|s_off rfl rfl<|s_q (.bool false) rfl trivial rfl<|w_done<|?_;obtain rfl:=os hb1;exact ⟨[],[0],_,_,rfl,rfl,⟨.refl _,⟨.refl _,⟨.refl _,trivial⟩⟩⟩,(.refl _)⟩
 ·rcases oi hf with ⟨c13,hf⟩ | ⟨c13,hf⟩
  ·refine w_condt rfl c13<|sr<|s_mov (.int .i64 9) rfl<|dk<|w_ret<|?_;obtain rfl:=os hf;exact r_flat ⟨trivial,trivial⟩ rfl (.refl _)
  ·refine w_condf rfl (bf c13)<|w_skip<|k_seq<|awp_seq<|sr<|?_
   obtain ⟨r_15,er16,hf⟩:=ob hf
   refine s_mov (.lst 3 (d_2.map encGAtom)) rfl<|s_dof (o_len (enc:=encGAtom) rfl) fun hl14 => s_q (.ptr 0 0 2) rfl trivial rfl<|s_q (.int .i64 c_1.Min) rfl nle rfl<|s_q (.ptr 0 0 3) rfl trivial rfl<|s_q (.int .i64 c_1.Max) rfl nle rfl<|s_do (o_call (w_spec_l01In _ _ _ _ er16) rfl (.refl _) rfl)<|s_q (.bool (!r_15)) rfl trivial rfl<|dk<|?_
   rcases oi hf with ⟨c17,hf⟩ | ⟨c17,hf⟩
   ·refine w_condt rfl c17<|sr<|s_mov (.int .i64 6) rfl<|dk<|w_ret<|?_;obtain rfl:=os hf;exact r_flat ⟨trivial,trivial⟩ rfl (.refl _)
   ·refine w_condf rfl (bf c17)<|w_skip<|k_seq<|awp_seq<|sr<|s_mov (.int .i64 0) rfl<|dk<|?_
    obtain ⟨p66,hb1,hf⟩:=ob hf
    refine awp_cutx (X:={q:Unit // p66 = .go q}) (fun q => ([],[])) ?_ ?_
    ·refine awp_loop (X:={q:Nat // spec_l04Fits_L1 c_1 (d_2.drop q)  = some p66}) (fun q => ([(1,(.lst 3 (d_2.map encGAtom))),(2,(.ptr 0 0 0)),(5,(.int .i64 (q.1:Int)))],[.box 8 (.agg [(.str c_1.Name),(.int .i64 c_1.Kind),(.int .i64 c_1.Min),(.int .i64 c_1.Max),(.int .i64 c_1.Low),(.int .i64 c_1.High),(.str c_1.Ref),(.bool c_1.Strong)])])) (fun q => d_2.length - q.1) ⟨0,hb1⟩ ⟨[],[0],_,_,rfl,rfl,⟨.refl _,⟨.refl _,⟨.refl _,trivial⟩⟩⟩,(.refl _)⟩ ?_
     rintro ⟨i_49,hc1⟩
     have hc1:spec_l04Fits_L1 c_1 (d_2.drop i_49)  = some p66:=hc1
     refine (show awp Tryz.prog false 0 _ (ofL [(1,(.lst 3 (d_2.map encGAtom))),(2,(.ptr 0 0 0)),(5,(.int .i64 (i_49:Int)))]) [.box 8 (.agg [(.str c_1.Name),(.int .i64 c_1.Kind),(.int .i64 c_1.Min),(.int .i64 c_1.Max),(.int .i64 c_1.Low),(.int .i64 c_1.High),(.str c_1.Ref),(.bool c_1.Strong)])] _ from ?_)
     rcases dropc d_2 i_49 with ⟨hie69,hd72⟩ | ⟨hlt67,x_73,hx68,hd72⟩
     ·rw [hd72,spec_l04Fits_L1.eq_1] at hc1
      have hq71:=dlf hie69
      refine awp_seq<|sr<|s_mov (.int .i64 (i_49:Int)) rfl<|s_mov (.lst 3 (d_2.map encGAtom)) rfl<|s_dof (o_len (enc:=encGAtom) rfl) fun hl74 => s_q (.bool (decide ((i_49:Int) < (d_2.length:Int)))) rfl rfl rfl<|dk<|w_condf rfl hq71<|w_exit<|k_seqx<|k_loopx<|k_blkx<|?_;obtain rfl:=os hc1;exact k_cutn ⟨_,rfl⟩ ⟨[],[],_,_,rfl,rfl,trivial,(.refl _)⟩
     ·rw [hd72,spec_l04Fits_L1.eq_2] at hc1
      have hq71:=dlt hlt67
      refine awp_seq<|sr<|s_mov (.int .i64 (i_49:Int)) rfl<|s_mov (.lst 3 (d_2.map encGAtom)) rfl<|s_dof (o_len (enc:=encGAtom) rfl) fun hl75 => s_q (.bool (decide ((i_49:Int) < (d_2.length:Int)))) rfl rfl rfl<|dk<|w_condt rfl hq71<|w_skip<|k_seq<|awp_seq<|w_blk<|awp_seq<|?_
      obtain ⟨s47_79,hb2,hc1⟩:=ob hc1
      refine awp_cut ([(1,(.lst 3 (d_2.map encGAtom))),(2,(.ptr 0 0 0)),(5,(.int .i64 (i_49:Int))),(47,(.bool s47_79))],[.box 8 (.agg [(.str c_1.Name),(.int .i64 c_1.Kind),(.int .i64 c_1.Min),(.int .i64 c_1.Max),(.int .i64 c_1.Low),(.int .i64 c_1.High),(.str c_1.Ref),(.bool c_1.Strong)])]) ?_ ?_
      ·refine w_reg<|s_q (.ptr 0 0 1) rfl trivial rfl<|s_q (.int .i64 c_1.Kind) rfl nle rfl<|s_q (.bool (c_1.Kind == 1)) rfl rfl rfl<|s_mov (.bool (c_1.Kind == 1)) rfl<|?_
       rcases oi hb2 with ⟨c81,hb2⟩ | ⟨c81,hb2⟩
       ·refine s_lit (s:=35) (b:=true) rfl c81<|s_on rfl<|s_mov (.lst 3 (d_2.map encGAtom)) rfl<|s_on rfl<|s_mov (.int .i64 (i_49:Int)) rfl<|s_on rfl<|s_do (o_iaddrn (enc:=encGAtom) rfl rfl hx68)<|s_on rfl<|s_q (.iptr (encGAtom x_73) 1) rfl trivial rfl<|s_on rfl<|s_q (.int .i64 x_73.N) rfl nle rfl<|s_on rfl<|s_q (.ptr 0 0 4) rfl trivial rfl<|s_on rfl<|s_q (.int .i64 c_1.Low) rfl nle rfl<|s_on rfl<|s_q (.ptr 0 0 5) rfl trivial rfl<|s_on rfl<|s_q (.int .i64 c_1.High) rfl nle rfl<|s_onl rfl<|?_
        obtain ⟨r_82,er83,hb2⟩:=ob hb2
        refine s_dol (o_call (w_spec_l01In _ _ _ _ er83) rfl (.refl _) rfl) a_same trivial<|s_on rfl<|s_q (.bool (!r_82)) rfl trivial rfl<|s_q (.bool (!r_82)) rfl trivial rfl<|w_done<|?_;obtain rfl:=os hb2;exact ⟨[],[0],_,_,rfl,rfl,⟨.refl _,⟨.refl _,⟨.refl _,⟨.refl _,trivial⟩⟩⟩⟩,(.refl _)⟩
       ·refine s_lit (s:=35) (b:=false) rfl (bf c81)<|s_off rfl rfl<|s_off rfl rfl<|s_off rfl rfl<|s_off rfl rfl<|s_off rfl rfl<|s_off rfl rfl<|s_off rfl rfl<|s_off rfl rfl<|s_off rfl rfl<|s_offl rfl rfl trivial<|s_off rfl rfl<|s_q (.bool false) rfl trivial rfl<|w_done<|?_;obtain rfl:=os hb2;exact ⟨[],[0],_,_,rfl,rfl,⟨.refl _,⟨.refl _,⟨.refl _,⟨.refl _,trivial⟩⟩⟩⟩,(.refl _)⟩
      ·rcases oi hc1 with ⟨c84,hc1⟩ | ⟨c84,hc1⟩
       ·refine w_condt rfl c84<|sr<|s_mov (.int .i64 4) rfl<|dk<|w_ret<|?_;obtain rfl:=os hc1;obtain rfl:=os hf;exact r_flat ⟨trivial,trivial⟩ rfl (.refl _)
       ·refine w_condf rfl (bf c84)<|w_skip<|k_blk<|k_seq<|w_reg<|s_mov (.int .i64 (i_49:Int)) rfl<|s_q (.int .i64 (w64 ((i_49:Int) + 1))) rfl rfl rfl<|s_mov (.int .i64 (w64 ((i_49:Int) + 1))) rfl<|w_done<|?_;exact k_loopn ⟨(i_49 + 1),hc1⟩ (mul hlt67) ⟨[],[0],_,_,rfl,rfl,⟨.refl _,⟨.refl _,⟨.of_eq (congrArg (AV.int _) (w64_incr hlt67 hl75)),trivial⟩⟩⟩,(.refl _)⟩
    ·rintro ⟨_,rfl⟩
     refine sr<|s_mov (.int .i64 0) rfl<|dk<|w_ret<|?_;obtain rfl:=os hf;exact r_flat ⟨trivial,trivial⟩ rfl (.refl _)

/- spec.l05Row -/
def c163:ACode :=
 (.seq (.reg (tq 2 (.box 4 (.t 0)) (tq 3 (.box 2 (.t 1)) (tm 4 (.c (.bool false)) .done))))
 (.seq (.seq (.reg (tq 6 (.faddr 0 (.t 3)) (tq 7 (.load 1 false (.t 6)) (tq 8 (.call 66 [(.t 7),(.c (.int .i64 1)),(.c (.int .i64 1000000))]) (tq 9 (.not (.t 8)) (tm 10 (.t 9) (tg 11 10 false (.faddr 1 (.t 3)) (tg 12 10 false (.load 1 false (.t 11)) (tg 13 10 false (.len (.t 12)) (tg 14 10 false (.faddr 1 (.t 2)) (tg 15 10 false (.load 1 false (.t 14)) (tg 16 10 false (.len (.t 15)) (tg 17 10 false (.bin .neq (.t 13) (.t 16)) (tq 18 (.pick (.t 10) (.c (.bool true)) (.t 17)) .done))))))))))))))
 (.cut (.cond (.t 18) (.seq (.reg (tm 4 (.c (.bool false)) .done))
 .ret)
 .skip)))
 (.seq (.seq (.reg (tm 5 (.c (.int .i64 0)) .done))
 (.block 0 (.loop (.seq (.seq (.reg (tm 19 (.t 5) (tq 20 (.faddr 1 (.t 3)) (tq 21 (.load 1 false (.t 20)) (tq 22 (.len (.t 21)) (tq 23 (.bin .lss (.t 19) (.t 22)) .done))))))
 (.cond (.t 23) .skip
 (.exit 0)))
 (.seq (.block 1 (.seq (.reg (tq 26 (.faddr 1 (.t 3)) (tq 27 (.load 1 false (.t 26)) (tm 28 (.t 5) (tq 29 (.iaddr 1 (.t 27) (.t 28)) (tq 30 (.load 1 false (.t 29)) (.l ⟨(some 31),none,.call 164 [(.t 30)]⟩ []
 (tq 32 (.not (.t 31)) (tm 33 (.t 32) (tg 34 33 false (.faddr 1 (.t 2)) (tg 35 33 false (.load 1 false (.t 34)) (tg 36 33 false (.mov (.t 5)) (tg 37 33 false (.iaddr 8 (.t 35) (.t 36)) (tg 38 33 false (.load 8 true (.t 37)) (tg 39 33 false (.faddr 1 (.t 3)) (tg 40 33 false (.load 1 false (.t 39)) (tg 41 33 false (.mov (.t 5)) (tg 42 33 false (.iaddr 1 (.t 40) (.t 41)) (tg 43 33 false (.load 1 false (.t 42)) (.l ⟨(some 44),(some (33,false)),.call 167 [(.t 38),(.t 43)]⟩ []
 (tg 45 33 false (.bin .neq (.t 44) (.c (.int .i64 0))) (tq 46 (.pick (.t 33) (.c (.bool true)) (.t 45)) .done)) .non))))))))))))) .non)))))))
 (.cut (.cond (.t 46) (.seq (.reg (tm 4 (.c (.bool false)) .done))
 .ret)
 .skip))))
 (.reg (tm 24 (.t 5) (tq 25 (.bin .add (.t 24) (.c (.int .i64 1))) (tm 5 (.t 25) .done)))))))))
 (.cut (.seq (.reg (tm 4 (.c (.bool true)) .done))
 .ret)))))
theorem fc163:fcomp Tryz.prog Tryz.f163 = some (c163.erase,[.mov (.t 4)],47):=by kernel_rfl
def spec_l05Row_L1 (t_1:GTable):List (List GAtom) → Nat → Option (Fl Bool Unit)
  | [],i_69 =>
    some (.go ())
  | x_105 :: xs,i_69 =>
    (((spec_DatumOK x_105).bind fun r_117 =>
    if (!r_117) then
    some true
    else
    (idx t_1.Columns (i_69:Int)).bind fun x_120 =>
    (spec_l04Fits x_120 x_105).bind fun r_122 =>
    some (r_122 != 0):Option Bool)).bind fun s46_115 =>
    if s46_115 then
    some (.ret false)
    else
    spec_l05Row_L1 t_1 xs (i_69 + 1)

def spec_l05Row (t_1:GTable) (r_2:GRow):Option Bool :=
    (((spec_l01In r_2.Id 1 1000000).bind fun r_9 =>
    some (bif (!r_9) then true else ((r_2.Cells.length:Int) != (t_1.Columns.length:Int))):Option Bool)).bind fun s18_7 =>
    if s18_7 then
    some false
    else
    (spec_l05Row_L1 t_1 r_2.Cells 0).bind fun q => (match q with
    | .ret r => some r
    | .go _ =>
    some true)
theorem w_spec_l05Row (t_1:GTable) (r_2:GRow) (r:Bool) (hf:spec_l05Row t_1 r_2 = some r):CallOK Tryz.prog 163 .flat [(encGTable t_1),(encGRow r_2)] (.bool r):=by
 refine CallOK.of_awp mixed Tryz.func163 fc163 nle ?_;rw [argT_eq];unfold spec_l05Row at hf;unfold c163;refine (show awp Tryz.prog false 0 _ (ofL [(0,(encGTable t_1)),(1,(encGRow r_2))]) [] _ from ?_);refine sr<|s_do (o_box (j:=0) (c:=(.agg [(.str t_1.Name),(.lst 8 (t_1.Columns.map encGColumn)),(.lst 1 (t_1.Unique.map encI)),(.bool t_1.Root)])) rfl trivial rfl rfl)<|s_do (o_box (j:=1) (c:=(.agg [(.int .i64 r_2.Id),(.lst 1 (r_2.Cells.map (encL 3 encGAtom)))])) rfl trivial rfl rfl)<|s_mov (.bool false) rfl<|dk<|awp_seq<|awp_seq<|?_
 obtain ⟨s18_7,hb1,hf⟩:=ob hf
 refine awp_cut ([(2,(.ptr 0 0 0)),(3,(.ptr 1 0 0)),(18,(.bool s18_7))],[.box 4 (.agg [(.str t_1.Name),(.lst 8 (t_1.Columns.map encGColumn)),(.lst 1 (t_1.Unique.map encI)),(.bool t_1.Root)]),.box 2 (.agg [(.int .i64 r_2.Id),(.lst 1 (r_2.Cells.map (encL 3 encGAtom)))])]) ?_ ?_
 ·refine w_reg<|s_q (.ptr 1 0 0) rfl trivial rfl<|s_q (.int .i64 r_2.Id) rfl nle rfl<|?_
  obtain ⟨r_9,er10,hb1⟩:=ob hb1
  refine s_do (o_call (w_spec_l01In _ _ _ _ er10) rfl (.refl _) rfl)<|s_q (.bool (!r_9)) rfl trivial rfl<|s_mov (.bool (!r_9)) rfl<|?_;refine s_g (v:=(!r_9)) (.ptr 1 0 1) rfl (fun hv => by (try simp only [gs_on hv]);exact ⟨rfl,trivial,rfl⟩) ?_;refine s_g (v:=(!r_9)) (.lst 1 (r_2.Cells.map (encL 3 encGAtom))) rfl (fun hv => by (try simp only [gs_on hv]);exact ⟨rfl,nle,rfl⟩) ?_;refine s_g (v:=(!r_9)) (.int .i64 (r_2.Cells.length:Int)) rfl (fun hv => by (try simp only [gs_on hv]);exact ⟨rfl,trivial,lenV _ _⟩) ?_;refine s_g (v:=(!r_9)) (.ptr 0 0 1) rfl (fun hv => by (try simp only [gs_on hv]);exact ⟨rfl,trivial,rfl⟩) ?_;refine s_g (v:=(!r_9)) (.lst 8 (t_1.Columns.map encGColumn)) rfl (fun hv => by (try simp only [gs_on hv]);exact ⟨rfl,nle,rfl⟩) ?_
  refine s_g (v:=(!r_9)) (.int .i64 (t_1.Columns.length:Int)) rfl (fun hv => by (try simp only [gs_on hv]);exact ⟨rfl,trivial,lenV _ _⟩) ?_;refine s_g (v:=(!r_9)) (.bool ((r_2.Cells.length:Int) != (t_1.Columns.length:Int))) rfl (fun hv => by (try simp only [gs_on hv]);exact ⟨rfl,rfl,rfl⟩) ?_;refine s_pick (x:=true) (y:=((r_2.Cells.length:Int) != (t_1.Columns.length:Int))) rfl (fun hv => by (try simp only [gs_on hv]);rfl) (fun hv => by (try simp only [gs_on hv]);rfl) ?_;refine w_done ?_;obtain rfl:=os hb1;exact ⟨[],[0,1],_,_,rfl,rfl,⟨.refl _,⟨.refl _,⟨.refl _,trivial⟩⟩⟩,(.refl _)⟩
 ·rcases oi hf with ⟨c13,hf⟩ | ⟨c13,hf⟩
  ·refine w_condt rfl c13<|sr<|s_mov (.bool false) rfl<|dk<|w_ret<|?_;obtain rfl:=os hf;exact r_flat ⟨trivial,trivial⟩ rfl (.refl _)
  ·refine w_condf rfl (bf c13)<|w_skip<|k_seq<|awp_seq<|sr<|s_mov (.int .i64 0) rfl<|dk<|?_
   obtain ⟨p98,hb1,hf⟩:=ob hf
   refine awp_cutx (X:={q:Unit // p98 = .go q}) (fun q => ([],[])) ?_ ?_
   ·refine awp_loop (X:={q:Nat // spec_l05Row_L1 t_1 (r_2.Cells.drop q) q = some p98}) (fun q => ([(2,(.ptr 0 0 0)),(3,(.ptr 1 0 0)),(5,(.int .i64 (q.1:Int)))],[.box 4 (.agg [(.str t_1.Name),(.lst 8 (t_1.Columns.map encGColumn)),(.lst 1 (t_1.Unique.map encI)),(.bool t_1.Root)]),.box 2 (.agg [(.int .i64 r_2.Id),(.lst 1 (r_2.Cells.map (encL 3 encGAtom)))])])) (fun q => r_2.Cells.length - q.1) ⟨0,hb1⟩ ⟨[],[0,1],_,_,rfl,rfl,⟨.refl _,⟨.refl _,⟨.refl _,trivial⟩⟩⟩,(.refl _)⟩ ?_
    rintro ⟨i_69,hc1⟩
    have hc1:spec_l05Row_L1 t_1 (r_2.Cells.drop i_69) i_69 = some p98:=hc1
    refine (show awp Tryz.prog false 0 _ (ofL [(2,(.ptr 0 0 0)),(3,(.ptr 1 0 0)),(5,(.int .i64 (i_69:Int)))]) [.box 4 (.agg [(.str t_1.Name),(.lst 8 (t_1.Columns.map encGColumn)),(.lst 1 (t_1.Unique.map encI)),(.bool t_1.Root)]),.box 2 (.agg [(.int .i64 r_2.Id),(.lst 1 (r_2.Cells.map (encL 3 encGAtom)))])] _ from ?_)
    rcases dropc r_2.Cells i_69 with ⟨hie101,hd104⟩ | ⟨hlt99,x_105,hx100,hd104⟩
    ·rw [hd104,spec_l05Row_L1.eq_1] at hc1
     have hq103:=dlf hie101
     refine awp_seq<|sr<|s_mov (.int .i64 (i_69:Int)) rfl<|s_q (.ptr 1 0 1) rfl trivial rfl<|s_q (.lst 1 (r_2.Cells.map (encL 3 encGAtom))) rfl nle rfl<|s_dof (o_len (enc:=(encL 3 encGAtom)) rfl) fun hl106 => s_q (.bool (decide ((i_69:Int) < (r_2.Cells.length:Int)))) rfl rfl rfl<|dk<|w_condf rfl hq103<|w_exit<|k_seqx<|k_loopx<|k_blkx<|?_;obtain rfl:=os hc1;exact k_cutn ⟨_,rfl⟩ ⟨[],[],_,_,rfl,rfl,trivial,(.refl _)⟩
    ·rw [hd104,spec_l05Row_L1.eq_2] at hc1
     have hq103:=dlt hlt99
     refine awp_seq<|sr<|s_mov (.int .i64 (i_69:Int)) rfl<|s_q (.ptr 1 0 1) rfl trivial rfl<|s_q (.lst 1 (r_2.Cells.map (encL 3 encGAtom))) rfl nle rfl<|s_dof (o_len (enc:=(encL 3 encGAtom)) rfl) fun hl107 => s_q (.bool (decide ((i_69:Int) < (r_2.Cells.length:Int)))) rfl rfl rfl<|dk<|w_condt rfl hq103<|w_skip<|k_seq<|awp_seq<|w_blk<|awp_seq<|?_
     obtain ⟨s46_115,hb2,hc1⟩:=ob hc1
     refine awp_cut ([(2,(.ptr 0 0 0)),(3,(.ptr 1 0 0)),(5,(.int .i64 (i_69:Int))),(46,(.bool s46_115))],[.box 4 (.agg [(.str t_1.Name),(.lst 8 (t_1.Columns.map encGColumn)),(.lst 1 (t_1.Unique.map encI)),(.bool t_1.Root)]),.box 2 (.agg [(.int .i64 r_2.Id),(.lst 1 (r_2.Cells.map (encL 3 encGAtom)))])]) ?_ ?_
     ·refine w_reg<|s_q (.ptr 1 0 1) rfl trivial rfl<|s_q (.lst 1 (r_2.Cells.map (encL 3 encGAtom))) rfl nle rfl<|s_mov (.int .i64 (i_69:Int)) rfl<|s_do (o_iaddrn (enc:=(encL 3 encGAtom)) rfl rfl hx100)<|s_q (.lst 3 (x_105.map encGAtom)) rfl ⟨rfl,rfl⟩ rfl<|?_
      obtain ⟨r_117,er118,hb2⟩:=ob hb2
      refine s_dol (o_call (w_spec_DatumOK _ _ er118) rfl (.refl _) rfl) a_same trivial<|s_q (.bool (!r_117)) rfl trivial rfl<|s_mov (.bool (!r_117)) rfl<|?_
      rcases oi hb2 with ⟨c119,hb2⟩ | ⟨c119,hb2⟩
      ·refine s_lit (s:=33) (b:=true) rfl c119<|s_off rfl rfl<|s_off rfl rfl<|s_off rfl rfl<|s_off rfl rfl<|s_off rfl rfl<|s_off rfl rfl<|s_off rfl rfl<|s_off rfl rfl<|s_off rfl rfl<|s_off rfl rfl<|s_offl rfl rfl trivial<|s_off rfl rfl<|s_q (.bool true) rfl trivial rfl<|w_done<|?_;obtain rfl:=os hb2;exact ⟨[],[0,1],_,_,rfl,rfl,⟨.refl _,⟨.refl _,⟨.refl _,⟨.refl _,trivial⟩⟩⟩⟩,(.refl _)⟩
      ·refine s_lit (s:=33) (b:=false) rfl (bf c119)<|s_on rfl<|s_q (.ptr 0 0 1) rfl trivial rfl<|s_on rfl<|s_q (.lst 8 (t_1.Columns.map encGColumn)) rfl nle rfl<|s_on rfl<|s_mov (.int .i64 (i_69:Int)) rfl<|s_on rfl<|?_
       obtain ⟨x_120,ex121,hb2⟩:=ob hb2
       refine s_do (o_iaddr (enc:=encGColumn) rfl rfl (idx0 ex121) (idx1 ex121))<|s_on rfl<|s_q (encGColumn x_120) rfl nle rfl<|s_on rfl<|s_q (.ptr 1 0 1) rfl trivial rfl<|s_on rfl<|s_q (.lst 1 (r_2.Cells.map (encL 3 encGAtom))) rfl nle rfl<|s_on rfl<|s_mov (.int .i64 (i_69:Int)) rfl<|s_on rfl<|s_do (o_iaddrn (enc:=(encL 3 encGAtom)) rfl rfl hx100)<|s_on rfl<|s_q (.lst 3 (x_105.map encGAtom)) rfl ⟨rfl,rfl⟩ rfl<|s_onl rfl<|?_
       obtain ⟨r_122,er123,hb2⟩:=ob hb2
       refine s_dol (o_call (w_spec_l04Fits _ _ _ er123) rfl (.refl _) rfl) a_same trivial<|s_on rfl<|s_q (.bool (r_122 != 0)) rfl rfl rfl<|s_q (.bool (r_122 != 0)) rfl trivial rfl<|w_done<|?_;obtain rfl:=os hb2;exact ⟨[],[0,1],_,_,rfl,rfl,⟨.refl _,⟨.refl _,⟨.refl _,⟨.refl _,trivial⟩⟩⟩⟩,(.refl _)⟩
     ·rcases oi hc1 with ⟨c124,hc1⟩ | ⟨c124,hc1⟩
      ·refine w_condt rfl c124<|sr<|s_mov (.bool false) rfl<|dk<|w_ret<|?_;obtain rfl:=os hc1;obtain rfl:=os hf;exact r_flat ⟨trivial,trivial⟩ rfl (.refl _)
      ·refine w_condf rfl (bf c124)<|w_skip<|k_blk<|k_seq<|w_reg<|s_mov (.int .i64 (i_69:Int)) rfl<|s_q (.int .i64 (w64 ((i_69:Int) + 1))) rfl rfl rfl<|s_mov (.int .i64 (w64 ((i_69:Int) + 1))) rfl<|w_done<|?_;exact k_loopn ⟨(i_69 + 1),hc1⟩ (mul hlt99) ⟨[],[0,1],_,_,rfl,rfl,⟨.refl _,⟨.refl _,⟨.of_eq (congrArg (AV.int _) (w64_incr hlt99 hl107)),trivial⟩⟩⟩,(.refl _)⟩
   ·rintro ⟨_,rfl⟩
    refine sr<|s_mov (.bool true) rfl<|dk<|w_ret<|?_;obtain rfl:=os hf;exact r_flat ⟨trivial,trivial⟩ rfl (.refl _)

/- spec.RowOK -/
def c82:ACode :=
 (.seq (.reg (tq 2 (.box 4 (.t 0)) (tq 3 (.box 2 (.t 1)) (tm 4 (.c (.bool false)) .done))))
 (.seq (.reg (tq 5 (.load 4 true (.t 2)) (tq 6 (.call 127 [(.t 5)]) (tm 7 (.t 6) (tg 8 7 true (.load 4 true (.t 2)) (tg 9 7 true (.load 2 true (.t 3)) (tg 10 7 true (.call 163 [(.t 8),(.t 9)]) (tq 11 (.pick (.t 7) (.t 10) (.c (.bool false))) (tm 4 (.t 11) .done)))))))))
 .ret))
theorem fc82:fcomp Tryz.prog Tryz.f82 = some (c82.erase,[.mov (.t 4)],12):=by kernel_rfl
def spec_RowOK (t_1:GTable) (r_2:GRow):Option Bool :=
    (spec_l04Table t_1).bind fun r_3 =>
    if r_3 then
    (spec_l05Row t_1 r_2).bind fun r_6 =>
    some r_6
    else
    some false
theorem w_spec_RowOK (t_1:GTable) (r_2:GRow) (r:Bool) (hf:spec_RowOK t_1 r_2 = some r):CallOK Tryz.prog 82 .flat [(encGTable t_1),(encGRow r_2)] (.bool r):=by
 refine CallOK.of_awp mixed Tryz.func82 fc82 nle ?_;rw [argT_eq];unfold spec_RowOK at hf;unfold c82;refine (show awp Tryz.prog false 0 _ (ofL [(0,(encGTable t_1)),(1,(encGRow r_2))]) [] _ from ?_);refine sr<|s_do (o_box (j:=0) (c:=(.agg [(.str t_1.Name),(.lst 8 (t_1.Columns.map encGColumn)),(.lst 1 (t_1.Unique.map encI)),(.bool t_1.Root)])) rfl trivial rfl rfl)<|s_do (o_box (j:=1) (c:=(.agg [(.int .i64 r_2.Id),(.lst 1 (r_2.Cells.map (encL 3 encGAtom)))])) rfl trivial rfl rfl)<|s_mov (.bool false) rfl<|dk<|sr<|?_
 obtain ⟨r_3,er4,hf⟩:=ob hf
 rcases oi hf with ⟨c5,hf⟩ | ⟨c5,hf⟩
 ·obtain ⟨r_6,er7,hf⟩:=ob hf
  refine s_q (.agg [(.str t_1.Name),(.lst 8 (t_1.Columns.map encGColumn)),(.lst 1 (t_1.Unique.map encI)),(.bool t_1.Root)]) rfl nle rfl<|s_do (o_call (w_spec_l04Table _ _ er4) rfl (.refl _) rfl)<|s_mov (.bool r_3) rfl<|s_lit (s:=7) (b:=true) rfl c5<|s_on rfl<|s_q (.agg [(.str t_1.Name),(.lst 8 (t_1.Columns.map encGColumn)),(.lst 1 (t_1.Unique.map encI)),(.bool t_1.Root)]) rfl nle rfl<|s_on rfl<|s_q (.agg [(.int .i64 r_2.Id),(.lst 1 (r_2.Cells.map (encL 3 encGAtom)))]) rfl nle rfl<|s_on rfl<|s_do (o_call (w_spec_l05Row _ _ _ er7) rfl (.refl _) rfl)<|s_q (.bool r_6) rfl trivial rfl<|s_mov (.bool r_6) rfl<|dk<|w_ret<|?_;obtain rfl:=os hf;exact r_flat ⟨trivial,trivial⟩ rfl (.refl _)
 ·refine s_q (.agg [(.str t_1.Name),(.lst 8 (t_1.Columns.map encGColumn)),(.lst 1 (t_1.Unique.map encI)),(.bool t_1.Root)]) rfl nle rfl<|s_do (o_call (w_spec_l04Table _ _ er4) rfl (.refl _) rfl)<|s_mov (.bool r_3) rfl<|s_lit (s:=7) (b:=false) rfl (bf c5)<|s_off rfl rfl<|s_off rfl rfl<|s_off rfl rfl<|s_q (.bool false) rfl trivial rfl<|s_mov (.bool false) rfl<|dk<|w_ret<|?_;obtain rfl:=os hf;exact r_flat ⟨trivial,trivial⟩ rfl (.refl _)

/- spec.l08Names -/
def c165:ACode :=
 (.seq (.reg (tm 2 (.c (.bool false)) .done))
 (.seq (.seq (.reg (tm 3 (.c (.int .i64 0)) .done))
 (.block 0 (.loop (.seq (.seq (.reg (tm 4 (.t 3) (tm 5 (.t 0) (tq 6 (.len (.t 5)) (tq 7 (.bin .lss (.t 4) (.t 6)) .done)))))
 (.cond (.t 7) .skip
 (.exit 0)))
 (.seq (.block 1 (.seq (.reg (tm 10 (.t 0) (tm 11 (.t 3) (tq 12 (.iaddr 1 (.t 10) (.t 11)) (tq 13 (.load 1 false (.t 12)) (tq 14 (.call 131 [(.t 13)]) (tq 15 (.not (.t 14)) .done)))))))
 (.cond (.t 15) (.seq (.reg (tm 2 (.c (.bool false)) .done))
 .ret)
 .skip)))
 (.reg (tm 8 (.t 3) (tq 9 (.bin .add (.t 8) (.c (.int .i64 1))) (tm 3 (.t 9) .done)))))))))
 (.cut (.seq (.reg (tm 16 (.t 0) (tq 17 (.len (.t 16)) (tq 18 (.bin .leq (.t 17) (.c (.int .i64 8))) (tm 2 (.t 18) .done)))))
 .ret))))
theorem fc165:fcomp Tryz.prog Tryz.f165 = some (c165.erase,[.mov (.t 2)],19):=by kernel_rfl
def spec_l08Names_L1 :List Str → Option (Fl Bool Unit)
  | [] =>
    some (.go ())
  | x_33 :: xs =>
    (spec_NameOK x_33).bind fun r_36 =>
    if (!r_36) then
    some (.ret false)
    else
    spec_l08Names_L1 xs 

def spec_l08Names (list_1:(List Str)):Option Bool :=
    (spec_l08Names_L1 list_1 ).bind fun q => (match q with
    | .ret r => some r
    | .go _ =>
    some (decide ((list_1.length:Int) ≤ 8)))
theorem w_spec_l08Names (list_1:(List Str)) (r:Bool) (hf:spec_l08Names list_1 = some r):CallOK Tryz.prog 165 .flat [(.lst 1 (list_1.map AV.str))] (.bool r):=by
 refine CallOK.of_awp mixed Tryz.func165 fc165 nle ?_;rw [argT_eq];unfold spec_l08Names at hf;unfold c165;refine (show awp Tryz.prog false 0 _ (ofL [(0,(.lst 1 (list_1.map AV.str)))]) [] _ from ?_);refine sr<|s_mov (.bool false) rfl<|dk<|awp_seq<|sr<|s_mov (.int .i64 0) rfl<|dk<|?_
 obtain ⟨p26,hb1,hf⟩:=ob hf
 refine awp_cutx (X:={q:Unit // p26 = .go q}) (fun q => ([(0,(.lst 1 (list_1.map AV.str)))],[])) ?_ ?_
 ·refine awp_loop (X:={q:Nat // spec_l08Names_L1 (list_1.drop q)  = some p26}) (fun q => ([(0,(.lst 1 (list_1.map AV.str))),(3,(.int .i64 (q.1:Int)))],[])) (fun q => list_1.length - q.1) ⟨0,hb1⟩ ⟨[],[],_,_,rfl,rfl,⟨.refl _,⟨.refl _,trivial⟩⟩,(.refl _)⟩ ?_
  rintro ⟨i_17,hc1⟩
  have hc1:spec_l08Names_L1 (list_1.drop i_17)  = some p26:=hc1
  refine (show awp Tryz.prog false 0 _ (ofL [(0,(.lst 1 (list_1.map AV.str))),(3,(.int .i64 (i_17:Int)))]) [] _ from ?_)
  rcases dropc list_1 i_17 with ⟨hie29,hd32⟩ | ⟨hlt27,x_33,hx28,hd32⟩
  ·rw [hd32,spec_l08Names_L1.eq_1] at hc1
   have hq31:=dlf hie29
   refine awp_seq<|sr<|s_mov (.int .i64 (i_17:Int)) rfl<|s_mov (.lst 1 (list_1.map AV.str)) rfl<|s_dof (o_len (enc:=AV.str) rfl) fun hl34 => s_q (.bool (decide ((i_17:Int) < (list_1.length:Int)))) rfl rfl rfl<|dk<|w_condf rfl hq31<|w_exit<|k_seqx<|k_loopx<|k_blkx<|?_;obtain rfl:=os hc1;exact k_cutn ⟨_,rfl⟩ ⟨[],[],_,_,rfl,rfl,⟨.refl _,trivial⟩,(.refl _)⟩
  ·rw [hd32,spec_l08Names_L1.eq_2] at hc1
   have hq31:=dlt hlt27
   refine awp_seq<|sr<|s_mov (.int .i64 (i_17:Int)) rfl<|s_mov (.lst 1 (list_1.map AV.str)) rfl<|s_dof (o_len (enc:=AV.str) rfl) fun hl35 => s_q (.bool (decide ((i_17:Int) < (list_1.length:Int)))) rfl rfl rfl<|dk<|w_condt rfl hq31<|w_skip<|k_seq<|awp_seq<|w_blk<|sr<|?_
   obtain ⟨r_36,er37,hc1⟩:=ob hc1
   refine s_mov (.lst 1 (list_1.map AV.str)) rfl<|s_mov (.int .i64 (i_17:Int)) rfl<|s_do (o_iaddrn (enc:=AV.str) rfl rfl hx28)<|s_q (.str x_33) rfl ⟨rfl,rfl⟩ rfl<|s_do (o_call (w_spec_NameOK _ _ er37) rfl (.refl _) rfl)<|s_q (.bool (!r_36)) rfl trivial rfl<|dk<|?_
   rcases oi hc1 with ⟨c38,hc1⟩ | ⟨c38,hc1⟩
   ·refine w_condt rfl c38<|sr<|s_mov (.bool false) rfl<|dk<|w_ret<|?_;obtain rfl:=os hc1;obtain rfl:=os hf;exact r_flat ⟨trivial,trivial⟩ rfl (.refl _)
   ·refine w_condf rfl (bf c38)<|w_skip<|k_blk<|k_seq<|w_reg<|s_mov (.int .i64 (i_17:Int)) rfl<|s_q (.int .i64 (w64 ((i_17:Int) + 1))) rfl rfl rfl<|s_mov (.int .i64 (w64 ((i_17:Int) + 1))) rfl<|w_done<|?_;exact k_loopn ⟨(i_17 + 1),hc1⟩ (mul hlt27) ⟨[],[],_,_,rfl,rfl,⟨.refl _,⟨.of_eq (congrArg (AV.int _) (w64_incr hlt27 hl35)),trivial⟩⟩,(.refl _)⟩
 ·rintro ⟨_,rfl⟩
  refine sr<|s_mov (.lst 1 (list_1.map AV.str)) rfl<|s_dof (o_len (enc:=AV.str) rfl) fun hl39 => s_q (.bool (decide ((list_1.length:Int) ≤ 8))) rfl rfl rfl<|s_mov (.bool (decide ((list_1.length:Int) ≤ 8))) rfl<|dk<|w_ret<|?_;obtain rfl:=os hf;exact r_flat ⟨trivial,trivial⟩ rfl (.refl _)

/- spec.l08Set -/
def c83:ACode :=
 (.seq (.reg (tq 1 (.box 3 (.t 0)) (tm 2 (.c (.bool false)) .done)))
 (.seq (.reg (tq 3 (.faddr 0 (.t 1)) (tq 4 (.load 1 false (.t 3)) (tq 5 (.lenS (.t 4)) (tq 6 (.bin .leq (.t 5) (.c (.int .i64 40))) (tm 7 (.t 6) (tg 8 7 true (.faddr 1 (.t 1)) (tg 9 7 true (.load 1 false (.t 8)) (tg 10 7 true (.call 164 [(.t 9)]) (tq 11 (.pick (.t 7) (.t 10) (.c (.bool false))) (tm 12 (.t 11) (tg 13 12 true (.faddr 2 (.t 1)) (tg 14 12 true (.load 1 false (.t 13)) (tg 15 12 true (.call 165 [(.t 14)]) (tq 16 (.pick (.t 12) (.t 15) (.c (.bool false))) (tm 17 (.t 16) (tg 18 17 true (.faddr 2 (.t 1)) (tg 19 17 true (.load 1 false (.t 18)) (tg 20 17 true (.len (.t 19)) (tg 21 17 true (.bin .eql (.t 20) (.c (.int .i64 0))) (tg 22 17 true (.mov (.t 21)) (tg 23 22 false (.faddr 1 (.t 1)) (tg 24 22 false (.load 1 false (.t 23)) (tg 25 22 false (.len (.t 24)) (tg 26 22 false (.bin .eql (.t 25) (.c (.int .i64 0))) (tg 27 17 true (.pick (.t 22) (.c (.bool true)) (.t 26)) (tq 28 (.pick (.t 17) (.t 27) (.c (.bool false))) (tm 2 (.t 28) .done))))))))))))))))))))))))))))
 .ret))
theorem fc83:fcomp Tryz.prog Tryz.f83 = some (c83.erase,[.mov (.t 2)],29):=by kernel_rfl
def spec_l08Set (x_1:GSet):Option Bool :=
    if (decide ((x_1.Column.length:Int) ≤ 40)) then
    (spec_DatumOK x_1.Value).bind fun r_4 =>
    if r_4 then
    (spec_l08Names x_1.Names).bind fun r_7 =>
    some (bif r_7 then (bif ((x_1.Names.length:Int) == 0) then true else ((x_1.Value.length:Int) == 0)) else false)
    else
    some false
    else
    some false
theorem w_spec_l08Set (x_1:GSet) (r:Bool) (hf:spec_l08Set x_1 = some r):CallOK Tryz.prog 83 .flat [(encGSet x_1)] (.bool r):=by
 refine CallOK.of_awp mixed Tryz.func83 fc83 nle ?_;rw [argT_eq];unfold spec_l08Set at hf;unfold c83;refine (show awp Tryz.prog false 0 _ (ofL [(0,(encGSet x_1))]) [] _ from ?_);refine sr<|s_do (o_box (j:=0) (c:=(.agg [(.str x_1.Column),(.lst 3 (x_1.Value.map encGAtom)),(.lst 1 (x_1.Names.map AV.str))])) rfl trivial rfl rfl)<|s_mov (.bool false) rfl<|dk<|sr<|s_q (.ptr 0 0 0) rfl trivial rfl<|s_q (.str x_1.Column) rfl nle rfl<|s_dof (o_lenS rfl) fun hl2 => s_q (.bool (decide ((x_1.Column.length:Int) ≤ 40))) rfl rfl rfl<|s_mov (.bool (decide ((x_1.Column.length:Int) ≤ 40))) rfl<|?_
 rcases oi hf with ⟨c3,hf⟩ | ⟨c3,hf⟩
 ·refine s_lit (s:=7) (b:=true) rfl c3<|s_on rfl<|s_q (.ptr 0 0 1) rfl trivial rfl<|s_on rfl<|s_q (.lst 3 (x_1.Value.map encGAtom)) rfl nle rfl<|s_on rfl<|?_
  obtain ⟨r_4,er5,hf⟩:=ob hf
  refine s_do (o_call (w_spec_DatumOK _ _ er5) rfl (.refl _) rfl)<|s_q (.bool r_4) rfl trivial rfl<|s_mov (.bool r_4) rfl<|?_
  rcases oi hf with ⟨c6,hf⟩ | ⟨c6,hf⟩
  ·refine s_lit (s:=12) (b:=true) rfl c6<|s_on rfl<|s_q (.ptr 0 0 2) rfl trivial rfl<|s_on rfl<|s_q (.lst 1 (x_1.Names.map AV.str)) rfl nle rfl<|s_on rfl<|?_
   obtain ⟨r_7,er8,hf⟩:=ob hf
   refine s_do (o_call (w_spec_l08Names _ _ er8) rfl (.refl _) rfl)<|s_q (.bool r_7) rfl trivial rfl<|s_mov (.bool r_7) rfl<|?_;refine s_g (v:=r_7) (.ptr 0 0 2) rfl (fun hv => by (try simp only [gs_on hv]);exact ⟨rfl,trivial,rfl⟩) ?_;refine s_g (v:=r_7) (.lst 1 (x_1.Names.map AV.str)) rfl (fun hv => by (try simp only [gs_on hv]);exact ⟨rfl,nle,rfl⟩) ?_;refine s_g (v:=r_7) (.int .i64 (x_1.Names.length:Int)) rfl (fun hv => by (try simp only [gs_on hv]);exact ⟨rfl,trivial,lenV _ _⟩) ?_;refine s_g (v:=r_7) (.bool ((x_1.Names.length:Int) == 0)) rfl (fun hv => by (try simp only [gs_on hv]);exact ⟨rfl,rfl,rfl⟩) ?_;refine s_g (v:=r_7) (.bool ((x_1.Names.length:Int) == 0)) rfl (fun hv => by (try simp only [gs_on hv]);exact ⟨rfl,trivial,rfl⟩) ?_
   refine s_gg (v1:=r_7) (b1:=true) (v2:=((x_1.Names.length:Int) == 0)) (.ptr 0 0 1) rfl (fun hv hw => by (try simp only [gs_on hv,gs_on hw]);exact ⟨rfl,trivial,rfl⟩) ?_;refine s_gg (v1:=r_7) (b1:=true) (v2:=((x_1.Names.length:Int) == 0)) (.lst 3 (x_1.Value.map encGAtom)) rfl (fun hv hw => by (try simp only [gs_on hv,gs_on hw]);exact ⟨rfl,nle,rfl⟩) ?_;refine s_gg (v1:=r_7) (b1:=true) (v2:=((x_1.Names.length:Int) == 0)) (.int .i64 (x_1.Value.length:Int)) rfl (fun hv hw => by (try simp only [gs_on hv,gs_on hw]);exact ⟨rfl,trivial,lenV _ _⟩) ?_;refine s_gg (v1:=r_7) (b1:=true) (v2:=((x_1.Names.length:Int) == 0)) (.bool ((x_1.Value.length:Int) == 0)) rfl (fun hv hw => by (try simp only [gs_on hv,gs_on hw]);exact ⟨rfl,rfl,rfl⟩) ?_
   refine s_gp (v1:=r_7) (b1:=true) (v2:=((x_1.Names.length:Int) == 0)) (x:=true) (y:=((x_1.Value.length:Int) == 0)) rfl (fun hv => by (try simp only [gs_on hv]);rfl) (fun hv hw => by (try simp only [gs_on hv,gs_on hw]);rfl) (fun hv hw => by (try simp only [gs_on hv,gs_on hw]);rfl) ?_;refine s_pick (x:=(bif ((x_1.Names.length:Int) == 0) then true else ((x_1.Value.length:Int) == 0))) (y:=false) rfl (fun hv => by (try simp only [gs_on hv]);rfl) (fun hv => by (try simp only [gs_on hv]);rfl) ?_;refine s_mov (.bool (bif r_7 then (bif ((x_1.Names.length:Int) == 0) then true else ((x_1.Value.length:Int) == 0)) else false)) rfl<|dk<|w_ret<|?_;obtain rfl:=os hf;exact r_flat ⟨trivial,trivial⟩ rfl (.refl _)
  ·refine s_lit (s:=12) (b:=false) rfl (bf c6)<|s_off rfl rfl<|s_off rfl rfl<|s_off rfl rfl<|s_q (.bool false) rfl trivial rfl<|s_mov (.bool false) rfl<|s_off rfl rfl<|s_off rfl rfl<|s_off rfl rfl<|s_off rfl rfl<|s_off rfl rfl<|s_offs rfl<|s_offs rfl<|s_offs rfl<|s_offs rfl<|s_off rfl rfl<|s_q (.bool false) rfl trivial rfl<|s_mov (.bool false) rfl<|dk<|w_ret<|?_;obtain rfl:=os hf;exact r_flat ⟨trivial,trivial⟩ rfl (.refl _)
 ·refine s_lit (s:=7) (b:=false) rfl (bf c3)<|s_off rfl rfl<|s_off rfl rfl<|s_off rfl rfl<|s_q (.bool false) rfl trivial rfl<|s_mov (.bool false) rfl<|s_off rfl rfl<|s_off rfl rfl<|s_off rfl rfl<|s_q (.bool false) rfl trivial rfl<|s_mov (.bool false) rfl<|s_off rfl rfl<|s_off rfl rfl<|s_off rfl rfl<|s_off rfl rfl<|s_off rfl rfl<|s_offs rfl<|s_offs rfl<|s_offs rfl<|s_offs rfl<|s_off rfl rfl<|s_q (.bool false) rfl trivial rfl<|s_mov (.bool false) rfl<|dk<|w_ret<|?_;obtain rfl:=os hf;exact r_flat ⟨trivial,trivial⟩ rfl (.refl _)

/- spec.l04Column -/
def c132:ACode :=
 (.seq (.reg (tq 2 (.box 4 (.t 0)) (tm 4 (.c (.int .i64 0)) .done)))
 (.seq (.seq (.reg (tm 5 (.c (.int .i64 0)) .done))
 (.block 0 (.loop (.seq (.seq (.reg (tm 6 (.t 5) (tq 7 (.faddr 1 (.t 2)) (tq 8 (.load 1 false (.t 7)) (tq 9 (.len (.t 8)) (tq 10 (.bin .lss (.t 6) (.t 9)) .done))))))
 (.cond (.t 10) .skip
 (.exit 0)))
 (.seq (.block 1 (.seq (.reg (tq 13 (.faddr 1 (.t 2)) (tq 14 (.load 1 false (.t 13)) (tm 15 (.t 5) (tq 16 (.iaddr 8 (.t 14) (.t 15)) (tq 17 (.faddr 0 (.t 16)) (tq 18 (.load 1 false (.t 17)) (tm 19 (.t 1) (tq 20 (.bin .eql (.t 18) (.t 19)) .done)))))))))
 (.cond (.t 20) (.seq (.reg (tm 21 (.t 5) (tm 4 (.t 21) .done)))
 .ret)
 .skip)))
 (.reg (tm 11 (.t 5) (tq 12 (.bin .add (.t 11) (.c (.int .i64 1))) (tm 5 (.t 12) .done)))))))))
 (.cut (.seq (.reg (tq 4 (.mov (.c (.int .i64 (-1)))) .done))
 .ret))))
theorem fc132:fcomp Tryz.prog Tryz.f132 = some (c132.erase,[.mov (.t 4)],22):=by kernel_rfl
def spec_l04Column_L1 (name_2:Str):List GColumn → Nat → Option (Fl Int Unit)
  | [],i_14 =>
    some (.go ())
  | x_28 :: xs,i_14 =>
    if (x_28.Name == name_2) then
    some (.ret (i_14:Int))
    else
    spec_l04Column_L1 name_2 xs (i_14 + 1)

def spec_l04Column (t_1:GTable) (name_2:Str):Option Int :=
    (spec_l04Column_L1 name_2 t_1.Columns 0).bind fun q => (match q with
    | .ret r => some r
    | .go _ =>
    some (-1))
theorem w_spec_l04Column (t_1:GTable) (name_2:Str) (r:Int) (hf:spec_l04Column t_1 name_2 = some r):CallOK Tryz.prog 132 .flat [(encGTable t_1),(.str name_2)] (.int .i64 r):=by
 refine CallOK.of_awp mixed Tryz.func132 fc132 nle ?_;rw [argT_eq];unfold spec_l04Column at hf;unfold c132;refine (show awp Tryz.prog false 0 _ (ofL [(0,(encGTable t_1)),(1,(.str name_2))]) [] _ from ?_);refine sr<|s_do (o_box (j:=0) (c:=(.agg [(.str t_1.Name),(.lst 8 (t_1.Columns.map encGColumn)),(.lst 1 (t_1.Unique.map encI)),(.bool t_1.Root)])) rfl trivial rfl rfl)<|s_mov (.int .i64 0) rfl<|dk<|awp_seq<|sr<|s_mov (.int .i64 0) rfl<|dk<|?_
 obtain ⟨p21,hb1,hf⟩:=ob hf
 refine awp_cutx (X:={q:Unit // p21 = .go q}) (fun q => ([],[])) ?_ ?_
 ·refine awp_loop (X:={q:Nat // spec_l04Column_L1 name_2 (t_1.Columns.drop q) q = some p21}) (fun q => ([(1,(.str name_2)),(2,(.ptr 0 0 0)),(5,(.int .i64 (q.1:Int)))],[.box 4 (.agg [(.str t_1.Name),(.lst 8 (t_1.Columns.map encGColumn)),(.lst 1 (t_1.Unique.map encI)),(.bool t_1.Root)])])) (fun q => t_1.Columns.length - q.1) ⟨0,hb1⟩ ⟨[],[0],_,_,rfl,rfl,⟨.refl _,⟨.refl _,⟨.refl _,trivial⟩⟩⟩,(.refl _)⟩ ?_
  rintro ⟨i_14,hc1⟩
  have hc1:spec_l04Column_L1 name_2 (t_1.Columns.drop i_14) i_14 = some p21:=hc1
  refine (show awp Tryz.prog false 0 _ (ofL [(1,(.str name_2)),(2,(.ptr 0 0 0)),(5,(.int .i64 (i_14:Int)))]) [.box 4 (.agg [(.str t_1.Name),(.lst 8 (t_1.Columns.map encGColumn)),(.lst 1 (t_1.Unique.map encI)),(.bool t_1.Root)])] _ from ?_)
  rcases dropc t_1.Columns i_14 with ⟨hie24,hd27⟩ | ⟨hlt22,x_28,hx23,hd27⟩
  ·rw [hd27,spec_l04Column_L1.eq_1] at hc1
   have hq26:=dlf hie24
   refine awp_seq<|sr<|s_mov (.int .i64 (i_14:Int)) rfl<|s_q (.ptr 0 0 1) rfl trivial rfl<|s_q (.lst 8 (t_1.Columns.map encGColumn)) rfl nle rfl<|s_dof (o_len (enc:=encGColumn) rfl) fun hl29 => s_q (.bool (decide ((i_14:Int) < (t_1.Columns.length:Int)))) rfl rfl rfl<|dk<|w_condf rfl hq26<|w_exit<|k_seqx<|k_loopx<|k_blkx<|?_;obtain rfl:=os hc1;exact k_cutn ⟨_,rfl⟩ ⟨[],[],_,_,rfl,rfl,trivial,(.refl _)⟩
  ·rw [hd27,spec_l04Column_L1.eq_2] at hc1
   have hq26:=dlt hlt22
   refine awp_seq<|sr<|s_mov (.int .i64 (i_14:Int)) rfl<|s_q (.ptr 0 0 1) rfl trivial rfl<|s_q (.lst 8 (t_1.Columns.map encGColumn)) rfl nle rfl<|s_dof (o_len (enc:=encGColumn) rfl) fun hl30 => s_q (.bool (decide ((i_14:Int) < (t_1.Columns.length:Int)))) rfl rfl rfl<|dk<|w_condt rfl hq26<|w_skip<|k_seq<|awp_seq<|w_blk<|sr<|s_q (.ptr 0 0 1) rfl trivial rfl<|s_q (.lst 8 (t_1.Columns.map encGColumn)) rfl nle rfl<|s_mov (.int .i64 (i_14:Int)) rfl<|s_do (o_iaddrn (enc:=encGColumn) rfl rfl hx23)<|s_q (.iptr (encGColumn x_28) 0) rfl trivial rfl<|s_q (.str x_28.Name) rfl nle rfl<|s_mov (.str name_2) rfl<|s_q (.bool (x_28.Name == name_2)) rfl trivial rfl<|?_
   refine dk<|?_
   rcases oi hc1 with ⟨c31,hc1⟩ | ⟨c31,hc1⟩
   ·refine w_condt rfl c31<|sr<|s_mov (.int .i64 (i_14:Int)) rfl<|s_mov (.int .i64 (i_14:Int)) rfl<|dk<|w_ret<|?_;obtain rfl:=os hc1;obtain rfl:=os hf;exact r_flat ⟨trivial,trivial⟩ rfl (.refl _)
   ·refine w_condf rfl (bf c31)<|w_skip<|k_blk<|k_seq<|w_reg<|s_mov (.int .i64 (i_14:Int)) rfl<|s_q (.int .i64 (w64 ((i_14:Int) + 1))) rfl rfl rfl<|s_mov (.int .i64 (w64 ((i_14:Int) + 1))) rfl<|w_done<|?_;exact k_loopn ⟨(i_14 + 1),hc1⟩ (mul hlt22) ⟨[],[0],_,_,rfl,rfl,⟨.refl _,⟨.refl _,⟨.of_eq (congrArg (AV.int _) (w64_incr hlt22 hl30)),trivial⟩⟩⟩,(.refl _)⟩
 ·rintro ⟨_,rfl⟩
  refine sr<|s_mov (.int .i64 (-1)) rfl<|dk<|w_ret<|?_;obtain rfl:=os hf;exact r_flat ⟨trivial,trivial⟩ rfl (.refl _)

/- spec.l08Sets -/
def c84:ACode :=
 (.seq (.reg (tq 2 (.box 4 (.t 0)) (tm 4 (.c (.int .i64 0)) .done)))
 (.seq (.seq (.reg (tm 5 (.c (.int .i64 0)) .done))
 (.block 0 (.loop (.seq (.seq (.reg (tm 9 (.t 5) (tm 10 (.t 1) (tq 11 (.len (.t 10)) (tq 12 (.bin .lss (.t 9) (.t 11)) .done)))))
 (.cond (.t 12) .skip
 (.exit 0)))
 (.seq (.block 1 (.seq (.reg (tq 15 (.load 4 true (.t 2)) (tm 16 (.t 1) (tm 17 (.t 5) (tq 18 (.iaddr 3 (.t 16) (.t 17)) (tq 19 (.faddr 0 (.t 18)) (tq 20 (.load 1 false (.t 19)) (.l ⟨(some 21),none,.call 132 [(.t 15),(.t 20)]⟩ []
 (tm 6 (.t 21) .done) .non))))))))
 (.seq (.seq (.reg (tm 22 (.t 6) (tq 23 (.bin .lss (.t 22) (.c (.int .i64 0))) .done)))
 (.cond (.t 23) (.seq (.reg (tm 4 (.c (.int .i64 11)) .done))
 .ret)
 .skip))
 (.seq (.seq (.reg (tm 7 (.c (.int .i64 0)) .done))
 (.block 2 (.loop (.seq (.seq (.reg (tm 24 (.t 7) (tm 25 (.t 5) (tq 26 (.bin .lss (.t 24) (.t 25)) .done))))
 (.cond (.t 26) .skip
 (.exit 2)))
 (.seq (.block 3 (.seq (.reg (tm 29 (.t 1) (tm 30 (.t 7) (tq 31 (.iaddr 3 (.t 29) (.t 30)) (tq 32 (.faddr 0 (.t 31)) (tq 33 (.load 1 false (.t 32)) (tm 34 (.t 1) (tm 35 (.t 5) (tq 36 (.iaddr 3 (.t 34) (.t 35)) (tq 37 (.faddr 0 (.t 36)) (tq 38 (.load 1 false (.t 37)) (tq 39 (.bin .eql (.t 33) (.t 38)) .done))))))))))))
 (.cond (.t 39) (.seq (.reg (tm 4 (.c (.int .i64 8)) .done))
 .ret)
 .skip)))
 (.reg (tm 27 (.t 7) (tq 28 (.bin .add (.t 27) (.c (.int .i64 1))) (tm 7 (.t 28) .done)))))))))
 (.cut (.seq (.reg (tq 40 (.faddr 1 (.t 2)) (tq 41 (.load 1 false (.t 40)) (tm 42 (.t 6) (tq 43 (.iaddr 8 (.t 41) (.t 42)) (tq 44 (.faddr 1 (.t 43)) (tq 45 (.load 1 false (.t 44)) (tm 8 (.t 45) .done))))))))
 (.seq (.reg (tm 46 (.t 1) (tm 47 (.t 5) (tq 48 (.iaddr 3 (.t 46) (.t 47)) (tq 49 (.faddr 1 (.t 48)) (tq 50 (.load 1 false (.t 49)) (tq 51 (.len (.t 50)) (tq 52 (.bin .gtr (.t 51) (.c (.int .i64 0))) (tm 53 (.t 52) (tg 54 53 true (.mov (.t 1)) (tg 55 53 true (.mov (.t 5)) (tg 56 53 true (.iaddr 3 (.t 54) (.t 55)) (tg 57 53 true (.faddr 1 (.t 56)) (tg 58 53 true (.load 1 false (.t 57)) (tg 59 53 true (.iaddr 3 (.t 58) (.c (.int .i64 0))) (tg 60 53 true (.faddr 0 (.t 59)) (tg 61 53 true (.load 1 false (.t 60)) (tg 62 53 true (.mov (.t 8)) (tg 63 53 true (.bin .neq (.t 61) (.t 62)) (tq 64 (.pick (.t 53) (.t 63) (.c (.bool false))) (tm 65 (.t 64) (tg 66 65 false (.mov (.t 1)) (tg 67 65 false (.mov (.t 5)) (tg 68 65 false (.iaddr 3 (.t 66) (.t 67)) (tg 69 65 false (.faddr 2 (.t 68)) (tg 70 65 false (.load 1 false (.t 69)) (tg 71 65 false (.len (.t 70)) (tg 72 65 false (.bin .gtr (.t 71) (.c (.int .i64 0))) (tg 73 65 false (.mov (.t 72)) (tg 74 73 true (.mov (.t 8)) (tg 75 73 true (.bin .neq (.t 74) (.c (.int .i64 4))) (tg 76 65 false (.pick (.t 73) (.t 75) (.c (.bool false))) (tq 77 (.pick (.t 65) (.c (.bool true)) (.t 76)) .done)))))))))))))))))))))))))))))))))
 (.cut (.cond (.t 77) (.seq (.reg (tm 4 (.c (.int .i64 9)) .done))
 .ret)
 .skip)))))))))
 (.reg (tm 13 (.t 5) (tq 14 (.bin .add (.t 13) (.c (.int .i64 1))) (tm 5 (.t 14) .done)))))))))
 (.cut (.seq (.reg (tm 4 (.c (.int .i64 0)) .done))
 .ret))))
theorem fc84:fcomp Tryz.prog Tryz.f84 = some (c84.erase,[.mov (.t 4)],78):=by kernel_rfl
def spec_l08Sets_L2 (i_190:Nat) (list_2:(List GSet)) (x_292:GSet):Nat → Int → Option (Fl Int Unit)
  | 0,_ => none
  | k + 1,n_321 =>
    if (decide (n_321 < (i_190:Int))) then
    (idx list_2 n_321).bind fun x_328 =>
    if (x_328.Column == x_292.Column) then
    some (.ret 8)
    else
    spec_l08Sets_L2 i_190 list_2 x_292 k (w64 (n_321 + 1))
    else
    some (.go ())

def spec_l08Sets_L1 (t_1:GTable) (list_2:(List GSet)):List GSet → Nat → Option (Fl Int Unit)
  | [],i_190 =>
    some (.go ())
  | x_292 :: xs,i_190 =>
    (spec_l04Column t_1 x_292.Column).bind fun r_295 =>
    if (decide (r_295 < 0)) then
    some (.ret 11)
    else
    (spec_l08Sets_L2 i_190 list_2 x_292 FUEL 0).bind fun q => (match q with
    | .ret r => some (.ret r)
    | .go _ =>
    (idx t_1.Columns r_295).bind fun x_331 =>
    ((if (decide ((x_292.Value.length:Int) > 0)) then
    (idx x_292.Value 0).bind fun x_346 =>
    if (x_346.Kind != x_331.Kind) then
    some true
    else
    if (decide ((x_292.Names.length:Int) > 0)) then
    some (x_331.Kind != 4)
    else
    some false
    else
    if (decide ((x_292.Names.length:Int) > 0)) then
    some (x_331.Kind != 4)
    else
    some false:Option Bool)).bind fun s77_342 =>
    if s77_342 then
    some (.ret 9)
    else
    spec_l08Sets_L1 t_1 list_2 xs (i_190 + 1))

def spec_l08Sets (t_1:GTable) (list_2:(List GSet)):Option Int :=
    (spec_l08Sets_L1 t_1 list_2 list_2 0).bind fun q => (match q with
    | .ret r => some r
    | .go _ =>
    some 0)
theorem w_spec_l08Sets (t_1:GTable) (list_2:(List GSet)) (r:Int) (hf:spec_l08Sets t_1 list_2 = some r):CallOK Tryz.prog 84 .flat [(encGTable t_1),(.lst 3 (list_2.map encGSet))] (.int .i64 r):=by
 refine CallOK.of_awp mixed Tryz.func84 fc84 nle ?_;rw [argT_eq];unfold spec_l08Sets at hf;unfold c84;refine (show awp Tryz.prog false 0 _ (ofL [(0,(encGTable t_1)),(1,(.lst 3 (list_2.map encGSet)))]) [] _ from ?_);refine sr<|s_do (o_box (j:=0) (c:=(.agg [(.str t_1.Name),(.lst 8 (t_1.Columns.map encGColumn)),(.lst 1 (t_1.Unique.map encI)),(.bool t_1.Root)])) rfl trivial rfl rfl)<|s_mov (.int .i64 0) rfl<|dk<|awp_seq<|sr<|s_mov (.int .i64 0) rfl<|dk<|?_
 obtain ⟨p285,hb1,hf⟩:=ob hf
 refine awp_cutx (X:={q:Unit // p285 = .go q}) (fun q => ([],[])) ?_ ?_
 ·refine awp_loop (X:={q:Nat // spec_l08Sets_L1 t_1 list_2 (list_2.drop q) q = some p285}) (fun q => ([(1,(.lst 3 (list_2.map encGSet))),(2,(.ptr 0 0 0)),(5,(.int .i64 (q.1:Int)))],[.box 4 (.agg [(.str t_1.Name),(.lst 8 (t_1.Columns.map encGColumn)),(.lst 1 (t_1.Unique.map encI)),(.bool t_1.Root)])])) (fun q => list_2.length - q.1) ⟨0,hb1⟩ ⟨[],[0],_,_,rfl,rfl,⟨.refl _,⟨.refl _,⟨.refl _,trivial⟩⟩⟩,(.refl _)⟩ ?_
  rintro ⟨i_190,hc1⟩
  have hc1:spec_l08Sets_L1 t_1 list_2 (list_2.drop i_190) i_190 = some p285:=hc1
  refine (show awp Tryz.prog false 0 _ (ofL [(1,(.lst 3 (list_2.map encGSet))),(2,(.ptr 0 0 0)),(5,(.int .i64 (i_190:Int)))]) [.box 4 (.agg [(.str t_1.Name),(.lst 8 (t_1.Columns.map encGColumn)),(.lst 1 (t_1.Unique.map encI)),(.bool t_1.Root)])] _ from ?_)
  rcases dropc list_2 i_190 with ⟨hie288,hd291⟩ | ⟨hlt286,x_292,hx287,hd291⟩
  ·rw [hd291,spec_l08Sets_L1.eq_1] at hc1
   have hq290:=dlf hie288
   refine awp_seq<|sr<|s_mov (.int .i64 (i_190:Int)) rfl<|s_mov (.lst 3 (list_2.map encGSet)) rfl<|s_dof (o_len (enc:=encGSet) rfl) fun hl293 => s_q (.bool (decide ((i_190:Int) < (list_2.length:Int)))) rfl rfl rfl<|dk<|w_condf rfl hq290<|w_exit<|k_seqx<|k_loopx<|k_blkx<|?_;obtain rfl:=os hc1;exact k_cutn ⟨_,rfl⟩ ⟨[],[],_,_,rfl,rfl,trivial,(.refl _)⟩
  ·rw [hd291,spec_l08Sets_L1.eq_2] at hc1
   have hq290:=dlt hlt286
   refine awp_seq<|sr<|s_mov (.int .i64 (i_190:Int)) rfl<|s_mov (.lst 3 (list_2.map encGSet)) rfl<|s_dof (o_len (enc:=encGSet) rfl) fun hl294 => s_q (.bool (decide ((i_190:Int) < (list_2.length:Int)))) rfl rfl rfl<|dk<|w_condt rfl hq290<|w_skip<|k_seq<|awp_seq<|w_blk<|sr<|?_
   obtain ⟨r_295,er296,hc1⟩:=ob hc1
   refine s_q (.agg [(.str t_1.Name),(.lst 8 (t_1.Columns.map encGColumn)),(.lst 1 (t_1.Unique.map encI)),(.bool t_1.Root)]) rfl nle rfl<|s_mov (.lst 3 (list_2.map encGSet)) rfl<|s_mov (.int .i64 (i_190:Int)) rfl<|s_do (o_iaddrn (enc:=encGSet) rfl rfl hx287)<|s_q (.iptr (encGSet x_292) 0) rfl trivial rfl<|s_q (.str x_292.Column) rfl nle rfl<|s_dol (o_call (w_spec_l04Column _ _ _ er296) rfl (.refl _) rfl) a_same trivial<|s_mov (.int .i64 r_295) rfl<|dk<|awp_seq<|sr<|s_mov (.int .i64 r_295) rfl<|s_q (.bool (decide (r_295 < 0))) rfl rfl rfl<|dk<|?_
   rcases oi hc1 with ⟨c297,hc1⟩ | ⟨c297,hc1⟩
   ·refine w_condt rfl c297<|sr<|s_mov (.int .i64 11) rfl<|dk<|w_ret<|?_;obtain rfl:=os hc1;obtain rfl:=os hf;exact r_flat ⟨trivial,trivial⟩ rfl (.refl _)
   ·refine w_condf rfl (bf c297)<|w_skip<|k_seq<|awp_seq<|sr<|s_mov (.int .i64 0) rfl<|dk<|?_
    obtain ⟨p326,hb2,hc1⟩:=ob hc1
    refine awp_cutx (X:={q:Unit // p326 = .go q}) (fun q => ([(1,(.lst 3 (list_2.map encGSet))),(2,(.ptr 0 0 0)),(5,(.int .i64 (i_190:Int))),(6,(.int .i64 r_295))],[.box 4 (.agg [(.str t_1.Name),(.lst 8 (t_1.Columns.map encGColumn)),(.lst 1 (t_1.Unique.map encI)),(.bool t_1.Root)])])) ?_ ?_
    ·refine awp_loop (X:={q:(Nat × Int) // spec_l08Sets_L2 i_190 list_2 x_292 q.1 q.2 = some p326}) (fun q => ([(1,(.lst 3 (list_2.map encGSet))),(2,(.ptr 0 0 0)),(5,(.int .i64 (i_190:Int))),(6,(.int .i64 r_295)),(7,(.int .i64 q.1.2))],[.box 4 (.agg [(.str t_1.Name),(.lst 8 (t_1.Columns.map encGColumn)),(.lst 1 (t_1.Unique.map encI)),(.bool t_1.Root)])])) (fun q => q.1.1) ⟨(FUEL,0),hb2⟩ ⟨[],[0],_,_,rfl,rfl,⟨.refl _,⟨.refl _,⟨.refl _,⟨.refl _,⟨.refl _,trivial⟩⟩⟩⟩⟩,(.refl _)⟩ ?_
     rintro ⟨⟨k,n_321⟩,hc2⟩
     have hc2:spec_l08Sets_L2 i_190 list_2 x_292 k n_321 = some p326:=hc2
     refine (show awp Tryz.prog false 0 _ (ofL [(1,(.lst 3 (list_2.map encGSet))),(2,(.ptr 0 0 0)),(5,(.int .i64 (i_190:Int))),(6,(.int .i64 r_295)),(7,(.int .i64 n_321))]) [.box 4 (.agg [(.str t_1.Name),(.lst 8 (t_1.Columns.map encGColumn)),(.lst 1 (t_1.Unique.map encI)),(.bool t_1.Root)])] _ from ?_)
     rcases k with _ | k
     ·rw [spec_l08Sets_L2.eq_1] at hc2
      cases hc2
     ·rw [spec_l08Sets_L2.eq_2] at hc2;refine awp_seq<|sr<|s_mov (.int .i64 n_321) rfl<|s_mov (.int .i64 (i_190:Int)) rfl<|s_q (.bool (decide (n_321 < (i_190:Int)))) rfl rfl rfl<|dk<|?_
      rcases oi hc2 with ⟨c327,hc2⟩ | ⟨c327,hc2⟩
      ·refine w_condt rfl c327<|w_skip<|k_seq<|awp_seq<|w_blk<|sr<|?_
       obtain ⟨x_328,ex329,hc2⟩:=ob hc2
       refine s_mov (.lst 3 (list_2.map encGSet)) rfl<|s_mov (.int .i64 n_321) rfl<|s_do (o_iaddr (enc:=encGSet) rfl rfl (idx0 ex329) (idx1 ex329))<|s_q (.iptr (encGSet x_328) 0) rfl trivial rfl<|s_q (.str x_328.Column) rfl nle rfl<|s_mov (.lst 3 (list_2.map encGSet)) rfl<|s_mov (.int .i64 (i_190:Int)) rfl<|s_do (o_iaddrn (enc:=encGSet) rfl rfl hx287)<|s_q (.iptr (encGSet x_292) 0) rfl trivial rfl<|s_q (.str x_292.Column) rfl nle rfl<|s_q (.bool (x_328.Column == x_292.Column)) rfl trivial rfl<|dk<|?_
       rcases oi hc2 with ⟨c330,hc2⟩ | ⟨c330,hc2⟩
       ·refine w_condt rfl c330<|sr<|s_mov (.int .i64 8) rfl<|dk<|w_ret<|?_;obtain rfl:=os hc2;obtain rfl:=os hc1;obtain rfl:=os hf;exact r_flat ⟨trivial,trivial⟩ rfl (.refl _)
       ·refine w_condf rfl (bf c330)<|w_skip<|k_blk<|k_seq<|w_reg<|s_mov (.int .i64 n_321) rfl<|s_q (.int .i64 (w64 (n_321 + 1))) rfl rfl rfl<|s_mov (.int .i64 (w64 (n_321 + 1))) rfl<|w_done<|?_;exact k_loopn ⟨(k,w64 (n_321 + 1)),hc2⟩ (Nat.lt_succ_self _) ⟨[],[0],_,_,rfl,rfl,⟨.refl _,⟨.refl _,⟨.refl _,⟨.refl _,⟨.refl _,trivial⟩⟩⟩⟩⟩,(.refl _)⟩
      ·refine w_condf rfl (bf c327)<|w_exit<|k_seqx<|k_loopx<|k_blkx<|?_;obtain rfl:=os hc2;exact k_cutn ⟨_,rfl⟩ ⟨[],[0],_,_,rfl,rfl,⟨.refl _,⟨.refl _,⟨.refl _,⟨.refl _,trivial⟩⟩⟩⟩,(.refl _)⟩
    ·rintro ⟨_,rfl⟩
     refine sr<|?_
     obtain ⟨x_331,ex332,hc1⟩:=ob hc1
     refine s_q (.ptr 0 0 1) rfl trivial rfl<|s_q (.lst 8 (t_1.Columns.map encGColumn)) rfl nle rfl<|s_mov (.int .i64 r_295) rfl<|s_do (o_iaddr (enc:=encGColumn) rfl rfl (idx0 ex332) (idx1 ex332))<|s_q (.iptr (encGColumn x_331) 1) rfl trivial rfl<|s_q (.int .i64 x_331.Kind) rfl nle rfl<|s_mov (.int .i64 x_331.Kind) rfl<|dk<|awp_seq<|?_
     obtain ⟨s77_342,hb2,hc1⟩:=ob hc1
     refine awp_cut ([(1,(.lst 3 (list_2.map encGSet))),(2,(.ptr 0 0 0)),(5,(.int .i64 (i_190:Int))),(77,(.bool s77_342))],[.box 4 (.agg [(.str t_1.Name),(.lst 8 (t_1.Columns.map encGColumn)),(.lst 1 (t_1.Unique.map encI)),(.bool t_1.Root)])]) ?_ ?_
     ·refine w_reg<|s_mov (.lst 3 (list_2.map encGSet)) rfl<|s_mov (.int .i64 (i_190:Int)) rfl<|s_do (o_iaddrn (enc:=encGSet) rfl rfl hx287)<|s_q (.iptr (encGSet x_292) 1) rfl trivial rfl<|s_q (.lst 3 (x_292.Value.map encGAtom)) rfl nle rfl<|s_dof (o_len (enc:=encGAtom) rfl) fun hl344 => s_q (.bool (decide ((x_292.Value.length:Int) > 0))) rfl rfl rfl<|s_mov (.bool (decide ((x_292.Value.length:Int) > 0))) rfl<|?_
      rcases oi hb2 with ⟨c345,hb2⟩ | ⟨c345,hb2⟩
      ·refine s_lit (s:=53) (b:=true) rfl c345<|s_on rfl<|s_mov (.lst 3 (list_2.map encGSet)) rfl<|s_on rfl<|s_mov (.int .i64 (i_190:Int)) rfl<|s_on rfl<|s_do (o_iaddrn (enc:=encGSet) rfl rfl hx287)<|s_on rfl<|s_q (.iptr (encGSet x_292) 1) rfl trivial rfl<|s_on rfl<|s_q (.lst 3 (x_292.Value.map encGAtom)) rfl nle rfl<|s_on rfl<|?_
       obtain ⟨x_346,ex347,hb2⟩:=ob hb2
       refine s_do (o_iaddr (enc:=encGAtom) rfl rfl (idx0 ex347) (idx1 ex347))<|s_on rfl<|s_q (.iptr (encGAtom x_346) 0) rfl trivial rfl<|s_on rfl<|s_q (.int .i64 x_346.Kind) rfl nle rfl<|s_on rfl<|s_mov (.int .i64 x_331.Kind) rfl<|s_on rfl<|s_q (.bool (x_346.Kind != x_331.Kind)) rfl rfl rfl<|s_q (.bool (x_346.Kind != x_331.Kind)) rfl trivial rfl<|s_mov (.bool (x_346.Kind != x_331.Kind)) rfl<|?_
       rcases oi hb2 with ⟨c348,hb2⟩ | ⟨c348,hb2⟩
       ·refine s_lit (s:=65) (b:=true) rfl c348<|s_off rfl rfl<|s_off rfl rfl<|s_off rfl rfl<|s_off rfl rfl<|s_off rfl rfl<|s_off rfl rfl<|s_off rfl rfl<|s_off rfl rfl<|s_offs rfl<|s_offs rfl<|s_off rfl rfl<|s_q (.bool true) rfl trivial rfl<|w_done<|?_;obtain rfl:=os hb2;exact ⟨[],[0],_,_,rfl,rfl,⟨.refl _,⟨.refl _,⟨.refl _,⟨.refl _,trivial⟩⟩⟩⟩,(.refl _)⟩
       ·refine s_lit (s:=65) (b:=false) rfl (bf c348)<|s_on rfl<|s_mov (.lst 3 (list_2.map encGSet)) rfl<|s_on rfl<|s_mov (.int .i64 (i_190:Int)) rfl<|s_on rfl<|s_do (o_iaddrn (enc:=encGSet) rfl rfl hx287)<|s_on rfl<|s_q (.iptr (encGSet x_292) 2) rfl trivial rfl<|s_on rfl<|s_q (.lst 1 (x_292.Names.map AV.str)) rfl nle rfl<|s_on rfl<|s_dof (o_len (enc:=AV.str) rfl) fun hl349 => s_on rfl<|s_q (.bool (decide ((x_292.Names.length:Int) > 0))) rfl rfl rfl<|s_on rfl<|s_mov (.bool (decide ((x_292.Names.length:Int) > 0))) rfl<|?_
        rcases oi hb2 with ⟨c350,hb2⟩ | ⟨c350,hb2⟩
        ·refine s_lit (s:=73) (b:=true) rfl c350<|s_on rfl<|s_mov (.int .i64 x_331.Kind) rfl<|s_on rfl<|s_q (.bool (x_331.Kind != 4)) rfl rfl rfl<|s_on rfl<|s_q (.bool (x_331.Kind != 4)) rfl trivial rfl<|s_q (.bool (x_331.Kind != 4)) rfl trivial rfl<|w_done<|?_;obtain rfl:=os hb2;exact ⟨[],[0],_,_,rfl,rfl,⟨.refl _,⟨.refl _,⟨.refl _,⟨.refl _,trivial⟩⟩⟩⟩,(.refl _)⟩
        ·refine s_lit (s:=73) (b:=false) rfl (bf c350)<|s_off rfl rfl<|s_off rfl rfl<|s_on rfl<|s_q (.bool false) rfl trivial rfl<|s_q (.bool false) rfl trivial rfl<|w_done<|?_;obtain rfl:=os hb2;exact ⟨[],[0],_,_,rfl,rfl,⟨.refl _,⟨.refl _,⟨.refl _,⟨.refl _,trivial⟩⟩⟩⟩,(.refl _)⟩
      ·refine s_lit (s:=53) (b:=false) rfl (bf c345)<|s_off rfl rfl<|s_off rfl rfl<|s_off rfl rfl<|s_off rfl rfl<|s_off rfl rfl<|s_off rfl rfl<|s_off rfl rfl<|s_off rfl rfl<|s_off rfl rfl<|s_off rfl rfl<|s_q (.bool false) rfl trivial rfl<|s_mov (.bool false) rfl<|s_on rfl<|s_mov (.lst 3 (list_2.map encGSet)) rfl<|s_on rfl<|s_mov (.int .i64 (i_190:Int)) rfl<|s_on rfl<|s_do (o_iaddrn (enc:=encGSet) rfl rfl hx287)<|s_on rfl<|s_q (.iptr (encGSet x_292) 2) rfl trivial rfl<|s_on rfl<|s_q (.lst 1 (x_292.Names.map AV.str)) rfl nle rfl<|s_on rfl<|s_dof (o_len (enc:=AV.str) rfl) fun hl351 => s_on rfl<|s_q (.bool (decide ((x_292.Names.length:Int) > 0))) rfl rfl rfl<|?_
       refine s_on rfl<|s_mov (.bool (decide ((x_292.Names.length:Int) > 0))) rfl<|?_
       rcases oi hb2 with ⟨c352,hb2⟩ | ⟨c352,hb2⟩
       ·refine s_lit (s:=73) (b:=true) rfl c352<|s_on rfl<|s_mov (.int .i64 x_331.Kind) rfl<|s_on rfl<|s_q (.bool (x_331.Kind != 4)) rfl rfl rfl<|s_on rfl<|s_q (.bool (x_331.Kind != 4)) rfl trivial rfl<|s_q (.bool (x_331.Kind != 4)) rfl trivial rfl<|w_done<|?_;obtain rfl:=os hb2;exact ⟨[],[0],_,_,rfl,rfl,⟨.refl _,⟨.refl _,⟨.refl _,⟨.refl _,trivial⟩⟩⟩⟩,(.refl _)⟩
       ·refine s_lit (s:=73) (b:=false) rfl (bf c352)<|s_off rfl rfl<|s_off rfl rfl<|s_on rfl<|s_q (.bool false) rfl trivial rfl<|s_q (.bool false) rfl trivial rfl<|w_done<|?_;obtain rfl:=os hb2;exact ⟨[],[0],_,_,rfl,rfl,⟨.refl _,⟨.refl _,⟨.refl _,⟨.refl _,trivial⟩⟩⟩⟩,(.refl _)⟩
     ·rcases oi hc1 with ⟨c353,hc1⟩ | ⟨c353,hc1⟩
      ·refine w_condt rfl c353<|sr<|s_mov (.int .i64 9) rfl<|dk<|w_ret<|?_;obtain rfl:=os hc1;obtain rfl:=os hf;exact r_flat ⟨trivial,trivial⟩ rfl (.refl _)
      ·refine w_condf rfl (bf c353)<|w_skip<|k_blk<|k_seq<|w_reg<|s_mov (.int .i64 (i_190:Int)) rfl<|s_q (.int .i64 (w64 ((i_190:Int) + 1))) rfl rfl rfl<|s_mov (.int .i64 (w64 ((i_190:Int) + 1))) rfl<|w_done<|?_;exact k_loopn ⟨(i_190 + 1),hc1⟩ (mul hlt286) ⟨[],[0],_,_,rfl,rfl,⟨.refl _,⟨.refl _,⟨.of_eq (congrArg (AV.int _) (w64_incr hlt286 hl294)),trivial⟩⟩⟩,(.refl _)⟩
 ·rintro ⟨_,rfl⟩
  refine sr<|s_mov (.int .i64 0) rfl<|dk<|w_ret<|?_;obtain rfl:=os hf;exact r_flat ⟨trivial,trivial⟩ rfl (.refl _)

/- spec.l05OwnRow -/
def c166:ACode :=
 (.seq (.reg (tq 1 (.box 2 (.t 0)) (tq 2 (.box 2 (.c (.agg [(.int .i64 0),.nil]))) .done)))
 (.seq (.reg (tq 5 (.faddr 0 (.t 1)) (tq 6 (.load 1 false (.t 5)) (tq 7 (.bslice 1 []) (tq 8 (.build [(.int .i64 0),.nil] [(0,1,(.t 6)),(1,1,(.t 7))]) (tq 3 (.box 2 (.c (.agg [(.int .i64 0),.nil]))) (.q ⟨none,none,.store 2 (.t 3) (.t 8)⟩
 .done)))))))
 (.seq (.seq (.reg (tm 4 (.c (.int .i64 0)) .done))
 (.block 0 (.loop (.seq (.seq (.reg (tm 9 (.t 4) (tq 10 (.faddr 1 (.t 1)) (tq 11 (.load 1 false (.t 10)) (tq 12 (.len (.t 11)) (tq 13 (.bin .lss (.t 9) (.t 12)) .done))))))
 (.cond (.t 13) .skip
 (.exit 0)))
 (.seq (.block 1 (.reg (tq 16 (.faddr 1 (.t 3)) (tq 17 (.load 1 false (.t 16)) (tq 19 (.faddr 1 (.t 1)) (tq 20 (.load 1 false (.t 19)) (tm 21 (.t 4) (tq 22 (.iaddr 1 (.t 20) (.t 21)) (tq 23 (.load 1 false (.t 22)) (.l ⟨(some 18),none,.bslice 3 []⟩ [⟨(some 23),none,.load 1 false (.t 22)⟩,⟨(some 22),none,.iaddr 1 (.t 20) (.t 21)⟩,⟨(some 20),none,.load 1 false (.t 19)⟩,⟨(some 19),none,.faddr 1 (.t 1)⟩,⟨(some 17),none,.load 1 false (.t 16)⟩,⟨(some 16),none,.faddr 1 (.t 3)⟩]
 (.l ⟨(some 24),none,.append 3 32 (.t 18) (.t 23)⟩ [⟨(some 17),none,.load 1 false (.t 16)⟩,⟨(some 16),none,.faddr 1 (.t 3)⟩]
 (.l ⟨(some 25),none,.bslice 1 [(.t 24)]⟩ [⟨(some 17),none,.load 1 false (.t 16)⟩,⟨(some 16),none,.faddr 1 (.t 3)⟩]
 (.l ⟨(some 26),none,.append 1 24 (.t 17) (.t 25)⟩ []
 (tq 27 (.faddr 1 (.t 3)) (.l ⟨none,none,.store 1 (.t 27) (.t 26)⟩ []
 .done .non)) .non) .non) .non) .non))))))))))
 (.reg (tm 14 (.t 4) (tq 15 (.bin .add (.t 14) (.c (.int .i64 1))) (tm 4 (.t 15) .done)))))))))
 (.cut (.seq (.reg (tq 28 (.load 2 true (.t 3)) (.q ⟨none,none,.store 2 (.t 2) (.t 28)⟩
 .done)))
 .ret)))))
theorem fc166:fcomp Tryz.prog Tryz.f166 = some (c166.erase,[.load 2 true (.t 2)],29):=by kernel_rfl
def spec_l05OwnRow_L1 :List (List GAtom) → (List (List GAtom)) → Option (List (List GAtom))
  | [],x_17 =>
    some x_17
  | x_33 :: xs,x_17 =>
    if ([] ++ x_33).length ≤ 2 ^ 30 then
    if (x_17 ++ [[] ++ x_33]).length ≤ 2 ^ 30 then
    spec_l05OwnRow_L1 xs  (x_17 ++ [[] ++ x_33])
    else none
    else none

def spec_l05OwnRow (r_1:GRow):Option GRow :=
    (spec_l05OwnRow_L1 r_1.Cells []).bind fun x_25 =>
    some (⟨r_1.Id,x_25⟩:GRow)
theorem w_spec_l05OwnRow (r_1:GRow) (r:GRow) (hf:spec_l05OwnRow r_1 = some r):CallOK Tryz.prog 166 .fresh [(encGRow r_1)] (encGRow r):=by
 refine CallOK.of_awp mixed Tryz.func166 fc166 nle ?_;rw [argT_eq];unfold spec_l05OwnRow at hf;unfold c166;refine (show awp Tryz.prog true 0 _ (ofL [(0,(encGRow r_1))]) [] _ from ?_);refine sr<|s_do (o_box (j:=0) (c:=(.agg [(.int .i64 r_1.Id),(.lst 1 (r_1.Cells.map (encL 3 encGAtom)))])) rfl trivial rfl rfl)<|s_do (o_box (j:=1) (c:=(.agg [(.int .i64 0),.nil])) rfl trivial rfl rfl)<|dk<|sr<|s_q (.ptr 0 0 0) rfl trivial rfl<|s_q (.int .i64 r_1.Id) rfl nle rfl<|?_;refine s_do (o_bslice (j:=2) (as':=[]) rfl (fun _ => by decide) trivial (.refl _) rfl rfl rfl) ?_;refine s_q (.agg [(.int .i64 r_1.Id),(.own 2 0 0)]) rfl ⟨⟨rfl,nle,trivial⟩,⟨⟨rfl,nle,trivial⟩,trivial⟩⟩ rfl ?_
 refine s_do (o_box (j:=3) (c:=(.agg [(.int .i64 0),.nil])) rfl trivial rfl rfl)<|s_do0 (o_storebox (v:=(.agg [(.int .i64 r_1.Id),(.own 2 0 0)])) (y':=(.agg [(.int .i64 r_1.Id),(.own 2 0 0)])) rfl rfl rfl trivial ⟨rfl,nle⟩ ⟨⟨rfl,trivial⟩,⟨⟨rfl,trivial⟩,trivial⟩⟩ rfl)<|dk<|awp_seq<|sr<|s_mov (.int .i64 0) rfl<|dk<|?_
 obtain ⟨x_25,hb1,hf⟩:=ob hf
 refine awp_cut ([(2,(.ptr 0 0 0)),(3,(.ptr 1 0 0))],[.box 2 (.agg [(.int .i64 0),.nil]),.box 2 (.agg [(.int .i64 r_1.Id),(.own 2 0 x_25.length)]),.row 1 (x_25.map (encL 3 encGAtom))]) ?_ ?_
 ·refine awp_loop (X:={q:(Nat × (List (List GAtom))) // spec_l05OwnRow_L1 (r_1.Cells.drop q.1) q.2 = some x_25}) (fun q => ([(1,(.ptr 0 0 0)),(2,(.ptr 1 0 0)),(3,(.ptr 2 0 0)),(4,(.int .i64 (q.1.1:Int)))],[.box 2 (.agg [(.int .i64 r_1.Id),(.lst 1 (r_1.Cells.map (encL 3 encGAtom)))]),.box 2 (.agg [(.int .i64 0),.nil]),.box 2 (.agg [(.int .i64 r_1.Id),(.own 3 0 q.1.2.length)]),.row 1 (q.1.2.map (encL 3 encGAtom))])) (fun q => r_1.Cells.length - q.1.1) ⟨(0,[]),hb1⟩ ⟨[],[0,1,3,2],_,_,rfl,rfl,⟨.refl _,⟨.refl _,⟨.refl _,⟨.refl _,trivial⟩⟩⟩⟩,(.cons (.refl _) (.cons (.refl _) (.cons (.box (.agg (.cons (.refl _) (.cons (.of_eq (congrArg (AV.own _ 0) (by simp))) .nil)))) (.cons (.refl _) .nil))))⟩ ?_
  rintro ⟨⟨i_16,x_17⟩,hc1⟩
  have hc1:spec_l05OwnRow_L1 (r_1.Cells.drop i_16) x_17 = some x_25:=hc1
  refine (show awp Tryz.prog true 0 _ (ofL [(1,(.ptr 0 0 0)),(2,(.ptr 1 0 0)),(3,(.ptr 2 0 0)),(4,(.int .i64 (i_16:Int)))]) [.box 2 (.agg [(.int .i64 r_1.Id),(.lst 1 (r_1.Cells.map (encL 3 encGAtom)))]),.box 2 (.agg [(.int .i64 0),.nil]),.box 2 (.agg [(.int .i64 r_1.Id),(.own 3 0 x_17.length)]),.row 1 (x_17.map (encL 3 encGAtom))] _ from ?_)
  rcases dropc r_1.Cells i_16 with ⟨hie29,hd32⟩ | ⟨hlt27,x_33,hx28,hd32⟩
  ·rw [hd32,spec_l05OwnRow_L1.eq_1] at hc1
   have hq31:=dlf hie29
   refine awp_seq<|sr<|s_mov (.int .i64 (i_16:Int)) rfl<|s_q (.ptr 0 0 1) rfl trivial rfl<|s_q (.lst 1 (r_1.Cells.map (encL 3 encGAtom))) rfl nle rfl<|s_dof (o_len (enc:=(encL 3 encGAtom)) rfl) fun hl34 => s_q (.bool (decide ((i_16:Int) < (r_1.Cells.length:Int)))) rfl rfl rfl<|dk<|w_condf rfl hq31<|w_exit<|k_seqx<|k_loopx<|k_blkx<|?_;obtain rfl:=os hc1;exact ⟨[],[1,2,3],_,_,rfl,rfl,⟨.refl _,⟨.refl _,trivial⟩⟩,(.refl _)⟩
  ·rw [hd32,spec_l05OwnRow_L1.eq_2] at hc1
   have hq31:=dlt hlt27
   refine awp_seq<|sr<|s_mov (.int .i64 (i_16:Int)) rfl<|s_q (.ptr 0 0 1) rfl trivial rfl<|s_q (.lst 1 (r_1.Cells.map (encL 3 encGAtom))) rfl nle rfl<|s_dof (o_len (enc:=(encL 3 encGAtom)) rfl) fun hl35 => s_q (.bool (decide ((i_16:Int) < (r_1.Cells.length:Int)))) rfl rfl rfl<|dk<|w_condt rfl hq31<|w_skip<|k_seq<|awp_seq<|w_blk<|w_reg<|s_q (.ptr 2 0 1) rfl trivial rfl<|s_q (.own 3 0 x_17.length) rfl nle rfl<|s_q (.ptr 0 0 1) rfl trivial rfl<|s_q (.lst 1 (r_1.Cells.map (encL 3 encGAtom))) rfl nle rfl<|s_mov (.int .i64 (i_16:Int)) rfl<|s_do (o_iaddrn (enc:=(encL 3 encGAtom)) rfl rfl hx28)<|s_q (.lst 3 (x_33.map encGAtom)) rfl ⟨rfl,rfl⟩ rfl<|?_
   refine s_dol (o_bslice (j:=4) (as':=[]) rfl (fun _ => by decide) trivial (.refl _) rfl rfl rfl) (.inr ⟨⟨⟨rfl,rfl⟩,rfl⟩,⟨(ag_iaddrn (enc:=(encL 3 encGAtom)) rfl rfl hx28),⟨⟨nle,rfl⟩,⟨⟨trivial,rfl⟩,⟨⟨nle,rfl⟩,⟨⟨trivial,rfl⟩,trivial⟩⟩⟩⟩⟩⟩) trivial ?_
   obtain ⟨g36,hc1⟩:=og hc1
   refine s_dol (o_appendd (j:=5) (L:=(([] ++ x_33).map encGAtom)) (len:=([] ++ x_33).length) rfl false rfl rfl (fun _ => flm (fun _ => rfl) _) (fun _ _ _ => flm (fun _ => rfl) _) (by decide) ((by simp)) (by simp <;> omega) g36 rfl rfl) (.inr ⟨⟨nle,rfl⟩,⟨⟨trivial,rfl⟩,trivial⟩⟩) trivial ?_
   refine s_dol (o_bslice (j:=6) (as':=[(.lst 3 (([] ++ x_33).map encGAtom))]) rfl (fun _ => by decide) ⟨rfl,trivial⟩ (.cons (.of_eq (congrArg (AV.lst _) (tk (enc:=encGAtom) ([] ++ x_33)))) .nil) rfl rfl rfl) (.inr ⟨⟨nle,rfl⟩,⟨⟨trivial,rfl⟩,trivial⟩⟩) trivial ?_
   obtain ⟨g37,hc1⟩:=og hc1
   refine s_dol (o_appendd (j:=7) (L:=((x_17 ++ [[] ++ x_33]).map (encL 3 encGAtom))) (len:=(x_17 ++ [[] ++ x_33]).length) rfl true rfl rfl (fun h => Bool.noConfusion h) (fun _ _ h => (ownl (show AV.own _ _ _ = AV.lst _ _ from h)).elim) (by decide) (apo (enc:=(encL 3 encGAtom)) x_17 [[] ++ x_33]) (by simp <;> omega) g37 rfl rfl) trivial trivial ?_
   refine s_q (.ptr 2 0 1) rfl trivial rfl<|s_dol0 (o_storebox (v:=(.own 7 0 ((x_17 ++ [[] ++ x_33]).length))) (y':=(.agg [(.int .i64 r_1.Id),(.own 7 0 ((x_17 ++ [[] ++ x_33]).length))])) rfl rfl rfl trivial ⟨rfl,nle⟩ ⟨⟨rfl,trivial⟩,trivial⟩ rfl) trivial trivial<|w_done<|k_blk<|k_seq<|w_reg<|s_mov (.int .i64 (i_16:Int)) rfl<|s_q (.int .i64 (w64 ((i_16:Int) + 1))) rfl rfl rfl<|s_mov (.int .i64 (w64 ((i_16:Int) + 1))) rfl<|w_done<|?_;exact k_loopn ⟨((i_16 + 1),x_17 ++ [[] ++ x_33]),hc1⟩ (mul hlt27) ⟨[],[0,1,2,7],_,_,rfl,rfl,⟨.refl _,⟨.refl _,⟨.refl _,⟨.of_eq (congrArg (AV.int _) (w64_incr hlt27 hl35)),trivial⟩⟩⟩⟩,(.refl _)⟩
 ·refine sr<|s_q (.agg [(.int .i64 r_1.Id),(.own 2 0 x_25.length)]) rfl nle rfl<|s_do0 (o_storebox (v:=(.agg [(.int .i64 r_1.Id),(.own 2 0 x_25.length)])) (y':=(.agg [(.int .i64 r_1.Id),(.own 2 0 x_25.length)])) rfl rfl rfl trivial ⟨rfl,nle⟩ ⟨⟨rfl,trivial⟩,⟨⟨rfl,trivial⟩,trivial⟩⟩ rfl)<|dk<|w_ret<|?_;obtain rfl:=os hf;exact r_fresh ⟨nle,trivial⟩ rfl (by decide) (.agg (.cons (.refl _) (.cons (.of_eq (congrArg (AV.lst _) (tk (enc:=(encL 3 encGAtom)) x_25))) .nil)))

/- spec.l08SetRow -/
def c85:ACode :=
 (.seq (.reg (tq 3 (.box 4 (.t 0)) (tq 4 (.box 2 (.t 1)) (tq 6 (.box 2 (.c (.agg [(.int .i64 0),.nil]))) (tm 7 (.c (.int .i64 0)) .done)))))
 (.seq (.reg (tq 11 (.load 2 true (.t 4)) (tq 12 (.call 166 [(.t 11)]) (.q ⟨none,none,.store 2 (.t 4) (.t 12)⟩
 .done))))
 (.seq (.seq (.reg (tm 8 (.c (.int .i64 0)) .done))
 (.block 0 (.loop (.seq (.seq (.reg (tm 13 (.t 8) (tm 14 (.t 2) (tq 15 (.len (.t 14)) (tq 16 (.bin .lss (.t 13) (.t 15)) .done)))))
 (.cond (.t 16) .skip
 (.exit 0)))
 (.seq (.block 1 (.seq (.reg (tq 19 (.load 4 true (.t 3)) (tm 20 (.t 2) (tm 21 (.t 8) (tq 22 (.iaddr 3 (.t 20) (.t 21)) (tq 23 (.faddr 0 (.t 22)) (tq 24 (.load 1 false (.t 23)) (.l ⟨(some 25),none,.call 132 [(.t 19),(.t 24)]⟩ []
 (tm 9 (.t 25) .done) .non))))))))
 (.seq (.seq (.reg (tq 26 (.faddr 1 (.t 3)) (tq 27 (.load 1 false (.t 26)) (tm 28 (.t 9) (tq 29 (.iaddr 8 (.t 27) (.t 28)) (tq 30 (.load 8 true (.t 29)) (tm 31 (.t 2) (tm 32 (.t 8) (tq 33 (.iaddr 3 (.t 31) (.t 32)) (tq 34 (.faddr 1 (.t 33)) (tq 35 (.load 1 false (.t 34)) (.l ⟨(some 36),none,.call 167 [(.t 30),(.t 35)]⟩ []
 (tm 10 (.t 36) .done) .non))))))))))))
 (.seq (.reg (tm 37 (.t 10) (tq 38 (.bin .neq (.t 37) (.c (.int .i64 0))) .done)))
 (.cond (.t 38) (.seq (.reg (tq 39 (.build [(.int .i64 0),.nil] []) (tm 40 (.t 10) (.q ⟨none,none,.store 2 (.t 6) (.t 39)⟩
 (tm 7 (.t 40) .done)))))
 .ret)
 .skip)))
 (.reg (tq 41 (.faddr 1 (.t 4)) (tq 42 (.load 1 false (.t 41)) (tm 43 (.t 9) (tm 45 (.t 2) (tm 46 (.t 8) (tq 47 (.iaddr 3 (.t 45) (.t 46)) (tq 48 (.faddr 1 (.t 47)) (tq 49 (.load 1 false (.t 48)) (.l ⟨(some 44),none,.bslice 3 []⟩ [⟨(some 49),none,.load 1 false (.t 48)⟩,⟨(some 48),none,.faddr 1 (.t 47)⟩,⟨(some 47),none,.iaddr 3 (.t 45) (.t 46)⟩,⟨(some 42),none,.load 1 false (.t 41)⟩,⟨(some 41),none,.faddr 1 (.t 4)⟩]
 (.l ⟨(some 50),none,.append 3 32 (.t 44) (.t 49)⟩ [⟨(some 42),none,.load 1 false (.t 41)⟩,⟨(some 41),none,.faddr 1 (.t 4)⟩]
 (tq 51 (.iaddr 1 (.t 42) (.t 43)) (.l ⟨none,none,.store 1 (.t 51) (.t 50)⟩ []
 .done .non)) .non) .non)))))))))))))
 (.reg (tm 17 (.t 8) (tq 18 (.bin .add (.t 17) (.c (.int .i64 1))) (tm 8 (.t 18) .done)))))))))
 (.cut (.seq (.reg (tq 52 (.load 2 true (.t 4)) (.q ⟨none,none,.store 2 (.t 6) (.t 52)⟩
 (tm 7 (.c (.int .i64 0)) .done))))
 .ret)))))
theorem fc85:fcomp Tryz.prog Tryz.f85 = some (c85.erase,[.load 2 true (.t 6),.mov (.t 7)],53):=by kernel_rfl
def spec_l08SetRow_L1 (t_1:GTable):List GSet → (List (List GAtom)) → Option (Fl (GRow × Int) (List (List GAtom)))
  | [],x_47 =>
    some (.go x_47)
  | x_76 :: xs,x_47 =>
    (spec_l04Column t_1 x_76.Column).bind fun r_79 =>
    (idx t_1.Columns r_79).bind fun x_81 =>
    (spec_l04Fits x_81 x_76.Value).bind fun r_83 =>
    if (r_83 != 0) then
    some (.ret ((⟨0,[]⟩:GRow),r_83))
    else
    if ([] ++ x_76.Value).length ≤ 2 ^ 30 then
    if 0 ≤ r_79 ∧ r_79 < (x_47.length:Int) then
    (x_47[(0 + r_79.toNat)]?).bind fun x_88 =>
    spec_l08SetRow_L1 t_1 xs  (x_47.set (0 + r_79.toNat) ([] ++ x_76.Value))
    else none
    else none

def spec_l08SetRow (t_1:GTable) (r_2:GRow) (list_3:(List GSet)):Option (GRow × Int) :=
    (spec_l05OwnRow r_2).bind fun r_4 =>
    (spec_l08SetRow_L1 t_1 list_3 r_4.Cells).bind fun q => (match q with
    | .ret r => some r
    | .go x_68 =>
    some ((⟨r_4.Id,x_68⟩:GRow),0))
theorem w_spec_l08SetRow (t_1:GTable) (r_2:GRow) (list_3:(List GSet)) (r:(GRow × Int)) (hf:spec_l08SetRow t_1 r_2 list_3 = some r):CallOK Tryz.prog 85 .fresh [(encGTable t_1),(encGRow r_2),(.lst 3 (list_3.map encGSet))] (.tup [(encGRow r.1),(.int .i64 r.2)]):=by
 refine CallOK.of_awp mixed Tryz.func85 fc85 nle ?_;rw [argT_eq];unfold spec_l08SetRow at hf;unfold c85;refine (show awp Tryz.prog true 0 _ (ofL [(0,(encGTable t_1)),(1,(encGRow r_2)),(2,(.lst 3 (list_3.map encGSet)))]) [] _ from ?_);refine sr<|s_do (o_box (j:=0) (c:=(.agg [(.str t_1.Name),(.lst 8 (t_1.Columns.map encGColumn)),(.lst 1 (t_1.Unique.map encI)),(.bool t_1.Root)])) rfl trivial rfl rfl)<|s_do (o_box (j:=1) (c:=(.agg [(.int .i64 r_2.Id),(.lst 1 (r_2.Cells.map (encL 3 encGAtom)))])) rfl trivial rfl rfl)<|s_do (o_box (j:=2) (c:=(.agg [(.int .i64 0),.nil])) rfl trivial rfl rfl)<|s_mov (.int .i64 0) rfl<|dk<|sr<|?_
 obtain ⟨r_4,er5,hf⟩:=ob hf
 refine s_q (.agg [(.int .i64 r_2.Id),(.lst 1 (r_2.Cells.map (encL 3 encGAtom)))]) rfl nle rfl<|s_do (o_callf (v:=(.agg [(.int .i64 r_4.Id),(.own 3 0 r_4.Cells.length)])) (h':=[.row 1 (r_4.Cells.map (encL 3 encGAtom))]) (w_spec_l05OwnRow _ _ er5) rfl (.refl _) (by simp only [openV,openVs,List.length_map,encGRow_eq,List.nil_append,List.append_nil,List.cons_append];rfl))<|s_do0 (o_storebox (v:=(.agg [(.int .i64 r_4.Id),(.own 3 0 r_4.Cells.length)])) (y':=(.agg [(.int .i64 r_4.Id),(.own 3 0 r_4.Cells.length)])) rfl rfl rfl trivial ⟨rfl,nle⟩ ⟨⟨rfl,trivial⟩,⟨⟨rfl,trivial⟩,trivial⟩⟩ rfl)<|dk<|awp_seq<|sr<|s_mov (.int .i64 0) rfl<|dk<|?_
 obtain ⟨p69,hb1,hf⟩:=ob hf
 refine awp_cutx (X:={q:(List (List GAtom)) // p69 = .go q}) (fun q => ([(4,(.ptr 0 0 0)),(6,(.ptr 1 0 0))],[.box 2 (.agg [(.int .i64 r_4.Id),(.own 2 0 q.1.length)]),.box 2 (.agg [(.int .i64 0),.nil]),.row 1 (q.1.map (encL 3 encGAtom))])) ?_ ?_
 ·refine awp_loop (X:={q:(Nat × (List (List GAtom))) // spec_l08SetRow_L1 t_1 (list_3.drop q.1) q.2 = some p69}) (fun q => ([(2,(.lst 3 (list_3.map encGSet))),(3,(.ptr 0 0 0)),(4,(.ptr 1 0 0)),(6,(.ptr 2 0 0)),(8,(.int .i64 (q.1.1:Int)))],[.box 4 (.agg [(.str t_1.Name),(.lst 8 (t_1.Columns.map encGColumn)),(.lst 1 (t_1.Unique.map encI)),(.bool t_1.Root)]),.box 2 (.agg [(.int .i64 r_4.Id),(.own 3 0 q.1.2.length)]),.box 2 (.agg [(.int .i64 0),.nil]),.row 1 (q.1.2.map (encL 3 encGAtom))])) (fun q => list_3.length - q.1.1) ⟨(0,r_4.Cells),hb1⟩ ⟨[],[0,1,2,3],_,_,rfl,rfl,⟨.refl _,⟨.refl _,⟨.refl _,⟨.refl _,⟨.refl _,trivial⟩⟩⟩⟩⟩,(.refl _)⟩ ?_
  rintro ⟨⟨i_46,x_47⟩,hc1⟩
  have hc1:spec_l08SetRow_L1 t_1 (list_3.drop i_46) x_47 = some p69:=hc1
  refine (show awp Tryz.prog true 0 _ (ofL [(2,(.lst 3 (list_3.map encGSet))),(3,(.ptr 0 0 0)),(4,(.ptr 1 0 0)),(6,(.ptr 2 0 0)),(8,(.int .i64 (i_46:Int)))]) [.box 4 (.agg [(.str t_1.Name),(.lst 8 (t_1.Columns.map encGColumn)),(.lst 1 (t_1.Unique.map encI)),(.bool t_1.Root)]),.box 2 (.agg [(.int .i64 r_4.Id),(.own 3 0 x_47.length)]),.box 2 (.agg [(.int .i64 0),.nil]),.row 1 (x_47.map (encL 3 encGAtom))] _ from ?_)
  rcases dropc list_3 i_46 with ⟨hie72,hd75⟩ | ⟨hlt70,x_76,hx71,hd75⟩
  ·rw [hd75,spec_l08SetRow_L1.eq_1] at hc1
   have hq74:=dlf hie72
   refine awp_seq<|sr<|s_mov (.int .i64 (i_46:Int)) rfl<|s_mov (.lst 3 (list_3.map encGSet)) rfl<|s_dof (o_len (enc:=encGSet) rfl) fun hl77 => s_q (.bool (decide ((i_46:Int) < (list_3.length:Int)))) rfl rfl rfl<|dk<|w_condf rfl hq74<|w_exit<|k_seqx<|k_loopx<|k_blkx<|?_;obtain rfl:=os hc1;exact k_cutn ⟨_,rfl⟩ ⟨[],[1,2,3],_,_,rfl,rfl,⟨.refl _,⟨.refl _,trivial⟩⟩,(.refl _)⟩
  ·rw [hd75,spec_l08SetRow_L1.eq_2] at hc1
   have hq74:=dlt hlt70
   refine awp_seq<|sr<|s_mov (.int .i64 (i_46:Int)) rfl<|s_mov (.lst 3 (list_3.map encGSet)) rfl<|s_dof (o_len (enc:=encGSet) rfl) fun hl78 => s_q (.bool (decide ((i_46:Int) < (list_3.length:Int)))) rfl rfl rfl<|dk<|w_condt rfl hq74<|w_skip<|k_seq<|awp_seq<|w_blk<|sr<|?_
   obtain ⟨r_79,er80,hc1⟩:=ob hc1
   refine s_q (.agg [(.str t_1.Name),(.lst 8 (t_1.Columns.map encGColumn)),(.lst 1 (t_1.Unique.map encI)),(.bool t_1.Root)]) rfl nle rfl<|s_mov (.lst 3 (list_3.map encGSet)) rfl<|s_mov (.int .i64 (i_46:Int)) rfl<|s_do (o_iaddrn (enc:=encGSet) rfl rfl hx71)<|s_q (.iptr (encGSet x_76) 0) rfl trivial rfl<|s_q (.str x_76.Column) rfl nle rfl<|s_dol (o_call (w_spec_l04Column _ _ _ er80) rfl (.refl _) rfl) a_same trivial<|s_mov (.int .i64 r_79) rfl<|dk<|awp_seq<|sr<|?_
   obtain ⟨x_81,ex82,hc1⟩:=ob hc1
   obtain ⟨r_83,er84,hc1⟩:=ob hc1
   refine s_q (.ptr 0 0 1) rfl trivial rfl<|s_q (.lst 8 (t_1.Columns.map encGColumn)) rfl nle rfl<|s_mov (.int .i64 r_79) rfl<|s_do (o_iaddr (enc:=encGColumn) rfl rfl (idx0 ex82) (idx1 ex82))<|s_q (encGColumn x_81) rfl nle rfl<|s_mov (.lst 3 (list_3.map encGSet)) rfl<|s_mov (.int .i64 (i_46:Int)) rfl<|s_do (o_iaddrn (enc:=encGSet) rfl rfl hx71)<|s_q (.iptr (encGSet x_76) 1) rfl trivial rfl<|s_q (.lst 3 (x_76.Value.map encGAtom)) rfl nle rfl<|s_dol (o_call (w_spec_l04Fits _ _ _ er84) rfl (.refl _) rfl) a_same trivial<|s_mov (.int .i64 r_83) rfl<|dk<|sr<|s_mov (.int .i64 r_83) rfl<|s_q (.bool (r_83 != 0)) rfl rfl rfl<|dk<|?_
   rcases oi hc1 with ⟨c85,hc1⟩ | ⟨c85,hc1⟩
   ·refine w_condt rfl c85<|sr<|s_q (.agg [(.int .i64 0),.nil]) rfl trivial rfl<|s_mov (.int .i64 r_83) rfl<|s_do0 (o_storebox (v:=(.agg [(.int .i64 0),.nil])) (y':=(.agg [(.int .i64 0),.nil])) rfl rfl rfl trivial ⟨rfl,nle⟩ ⟨⟨rfl,trivial⟩,⟨⟨rfl,trivial⟩,trivial⟩⟩ rfl)<|s_mov (.int .i64 r_83) rfl<|dk<|w_ret<|?_;obtain rfl:=os hc1;obtain rfl:=os hf;exact r_fresh ⟨nle,⟨trivial,trivial⟩⟩ rfl (by decide) (.tup (.cons (.agg (.cons (.refl _) (.cons (.nil _) .nil))) (.cons (.refl _) .nil)))
   ·refine w_condf rfl (bf c85)<|w_skip<|k_seq<|w_reg<|?_
    obtain ⟨g86,hc1⟩:=og hc1
    obtain ⟨g87,hc1⟩:=og hc1
    obtain ⟨x_88,ex89,hc1⟩:=ob hc1
    refine s_q (.ptr 1 0 1) rfl trivial rfl<|s_q (.own 3 0 x_47.length) rfl nle rfl<|s_mov (.int .i64 r_79) rfl<|s_mov (.lst 3 (list_3.map encGSet)) rfl<|s_mov (.int .i64 (i_46:Int)) rfl<|s_do (o_iaddrn (enc:=encGSet) rfl rfl hx71)<|s_q (.iptr (encGSet x_76) 1) rfl trivial rfl<|s_q (.lst 3 (x_76.Value.map encGAtom)) rfl nle rfl<|?_;refine s_dol (o_bslice (j:=4) (as':=[]) rfl (fun _ => by decide) trivial (.refl _) rfl rfl rfl) (.inr ⟨⟨nle,rfl⟩,⟨⟨trivial,rfl⟩,⟨(ag_iaddrn (enc:=encGSet) rfl rfl hx71),⟨⟨nle,rfl⟩,⟨⟨trivial,rfl⟩,trivial⟩⟩⟩⟩⟩) trivial ?_
    refine s_dol (o_appendd (j:=5) (L:=(([] ++ x_76.Value).map encGAtom)) (len:=([] ++ x_76.Value).length) rfl false rfl rfl (fun _ => flm (fun _ => rfl) _) (fun _ _ _ => flm (fun _ => rfl) _) (by decide) ((by simp)) (by simp <;> omega) g86 rfl rfl) (.inr ⟨⟨nle,rfl⟩,⟨⟨trivial,rfl⟩,trivial⟩⟩) trivial ?_
    refine s_do (o_iaddrown rfl rfl g87.1 g87.2 rfl rfl) ?_;refine s_dol0 (o_storerow (v':=(.lst 3 (([] ++ x_76.Value).map encGAtom))) (e':=[] ++ x_76.Value) rfl rfl ex89 rfl rfl (by simp only [tk,tko,List.take_length]) (by decide) (fun _ => by decide) ⟨rfl,rfl,rfl⟩ (.refl _) rfl) trivial trivial ?_;refine w_done<|k_blk<|k_seq<|w_reg<|s_mov (.int .i64 (i_46:Int)) rfl<|s_q (.int .i64 (w64 ((i_46:Int) + 1))) rfl rfl rfl<|s_mov (.int .i64 (w64 ((i_46:Int) + 1))) rfl<|w_done<|?_;exact k_loopn ⟨((i_46 + 1),x_47.set (0 + r_79.toNat) ([] ++ x_76.Value)),hc1⟩ (mul hlt70) ⟨[],[0,1,2,3],_,_,rfl,rfl,⟨.refl _,⟨.refl _,⟨.refl _,⟨.refl _,⟨.of_eq (congrArg (AV.int _) (w64_incr hlt70 hl78)),trivial⟩⟩⟩⟩⟩,(.cons (.refl _) (.cons (.box (.agg (.cons (.refl _) (.cons (.of_eq (congrArg (AV.own _ 0) (by simp))) .nil)))) (.cons (.refl _) (.cons (.refl _) .nil))))⟩
 ·rintro ⟨x_68,rfl⟩
  refine sr<|s_q (.agg [(.int .i64 r_4.Id),(.own 2 0 x_68.length)]) rfl nle rfl<|s_do0 (o_storebox (v:=(.agg [(.int .i64 r_4.Id),(.own 2 0 x_68.length)])) (y':=(.agg [(.int .i64 r_4.Id),(.own 2 0 x_68.length)])) rfl rfl rfl trivial ⟨rfl,nle⟩ ⟨⟨rfl,trivial⟩,⟨⟨rfl,trivial⟩,trivial⟩⟩ rfl)<|s_mov (.int .i64 0) rfl<|dk<|w_ret<|?_;obtain rfl:=os hf;exact r_fresh ⟨nle,⟨trivial,trivial⟩⟩ rfl (by decide) (.tup (.cons (.agg (.cons (.refl _) (.cons (.of_eq (congrArg (AV.lst _) (tk (enc:=(encL 3 encGAtom)) x_68))) .nil))) (.cons (.refl _) .nil)))

/- spec.SetRow -/
def c25:ACode :=
 (.seq (.reg (tq 3 (.box 4 (.t 0)) (tq 4 (.box 2 (.t 1)) (tq 6 (.box 2 (.c (.agg [(.int .i64 0),.nil]))) (tm 7 (.c (.int .i64 0)) .done)))))
 (.seq (.seq (.reg (tm 10 (.t 2) (tq 11 (.len (.t 10)) (tq 12 (.bin .gtr (.t 11) (.c (.int .i64 4096))) .done))))
 (.cond (.t 12) (.seq (.reg (tq 13 (.build [(.int .i64 0),.nil] []) (.q ⟨none,none,.store 2 (.t 6) (.t 13)⟩
 (tm 7 (.c (.int .i64 2)) .done))))
 .ret)
 .skip))
 (.seq (.seq (.reg (tq 14 (.load 4 true (.t 3)) (tq 15 (.load 2 true (.t 4)) (tq 16 (.call 82 [(.t 14),(.t 15)]) (tq 17 (.not (.t 16)) (tm 18 (.t 17) (tg 19 18 false (.mov (.t 2)) (tg 20 18 false (.len (.t 19)) (tg 21 18 false (.bin .gtr (.t 20) (.c (.int .i64 6))) (tq 22 (.pick (.t 18) (.c (.bool true)) (.t 21)) .done))))))))))
 (.cut (.cond (.t 22) (.seq (.reg (tq 23 (.build [(.int .i64 0),.nil] []) (.q ⟨none,none,.store 2 (.t 6) (.t 23)⟩
 (tm 7 (.c (.int .i64 1)) .done))))
 .ret)
 .skip)))
 (.seq (.seq (.reg (tm 8 (.c (.int .i64 0)) .done))
 (.block 0 (.loop (.seq (.seq (.reg (tm 24 (.t 8) (tm 25 (.t 2) (tq 26 (.len (.t 25)) (tq 27 (.bin .lss (.t 24) (.t 26)) .done)))))
 (.cond (.t 27) .skip
 (.exit 0)))
 (.seq (.block 1 (.seq (.reg (tm 30 (.t 2) (tm 31 (.t 8) (tq 32 (.iaddr 3 (.t 30) (.t 31)) (tq 33 (.load 3 true (.t 32)) (tq 34 (.call 83 [(.t 33)]) (tq 35 (.not (.t 34)) (tm 36 (.t 35) (tg 37 36 false (.mov (.t 2)) (tg 38 36 false (.mov (.t 8)) (tg 39 36 false (.iaddr 3 (.t 37) (.t 38)) (tg 40 36 false (.faddr 2 (.t 39)) (tg 41 36 false (.load 1 false (.t 40)) (tg 42 36 false (.len (.t 41)) (tg 43 36 false (.bin .gtr (.t 42) (.c (.int .i64 0))) (tq 44 (.pick (.t 36) (.c (.bool true)) (.t 43)) .done))))))))))))))))
 (.cut (.cond (.t 44) (.seq (.reg (tq 45 (.build [(.int .i64 0),.nil] []) (.q ⟨none,none,.store 2 (.t 6) (.t 45)⟩
 (tm 7 (.c (.int .i64 1)) .done))))
 .ret)
 .skip))))
 (.reg (tm 28 (.t 8) (tq 29 (.bin .add (.t 28) (.c (.int .i64 1))) (tm 8 (.t 29) .done)))))))))
 (.cut (.seq (.seq (.reg (tq 46 (.load 4 true (.t 3)) (tm 47 (.t 2) (tq 48 (.call 84 [(.t 46),(.t 47)]) (tm 9 (.t 48) .done)))))
 (.seq (.reg (tm 49 (.t 9) (tq 50 (.bin .neq (.t 49) (.c (.int .i64 0))) .done)))
 (.cond (.t 50) (.seq (.reg (tq 51 (.build [(.int .i64 0),.nil] []) (tm 52 (.t 9) (.q ⟨none,none,.store 2 (.t 6) (.t 51)⟩
 (tm 7 (.t 52) .done)))))
 .ret)
 .skip)))
 (.seq (.reg (tq 53 (.load 4 true (.t 3)) (tq 54 (.load 2 true (.t 4)) (tm 55 (.t 2) (tq 56 (.call 85 [(.t 53),(.t 54),(.t 55)]) (tq 57 (.extract 0 (.t 56)) (tq 58 (.extract 1 (.t 56)) (.q ⟨none,none,.store 2 (.t 6) (.t 57)⟩
 (tm 7 (.t 58) .done)))))))))
 .ret)))))))
theorem fc25:fcomp Tryz.prog Tryz.f25 = some (c25.erase,[.load 2 true (.t 6),.mov (.t 7)],59):=by kernel_rfl
def spec_SetRow_L1 :List GSet → Option (Fl (GRow × Int) Unit)
  | [] =>
    some (.go ())
  | x_90 :: xs =>
    (((spec_l08Set x_90).bind fun r_99 =>
    if (!r_99) then
    some true
    else
    some (decide ((x_90.Names.length:Int) > 0)):Option Bool)).bind fun s44_97 =>
    if s44_97 then
    some (.ret ((⟨0,[]⟩:GRow),1))
    else
    spec_SetRow_L1 xs 

def spec_SetRow (t_1:GTable) (r_2:GRow) (list_3:(List GSet)):Option (GRow × Int) :=
    if (decide ((list_3.length:Int) > 4096)) then
    some ((⟨0,[]⟩:GRow),2)
    else
    (((spec_RowOK t_1 r_2).bind fun r_12 =>
    if (!r_12) then
    some true
    else
    some (decide ((list_3.length:Int) > 6)):Option Bool)).bind fun s22_10 =>
    if s22_10 then
    some ((⟨0,[]⟩:GRow),1)
    else
    (spec_SetRow_L1 list_3 ).bind fun q => (match q with
    | .ret r => some r
    | .go _ =>
    (spec_l08Sets t_1 list_3).bind fun r_104 =>
    if (r_104 != 0) then
    some ((⟨0,[]⟩:GRow),r_104)
    else
    (spec_l08SetRow t_1 r_2 list_3).bind fun r_107 =>
    some (r_107.1,r_107.2))
theorem w_spec_SetRow (t_1:GTable) (r_2:GRow) (list_3:(List GSet)) (r:(GRow × Int)) (hf:spec_SetRow t_1 r_2 list_3 = some r):CallOK Tryz.prog 25 .fresh [(encGTable t_1),(encGRow r_2),(.lst 3 (list_3.map encGSet))] (.tup [(encGRow r.1),(.int .i64 r.2)]):=by
 refine CallOK.of_awp mixed Tryz.func25 fc25 nle ?_;rw [argT_eq];unfold spec_SetRow at hf;unfold c25;refine (show awp Tryz.prog true 0 _ (ofL [(0,(encGTable t_1)),(1,(encGRow r_2)),(2,(.lst 3 (list_3.map encGSet)))]) [] _ from ?_);refine sr<|s_do (o_box (j:=0) (c:=(.agg [(.str t_1.Name),(.lst 8 (t_1.Columns.map encGColumn)),(.lst 1 (t_1.Unique.map encI)),(.bool t_1.Root)])) rfl trivial rfl rfl)<|s_do (o_box (j:=1) (c:=(.agg [(.int .i64 r_2.Id),(.lst 1 (r_2.Cells.map (encL 3 encGAtom)))])) rfl trivial rfl rfl)<|s_do (o_box (j:=2) (c:=(.agg [(.int .i64 0),.nil])) rfl trivial rfl rfl)<|s_mov (.int .i64 0) rfl<|dk<|awp_seq<|sr<|s_mov (.lst 3 (list_3.map encGSet)) rfl<|?_
 refine s_dof (o_len (enc:=encGSet) rfl) fun hl4 => s_q (.bool (decide ((list_3.length:Int) > 4096))) rfl rfl rfl<|dk<|?_
 rcases oi hf with ⟨c5,hf⟩ | ⟨c5,hf⟩
 ·refine w_condt rfl c5<|sr<|s_q (.agg [(.int .i64 0),.nil]) rfl trivial rfl<|s_do0 (o_storebox (v:=(.agg [(.int .i64 0),.nil])) (y':=(.agg [(.int .i64 0),.nil])) rfl rfl rfl trivial ⟨rfl,nle⟩ ⟨⟨rfl,trivial⟩,⟨⟨rfl,trivial⟩,trivial⟩⟩ rfl)<|s_mov (.int .i64 2) rfl<|dk<|w_ret<|?_;obtain rfl:=os hf;exact r_fresh ⟨nle,⟨trivial,trivial⟩⟩ rfl (by decide) (.tup (.cons (.agg (.cons (.refl _) (.cons (.nil _) .nil))) (.cons (.refl _) .nil)))
 ·refine w_condf rfl (bf c5)<|w_skip<|k_seq<|awp_seq<|awp_seq<|?_
  obtain ⟨s22_10,hb1,hf⟩:=ob hf
  refine awp_cut ([(2,(.lst 3 (list_3.map encGSet))),(3,(.ptr 0 0 0)),(4,(.ptr 1 0 0)),(6,(.ptr 2 0 0)),(22,(.bool s22_10))],[.box 4 (.agg [(.str t_1.Name),(.lst 8 (t_1.Columns.map encGColumn)),(.lst 1 (t_1.Unique.map encI)),(.bool t_1.Root)]),.box 2 (.agg [(.int .i64 r_2.Id),(.lst 1 (r_2.Cells.map (encL 3 encGAtom)))]),.box 2 (.agg [(.int .i64 0),.nil])]) ?_ ?_
  ·refine w_reg ?_
   obtain ⟨r_12,er13,hb1⟩:=ob hb1
   rcases oi hb1 with ⟨c14,hb1⟩ | ⟨c14,hb1⟩
   ·refine s_q (.agg [(.str t_1.Name),(.lst 8 (t_1.Columns.map encGColumn)),(.lst 1 (t_1.Unique.map encI)),(.bool t_1.Root)]) rfl nle rfl<|s_q (.agg [(.int .i64 r_2.Id),(.lst 1 (r_2.Cells.map (encL 3 encGAtom)))]) rfl nle rfl<|s_do (o_call (w_spec_RowOK _ _ _ er13) rfl (.refl _) rfl)<|s_q (.bool (!r_12)) rfl trivial rfl<|s_mov (.bool (!r_12)) rfl<|s_lit (s:=18) (b:=true) rfl c14<|s_off rfl rfl<|s_off rfl rfl<|s_off rfl rfl<|s_q (.bool true) rfl trivial rfl<|w_done<|?_;obtain rfl:=os hb1;exact ⟨[],[0,1,2],_,_,rfl,rfl,⟨.refl _,⟨.refl _,⟨.refl _,⟨.refl _,⟨.refl _,trivial⟩⟩⟩⟩⟩,(.refl _)⟩
   ·refine s_q (.agg [(.str t_1.Name),(.lst 8 (t_1.Columns.map encGColumn)),(.lst 1 (t_1.Unique.map encI)),(.bool t_1.Root)]) rfl nle rfl<|s_q (.agg [(.int .i64 r_2.Id),(.lst 1 (r_2.Cells.map (encL 3 encGAtom)))]) rfl nle rfl<|s_do (o_call (w_spec_RowOK _ _ _ er13) rfl (.refl _) rfl)<|s_q (.bool (!r_12)) rfl trivial rfl<|s_mov (.bool (!r_12)) rfl<|s_lit (s:=18) (b:=false) rfl (bf c14)<|s_on rfl<|s_mov (.lst 3 (list_3.map encGSet)) rfl<|s_on rfl<|s_dof (o_len (enc:=encGSet) rfl) fun hl15 => s_on rfl<|s_q (.bool (decide ((list_3.length:Int) > 6))) rfl rfl rfl<|s_q (.bool (decide ((list_3.length:Int) > 6))) rfl trivial rfl<|w_done<|?_;obtain rfl:=os hb1;exact ⟨[],[0,1,2],_,_,rfl,rfl,⟨.refl _,⟨.refl _,⟨.refl _,⟨.refl _,⟨.refl _,trivial⟩⟩⟩⟩⟩,(.refl _)⟩
  ·rcases oi hf with ⟨c16,hf⟩ | ⟨c16,hf⟩
   ·refine w_condt rfl c16<|sr<|s_q (.agg [(.int .i64 0),.nil]) rfl trivial rfl<|s_do0 (o_storebox (v:=(.agg [(.int .i64 0),.nil])) (y':=(.agg [(.int .i64 0),.nil])) rfl rfl rfl trivial ⟨rfl,nle⟩ ⟨⟨rfl,trivial⟩,⟨⟨rfl,trivial⟩,trivial⟩⟩ rfl)<|s_mov (.int .i64 1) rfl<|dk<|w_ret<|?_;obtain rfl:=os hf;exact r_fresh ⟨nle,⟨trivial,trivial⟩⟩ rfl (by decide) (.tup (.cons (.agg (.cons (.refl _) (.cons (.nil _) .nil))) (.cons (.refl _) .nil)))
   ·refine w_condf rfl (bf c16)<|w_skip<|k_seq<|awp_seq<|sr<|s_mov (.int .i64 0) rfl<|dk<|?_
    obtain ⟨p83,hb1,hf⟩:=ob hf
    refine awp_cutx (X:={q:Unit // p83 = .go q}) (fun q => ([(2,(.lst 3 (list_3.map encGSet))),(3,(.ptr 0 0 0)),(4,(.ptr 1 0 0)),(6,(.ptr 2 0 0))],[.box 4 (.agg [(.str t_1.Name),(.lst 8 (t_1.Columns.map encGColumn)),(.lst 1 (t_1.Unique.map encI)),(.bool t_1.Root)]),.box 2 (.agg [(.int .i64 r_2.Id),(.lst 1 (r_2.Cells.map (encL 3 encGAtom)))]),.box 2 (.agg [(.int .i64 0),.nil])])) ?_ ?_
    ·refine awp_loop (X:={q:Nat // spec_SetRow_L1 (list_3.drop q)  = some p83}) (fun q => ([(2,(.lst 3 (list_3.map encGSet))),(3,(.ptr 0 0 0)),(4,(.ptr 1 0 0)),(6,(.ptr 2 0 0)),(8,(.int .i64 (q.1:Int)))],[.box 4 (.agg [(.str t_1.Name),(.lst 8 (t_1.Columns.map encGColumn)),(.lst 1 (t_1.Unique.map encI)),(.bool t_1.Root)]),.box 2 (.agg [(.int .i64 r_2.Id),(.lst 1 (r_2.Cells.map (encL 3 encGAtom)))]),.box 2 (.agg [(.int .i64 0),.nil])])) (fun q => list_3.length - q.1) ⟨0,hb1⟩ ⟨[],[0,1,2],_,_,rfl,rfl,⟨.refl _,⟨.refl _,⟨.refl _,⟨.refl _,⟨.refl _,trivial⟩⟩⟩⟩⟩,(.refl _)⟩ ?_
     rintro ⟨i_60,hc1⟩
     have hc1:spec_SetRow_L1 (list_3.drop i_60)  = some p83:=hc1
     refine (show awp Tryz.prog true 0 _ (ofL [(2,(.lst 3 (list_3.map encGSet))),(3,(.ptr 0 0 0)),(4,(.ptr 1 0 0)),(6,(.ptr 2 0 0)),(8,(.int .i64 (i_60:Int)))]) [.box 4 (.agg [(.str t_1.Name),(.lst 8 (t_1.Columns.map encGColumn)),(.lst 1 (t_1.Unique.map encI)),(.bool t_1.Root)]),.box 2 (.agg [(.int .i64 r_2.Id),(.lst 1 (r_2.Cells.map (encL 3 encGAtom)))]),.box 2 (.agg [(.int .i64 0),.nil])] _ from ?_)
     rcases dropc list_3 i_60 with ⟨hie86,hd89⟩ | ⟨hlt84,x_90,hx85,hd89⟩
     ·rw [hd89,spec_SetRow_L1.eq_1] at hc1
      have hq88:=dlf hie86
      refine awp_seq<|sr<|s_mov (.int .i64 (i_60:Int)) rfl<|s_mov (.lst 3 (list_3.map encGSet)) rfl<|s_dof (o_len (enc:=encGSet) rfl) fun hl91 => s_q (.bool (decide ((i_60:Int) < (list_3.length:Int)))) rfl rfl rfl<|dk<|w_condf rfl hq88<|w_exit<|k_seqx<|k_loopx<|k_blkx<|?_;obtain rfl:=os hc1;exact k_cutn ⟨_,rfl⟩ ⟨[],[0,1,2],_,_,rfl,rfl,⟨.refl _,⟨.refl _,⟨.refl _,⟨.refl _,trivial⟩⟩⟩⟩,(.refl _)⟩
     ·rw [hd89,spec_SetRow_L1.eq_2] at hc1
      have hq88:=dlt hlt84
      refine awp_seq<|sr<|s_mov (.int .i64 (i_60:Int)) rfl<|s_mov (.lst 3 (list_3.map encGSet)) rfl<|s_dof (o_len (enc:=encGSet) rfl) fun hl92 => s_q (.bool (decide ((i_60:Int) < (list_3.length:Int)))) rfl rfl rfl<|dk<|w_condt rfl hq88<|w_skip<|k_seq<|awp_seq<|w_blk<|awp_seq<|?_
      obtain ⟨s44_97,hb2,hc1⟩:=ob hc1
      refine awp_cut ([(2,(.lst 3 (list_3.map encGSet))),(3,(.ptr 0 0 0)),(4,(.ptr 1 0 0)),(6,(.ptr 2 0 0)),(8,(.int .i64 (i_60:Int))),(44,(.bool s44_97))],[.box 4 (.agg [(.str t_1.Name),(.lst 8 (t_1.Columns.map encGColumn)),(.lst 1 (t_1.Unique.map encI)),(.bool t_1.Root)]),.box 2 (.agg [(.int .i64 r_2.Id),(.lst 1 (r_2.Cells.map (encL 3 encGAtom)))]),.box 2 (.agg [(.int .i64 0),.nil])]) ?_ ?_
      ·refine w_reg<|s_mov (.lst 3 (list_3.map encGSet)) rfl<|s_mov (.int .i64 (i_60:Int)) rfl<|s_do (o_iaddrn (enc:=encGSet) rfl rfl hx85)<|s_q (encGSet x_90) rfl nle rfl<|?_
       obtain ⟨r_99,er100,hb2⟩:=ob hb2
       refine s_do (o_call (w_spec_l08Set _ _ er100) rfl (.refl _) rfl)<|s_q (.bool (!r_99)) rfl trivial rfl<|s_mov (.bool (!r_99)) rfl<|?_
       rcases oi hb2 with ⟨c101,hb2⟩ | ⟨c101,hb2⟩
       ·refine s_lit (s:=36) (b:=true) rfl c101<|s_off rfl rfl<|s_off rfl rfl<|s_off rfl rfl<|s_off rfl rfl<|s_off rfl rfl<|s_off rfl rfl<|s_off rfl rfl<|s_q (.bool true) rfl trivial rfl<|w_done<|?_;obtain rfl:=os hb2;exact ⟨[],[0,1,2],_,_,rfl,rfl,⟨.refl _,⟨.refl _,⟨.refl _,⟨.refl _,⟨.refl _,⟨.refl _,trivial⟩⟩⟩⟩⟩⟩,(.refl _)⟩
       ·refine s_lit (s:=36) (b:=false) rfl (bf c101)<|s_on rfl<|s_mov (.lst 3 (list_3.map encGSet)) rfl<|s_on rfl<|s_mov (.int .i64 (i_60:Int)) rfl<|s_on rfl<|s_do (o_iaddrn (enc:=encGSet) rfl rfl hx85)<|s_on rfl<|s_q (.iptr (encGSet x_90) 2) rfl trivial rfl<|s_on rfl<|s_q (.lst 1 (x_90.Names.map AV.str)) rfl nle rfl<|s_on rfl<|s_dof (o_len (enc:=AV.str) rfl) fun hl102 => s_on rfl<|s_q (.bool (decide ((x_90.Names.length:Int) > 0))) rfl rfl rfl<|s_q (.bool (decide ((x_90.Names.length:Int) > 0))) rfl trivial rfl<|w_done<|?_;obtain rfl:=os hb2;exact ⟨[],[0,1,2],_,_,rfl,rfl,⟨.refl _,⟨.refl _,⟨.refl _,⟨.refl _,⟨.refl _,⟨.refl _,trivial⟩⟩⟩⟩⟩⟩,(.refl _)⟩
      ·rcases oi hc1 with ⟨c103,hc1⟩ | ⟨c103,hc1⟩
       ·refine w_condt rfl c103<|sr<|s_q (.agg [(.int .i64 0),.nil]) rfl trivial rfl<|s_do0 (o_storebox (v:=(.agg [(.int .i64 0),.nil])) (y':=(.agg [(.int .i64 0),.nil])) rfl rfl rfl trivial ⟨rfl,nle⟩ ⟨⟨rfl,trivial⟩,⟨⟨rfl,trivial⟩,trivial⟩⟩ rfl)<|s_mov (.int .i64 1) rfl<|dk<|w_ret<|?_;obtain rfl:=os hc1;obtain rfl:=os hf;exact r_fresh ⟨nle,⟨trivial,trivial⟩⟩ rfl (by decide) (.tup (.cons (.agg (.cons (.refl _) (.cons (.nil _) .nil))) (.cons (.refl _) .nil)))
       ·refine w_condf rfl (bf c103)<|w_skip<|k_blk<|k_seq<|w_reg<|s_mov (.int .i64 (i_60:Int)) rfl<|s_q (.int .i64 (w64 ((i_60:Int) + 1))) rfl rfl rfl<|s_mov (.int .i64 (w64 ((i_60:Int) + 1))) rfl<|w_done<|?_;exact k_loopn ⟨(i_60 + 1),hc1⟩ (mul hlt84) ⟨[],[0,1,2],_,_,rfl,rfl,⟨.refl _,⟨.refl _,⟨.refl _,⟨.refl _,⟨.of_eq (congrArg (AV.int _) (w64_incr hlt84 hl92)),trivial⟩⟩⟩⟩⟩,(.refl _)⟩
    ·rintro ⟨_,rfl⟩
     refine awp_seq<|sr<|?_
     obtain ⟨r_104,er105,hf⟩:=ob hf
     refine s_q (.agg [(.str t_1.Name),(.lst 8 (t_1.Columns.map encGColumn)),(.lst 1 (t_1.Unique.map encI)),(.bool t_1.Root)]) rfl nle rfl<|s_mov (.lst 3 (list_3.map encGSet)) rfl<|s_do (o_call (w_spec_l08Sets _ _ _ er105) rfl (.refl _) rfl)<|s_mov (.int .i64 r_104) rfl<|dk<|sr<|s_mov (.int .i64 r_104) rfl<|s_q (.bool (r_104 != 0)) rfl rfl rfl<|dk<|?_
     rcases oi hf with ⟨c106,hf⟩ | ⟨c106,hf⟩
     ·refine w_condt rfl c106<|sr<|s_q (.agg [(.int .i64 0),.nil]) rfl trivial rfl<|s_mov (.int .i64 r_104) rfl<|s_do0 (o_storebox (v:=(.agg [(.int .i64 0),.nil])) (y':=(.agg [(.int .i64 0),.nil])) rfl rfl rfl trivial ⟨rfl,nle⟩ ⟨⟨rfl,trivial⟩,⟨⟨rfl,trivial⟩,trivial⟩⟩ rfl)<|s_mov (.int .i64 r_104) rfl<|dk<|w_ret<|?_;obtain rfl:=os hf;exact r_fresh ⟨nle,⟨trivial,trivial⟩⟩ rfl (by decide) (.tup (.cons (.agg (.cons (.refl _) (.cons (.nil _) .nil))) (.cons (.refl _) .nil)))
     ·refine w_condf rfl (bf c106)<|w_skip<|k_seq<|sr<|?_
      obtain ⟨r_107,er108,hf⟩:=ob hf
      refine s_q (.agg [(.str t_1.Name),(.lst 8 (t_1.Columns.map encGColumn)),(.lst 1 (t_1.Unique.map encI)),(.bool t_1.Root)]) rfl nle rfl<|s_q (.agg [(.int .i64 r_2.Id),(.lst 1 (r_2.Cells.map (encL 3 encGAtom)))]) rfl nle rfl<|s_mov (.lst 3 (list_3.map encGSet)) rfl<|s_do (o_callf (v:=(.tup [(.agg [(.int .i64 r_107.1.Id),(.own 3 0 r_107.1.Cells.length)]),(.int .i64 r_107.2)])) (h':=[.row 1 (r_107.1.Cells.map (encL 3 encGAtom))]) (w_spec_l08SetRow _ _ _ _ er108) rfl (.refl _) (by simp only [openV,openVs,List.length_map,encGRow_eq,List.nil_append,List.append_nil,List.cons_append];rfl))<|s_q (.agg [(.int .i64 r_107.1.Id),(.own 3 0 r_107.1.Cells.length)]) rfl nle rfl<|s_q (.int .i64 r_107.2) rfl nle rfl<|?_
      refine s_do0 (o_storebox (v:=(.agg [(.int .i64 r_107.1.Id),(.own 3 0 r_107.1.Cells.length)])) (y':=(.agg [(.int .i64 r_107.1.Id),(.own 3 0 r_107.1.Cells.length)])) rfl rfl rfl trivial ⟨rfl,nle⟩ ⟨⟨rfl,trivial⟩,⟨⟨rfl,trivial⟩,trivial⟩⟩ rfl)<|s_mov (.int .i64 r_107.2) rfl<|dk<|w_ret<|?_;obtain rfl:=os hf;exact r_fresh ⟨nle,⟨trivial,trivial⟩⟩ rfl (by decide) (.tup (.cons (.agg (.cons (.refl _) (.cons (.of_eq (congrArg (AV.lst _) (tk (enc:=(encL 3 encGAtom)) r_107.1.Cells))) .nil))) (.cons (.refl _) .nil)))

/- slices.IndexFunc[[]impl.Set,impl.Set] -/
def c170:ACode :=
 (.seq (.reg (tm 4 (.c (.int .i64 0)) .done))
 (.seq (.seq (.reg (tm 6 (.t 0) (tq 7 (.len (.t 6)) (tm 8 (.c (.int .i64 0)) .done))))
 (.block 0 (.loop (.seq (.reg (tq 9 (.bin .lss (.t 8) (.t 7)) .done))
 (.seq (.cond (.t 9) .skip
 (.exit 0))
 (.seq (.block 1 (.seq (.reg (tm 10 (.t 8) (tm 5 (.t 10) .done)))
 (.seq (.reg (tm 11 (.t 1) (tm 12 (.t 0) (tm 13 (.t 5) (tq 14 (.iaddr 3 (.t 12) (.t 13)) (tq 15 (.load 3 true (.t 14)) (tq 16 (.calv (.t 11) [(.t 15)]) .done)))))))
 (.cond (.t 16) (.seq (.reg (tm 17 (.t 5) (tm 4 (.t 17) .done)))
 .ret)
 .skip))))
 (.reg (tq 18 (.bin .add (.t 8) (.c (.int .i64 1))) (tm 8 (.t 18) .done)))))))))
 (.cut (.seq (.reg (tq 4 (.mov (.c (.int .i64 (-1)))) .done))
 .ret))))
theorem fc170:fcomp Tryz.prog Tryz.f170 = some (c170.erase,[.mov (.t 4)],19):=by kernel_rfl
def slices_IndexFunc_impl_Set_impl_Set_L1 (f_2:(GSet → Option Bool)):List GSet → Nat → Option (Fl Int Unit)
  | [],s8_17 =>
    some (.go ())
  | x_31 :: xs,s8_17 =>
    (f_2 x_31).bind fun r_32 =>
    if r_32 then
    some (.ret (s8_17:Int))
    else
    slices_IndexFunc_impl_Set_impl_Set_L1 f_2 xs (s8_17 + 1)

def slices_IndexFunc_impl_Set_impl_Set (s_1:(List GSet)) (f_2:(GSet → Option Bool)):Option Int :=
    (slices_IndexFunc_impl_Set_impl_Set_L1 f_2 s_1 0).bind fun q => (match q with
    | .ret r => some r
    | .go _ =>
    some (-1))
theorem w_slices_IndexFunc_impl_Set_impl_Set (s_1:(List GSet)) (f_2:(GSet → Option Bool)) (r:Int) (hf:slices_IndexFunc_impl_Set_impl_Set s_1 f_2 = some r) (kf_f_2:Nat) (cf_f_2:List AV) (okf_f_2:okFn Tryz.prog kf_f_2 = true) (hcf_f_2:∀ h p,closeWs h p cf_f_2 = some cf_f_2) (hrf_f_2:∀ f,rens f cf_f_2 = cf_f_2) (hpf_f_2:∀ a0 r,f_2 a0 = some r → CallOK Tryz.prog kf_f_2 .flat ([(encGSet a0)] ++ cf_f_2) (.bool r)):CallOK Tryz.prog 170 .flat [(.lst 3 (s_1.map encGSet)),(.fn kf_f_2 cf_f_2)] (.int .i64 r):=by
 refine CallOK.of_awp mixed Tryz.func170 fc170 nle ?_;rw [argT_eq];unfold slices_IndexFunc_impl_Set_impl_Set at hf;unfold c170;refine (show awp Tryz.prog false 0 _ (ofL [(0,(.lst 3 (s_1.map encGSet))),(1,(.fn kf_f_2 cf_f_2))]) [] _ from ?_);refine sr<|s_mov (.int .i64 0) rfl<|dk<|awp_seq<|sr<|s_mov (.lst 3 (s_1.map encGSet)) rfl<|s_dof (o_len (enc:=encGSet) rfl) fun hl3 => s_mov (.int .i64 0) rfl<|dk<|?_
 obtain ⟨p24,hb1,hf⟩:=ob hf
 refine awp_cutx (X:={q:Unit // p24 = .go q}) (fun q => ([],[])) ?_ ?_
 ·refine awp_loop (X:={q:Nat // slices_IndexFunc_impl_Set_impl_Set_L1 f_2 (s_1.drop q) q = some p24}) (fun q => ([(0,(.lst 3 (s_1.map encGSet))),(1,(.fn kf_f_2 cf_f_2)),(7,(.int .i64 (s_1.length:Int))),(8,(.int .i64 (q.1:Int)))],[])) (fun q => s_1.length - q.1) ⟨0,hb1⟩ ⟨[],[],_,_,rfl,rfl,⟨.refl _,⟨.of_eq (congrArg (AV.fn _) (hrf_f_2 _)),⟨.refl _,⟨.refl _,trivial⟩⟩⟩⟩,(.refl _)⟩ ?_
  rintro ⟨s8_17,hc1⟩
  have hc1:slices_IndexFunc_impl_Set_impl_Set_L1 f_2 (s_1.drop s8_17) s8_17 = some p24:=hc1
  refine (show awp Tryz.prog false 0 _ (ofL [(0,(.lst 3 (s_1.map encGSet))),(1,(.fn kf_f_2 cf_f_2)),(7,(.int .i64 (s_1.length:Int))),(8,(.int .i64 (s8_17:Int)))]) [] _ from ?_)
  rcases dropc s_1 s8_17 with ⟨hie27,hd30⟩ | ⟨hlt25,x_31,hx26,hd30⟩
  ·rw [hd30,slices_IndexFunc_impl_Set_impl_Set_L1.eq_1] at hc1
   have hq29:=dlf hie27
   refine sr<|s_q (.bool (decide ((s8_17:Int) < (s_1.length:Int)))) rfl rfl rfl<|dk<|awp_seq<|w_condf rfl hq29<|w_exit<|k_seqx<|k_loopx<|k_blkx<|?_;obtain rfl:=os hc1;exact k_cutn ⟨_,rfl⟩ ⟨[],[],_,_,rfl,rfl,trivial,(.refl _)⟩
  ·rw [hd30,slices_IndexFunc_impl_Set_impl_Set_L1.eq_2] at hc1
   have hq29:=dlt hlt25
   refine sr<|s_q (.bool (decide ((s8_17:Int) < (s_1.length:Int)))) rfl rfl rfl<|dk<|awp_seq<|w_condt rfl hq29<|w_skip<|k_seq<|awp_seq<|w_blk<|sr<|s_mov (.int .i64 (s8_17:Int)) rfl<|s_mov (.int .i64 (s8_17:Int)) rfl<|dk<|sr<|?_
   obtain ⟨r_32,er33,hc1⟩:=ob hc1
   refine s_mov (.fn kf_f_2 cf_f_2) rfl<|s_mov (.lst 3 (s_1.map encGSet)) rfl<|s_mov (.int .i64 (s8_17:Int)) rfl<|s_do (o_iaddrn (enc:=encGSet) rfl rfl hx26)<|s_q (encGSet x_31) rfl nle rfl<|s_do (o_calvp (v:=(.bool r_32)) rfl okf_f_2 hcf_f_2 (hpf_f_2 _ _ er33) rfl (.refl _) rfl)<|dk<|?_
   rcases oi hc1 with ⟨c34,hc1⟩ | ⟨c34,hc1⟩
   ·refine w_condt rfl c34<|sr<|s_mov (.int .i64 (s8_17:Int)) rfl<|s_mov (.int .i64 (s8_17:Int)) rfl<|dk<|w_ret<|?_;obtain rfl:=os hc1;obtain rfl:=os hf;exact r_flat ⟨trivial,trivial⟩ rfl (.refl _)
   ·refine w_condf rfl (bf c34)<|w_skip<|k_blk<|k_seq<|w_reg<|s_q (.int .i64 (w64 ((s8_17:Int) + 1))) rfl rfl rfl<|s_mov (.int .i64 (w64 ((s8_17:Int) + 1))) rfl<|w_done<|?_;exact k_loopn ⟨(s8_17 + 1),hc1⟩ (mul hlt25) ⟨[],[],_,_,rfl,rfl,⟨.refl _,⟨.of_eq (congrArg (AV.fn _) (hrf_f_2 _)),⟨.refl _,⟨.of_eq (congrArg (AV.int _) (w64_incr hlt25 hl3)),trivial⟩⟩⟩⟩,(.refl _)⟩
 ·rintro ⟨_,rfl⟩
  refine sr<|s_mov (.int .i64 (-1)) rfl<|dk<|w_ret<|?_;obtain rfl:=os hf;exact r_flat ⟨trivial,trivial⟩ rfl (.refl _)

/- slices.ContainsFunc[[]impl.Set,impl.Set] -/
def c90:ACode :=
 (.seq (.reg (tm 4 (.c (.bool false)) .done))
 (.seq (.reg (tm 5 (.t 0) (tm 6 (.t 1) (tq 7 (.call 170 [(.t 5),(.t 6)]) (tq 8 (.bin .geq (.t 7) (.c (.int .i64 0))) (tm 4 (.t 8) .done))))))
 .ret))
theorem fc90:fcomp Tryz.prog Tryz.f90 = some (c90.erase,[.mov (.t 4)],9):=by kernel_rfl
def slices_ContainsFunc_impl_Set_impl_Set (s_1:(List GSet)) (f_2:(GSet → Option Bool)):Option Bool :=
    (slices_IndexFunc_impl_Set_impl_Set s_1 f_2).bind fun r_3 =>
    some (decide (r_3 ≥ 0))
theorem w_slices_ContainsFunc_impl_Set_impl_Set (s_1:(List GSet)) (f_2:(GSet → Option Bool)) (r:Bool) (hf:slices_ContainsFunc_impl_Set_impl_Set s_1 f_2 = some r) (kf_f_2:Nat) (cf_f_2:List AV) (okf_f_2:okFn Tryz.prog kf_f_2 = true) (hcf_f_2:∀ h p,closeWs h p cf_f_2 = some cf_f_2) (hrf_f_2:∀ f,rens f cf_f_2 = cf_f_2) (hpf_f_2:∀ a0 r,f_2 a0 = some r → CallOK Tryz.prog kf_f_2 .flat ([(encGSet a0)] ++ cf_f_2) (.bool r)):CallOK Tryz.prog 90 .flat [(.lst 3 (s_1.map encGSet)),(.fn kf_f_2 cf_f_2)] (.bool r):=by
 refine CallOK.of_awp mixed Tryz.func90 fc90 nle ?_;rw [argT_eq];unfold slices_ContainsFunc_impl_Set_impl_Set at hf;unfold c90;refine (show awp Tryz.prog false 0 _ (ofL [(0,(.lst 3 (s_1.map encGSet))),(1,(.fn kf_f_2 cf_f_2))]) [] _ from ?_);refine sr<|s_mov (.bool false) rfl<|dk<|sr<|?_
 obtain ⟨r_3,er4,hf⟩:=ob hf
 refine s_mov (.lst 3 (s_1.map encGSet)) rfl<|s_mov (.fn kf_f_2 cf_f_2) rfl<|s_do (o_call (w_slices_IndexFunc_impl_Set_impl_Set _ _ _ er4 kf_f_2 cf_f_2 okf_f_2 hcf_f_2 hrf_f_2 hpf_f_2) (cls_cons rfl (cls_cons (cls_fn hcf_f_2) rfl)) (.refl _) rfl)<|s_q (.bool (decide (r_3 ≥ 0))) rfl rfl rfl<|s_mov (.bool (decide (r_3 ≥ 0))) rfl<|dk<|w_ret<|?_;obtain rfl:=os hf;exact r_flat ⟨trivial,trivial⟩ rfl (.refl _)

/- impl.SetRow$1 -/
def c91:ACode :=
 (.seq (.reg (tq 1 (.box 3 (.t 0)) (tm 2 (.c (.bool false)) .done)))
 (.seq (.reg (tq 3 (.faddr 2 (.t 1)) (tq 4 (.load 1 false (.t 3)) (tq 5 (.len (.t 4)) (tq 6 (.bin .gtr (.t 5) (.c (.int .i64 0))) (tm 2 (.t 6) .done))))))
 .ret))
theorem fc91:fcomp Tryz.prog Tryz.f91 = some (c91.erase,[.mov (.t 2)],7):=by kernel_rfl
def impl_SetRow_1 (x_1:GSet):Option Bool :=
    some (decide ((x_1.Names.length:Int) > 0))
theorem w_impl_SetRow_1 (x_1:GSet) (r:Bool) (hf:impl_SetRow_1 x_1 = some r):CallOK Tryz.prog 91 .flat [(encGSet x_1)] (.bool r):=by
  refine CallOK.of_awp mixed Tryz.func91 fc91 nle ?_
  rw [argT_eq]
  unfold impl_SetRow_1 at hf
  unfold c91
  refine (show awp Tryz.prog false 0 _ (ofL [(0,(encGSet x_1))]) [] _ from ?_)
  refine awp_seq ?_
  refine w_reg ?_
  refine s_do (o_box (j:=0) (c:=(.agg [(.str x_1.Column),(.lst 3 (x_1.Value.map encGAtom)),(.lst 1 (x_1.Names.map AV.str))])) rfl trivial rfl rfl) ?_
  refine s_do (o_mov (.bool false) rfl) ?_
  refine w_done ?_
  refine k_seq ?_
  refine awp_seq ?_
  refine w_reg ?_
  refine s_do (o_q (.ptr 0 0 2) rfl trivial rfl) ?_
  refine s_do (o_q (.lst 1 (x_1.Names.map AV.str)) rfl nle rfl) ?_
  refine s_dof (o_len (enc:=AV.str) rfl) fun hl2 => ?_
  refine s_do (o_q (.bool (decide ((x_1.Names.length:Int) > 0))) rfl rfl rfl) ?_
  refine s_do (o_mov (.bool (decide ((x_1.Names.length:Int) > 0))) rfl) ?_
  refine w_done ?_
  refine k_seq ?_
  refine w_ret ?_
  obtain rfl:=os hf
  exact r_flat ⟨trivial,trivial⟩ rfl (.refl _)

/- impl.isList[impl.Set] -/
def c92:ACode :=
 (.seq (.reg (tm 2 (.c (.bool false)) .done))
 (.seq (.reg (tm 3 (.t 0) (tq 4 (.len (.t 3)) (tq 5 (.bin .leq (.t 4) (.c (.int .i64 4096))) (tm 2 (.t 5) .done)))))
 .ret))
theorem fc92:fcomp Tryz.prog Tryz.f92 = some (c92.erase,[.mov (.t 2)],6):=by kernel_rfl
def impl_isList_impl_Set (list_1:(List GSet)):Option Bool :=
    some (decide ((list_1.length:Int) ≤ 4096))
theorem w_impl_isList_impl_Set (list_1:(List GSet)) (r:Bool) (hf:impl_isList_impl_Set list_1 = some r):CallOK Tryz.prog 92 .flat [(.lst 3 (list_1.map encGSet))] (.bool r):=by
  refine CallOK.of_awp mixed Tryz.func92 fc92 nle ?_
  rw [argT_eq]
  unfold impl_isList_impl_Set at hf
  unfold c92
  refine (show awp Tryz.prog false 0 _ (ofL [(0,(.lst 3 (list_1.map encGSet)))]) [] _ from ?_)
  refine awp_seq ?_
  refine w_reg ?_
  refine s_do (o_mov (.bool false) rfl) ?_
  refine w_done ?_
  refine k_seq ?_
  refine awp_seq ?_
  refine w_reg ?_
  refine s_do (o_mov (.lst 3 (list_1.map encGSet)) rfl) ?_
  refine s_dof (o_len (enc:=encGSet) rfl) fun hl2 => ?_
  refine s_do (o_q (.bool (decide ((list_1.length:Int) ≤ 4096))) rfl rfl rfl) ?_
  refine s_do (o_mov (.bool (decide ((list_1.length:Int) ≤ 4096))) rfl) ?_
  refine w_done ?_
  refine k_seq ?_
  refine w_ret ?_
  obtain rfl:=os hf
  exact r_flat ⟨trivial,trivial⟩ rfl (.refl _)

/- slices.IndexFunc[[]string,string] -/
def c144:ACode :=
 (.seq (.reg (tm 4 (.c (.int .i64 0)) .done))
 (.seq (.seq (.reg (tm 6 (.t 0) (tq 7 (.len (.t 6)) (tm 8 (.c (.int .i64 0)) .done))))
 (.block 0 (.loop (.seq (.reg (tq 9 (.bin .lss (.t 8) (.t 7)) .done))
 (.seq (.cond (.t 9) .skip
 (.exit 0))
 (.seq (.block 1 (.seq (.reg (tm 10 (.t 8) (tm 5 (.t 10) .done)))
 (.seq (.reg (tm 11 (.t 1) (tm 12 (.t 0) (tm 13 (.t 5) (tq 14 (.iaddr 1 (.t 12) (.t 13)) (tq 15 (.load 1 false (.t 14)) (tq 16 (.calv (.t 11) [(.t 15)]) .done)))))))
 (.cond (.t 16) (.seq (.reg (tm 17 (.t 5) (tm 4 (.t 17) .done)))
 .ret)
 .skip))))
 (.reg (tq 18 (.bin .add (.t 8) (.c (.int .i64 1))) (tm 8 (.t 18) .done)))))))))
 (.cut (.seq (.reg (tq 4 (.mov (.c (.int .i64 (-1)))) .done))
 .ret))))
theorem fc144:fcomp Tryz.prog Tryz.f144 = some (c144.erase,[.mov (.t 4)],19):=by kernel_rfl
def slices_IndexFunc_string_string_L1 (f_2:(Str → Option Bool)):List Str → Nat → Option (Fl Int Unit)
  | [],s8_17 =>
    some (.go ())
  | x_31 :: xs,s8_17 =>
    (f_2 x_31).bind fun r_32 =>
    if r_32 then
    some (.ret (s8_17:Int))
    else
    slices_IndexFunc_string_string_L1 f_2 xs (s8_17 + 1)

def slices_IndexFunc_string_string (s_1:(List Str)) (f_2:(Str → Option Bool)):Option Int :=
    (slices_IndexFunc_string_string_L1 f_2 s_1 0).bind fun q => (match q with
    | .ret r => some r
    | .go _ =>
    some (-1))
theorem w_slices_IndexFunc_string_string (s_1:(List Str)) (f_2:(Str → Option Bool)) (r:Int) (hf:slices_IndexFunc_string_string s_1 f_2 = some r) (kf_f_2:Nat) (cf_f_2:List AV) (okf_f_2:okFn Tryz.prog kf_f_2 = true) (hcf_f_2:∀ h p,closeWs h p cf_f_2 = some cf_f_2) (hrf_f_2:∀ f,rens f cf_f_2 = cf_f_2) (hpf_f_2:∀ a0 r,f_2 a0 = some r → CallOK Tryz.prog kf_f_2 .flat ([(.str a0)] ++ cf_f_2) (.bool r)):CallOK Tryz.prog 144 .flat [(.lst 1 (s_1.map AV.str)),(.fn kf_f_2 cf_f_2)] (.int .i64 r):=by
 refine CallOK.of_awp mixed Tryz.func144 fc144 nle ?_;rw [argT_eq];unfold slices_IndexFunc_string_string at hf;unfold c144;refine (show awp Tryz.prog false 0 _ (ofL [(0,(.lst 1 (s_1.map AV.str))),(1,(.fn kf_f_2 cf_f_2))]) [] _ from ?_);refine sr<|s_mov (.int .i64 0) rfl<|dk<|awp_seq<|sr<|s_mov (.lst 1 (s_1.map AV.str)) rfl<|s_dof (o_len (enc:=AV.str) rfl) fun hl3 => s_mov (.int .i64 0) rfl<|dk<|?_
 obtain ⟨p24,hb1,hf⟩:=ob hf
 refine awp_cutx (X:={q:Unit // p24 = .go q}) (fun q => ([],[])) ?_ ?_
 ·refine awp_loop (X:={q:Nat // slices_IndexFunc_string_string_L1 f_2 (s_1.drop q) q = some p24}) (fun q => ([(0,(.lst 1 (s_1.map AV.str))),(1,(.fn kf_f_2 cf_f_2)),(7,(.int .i64 (s_1.length:Int))),(8,(.int .i64 (q.1:Int)))],[])) (fun q => s_1.length - q.1) ⟨0,hb1⟩ ⟨[],[],_,_,rfl,rfl,⟨.refl _,⟨.of_eq (congrArg (AV.fn _) (hrf_f_2 _)),⟨.refl _,⟨.refl _,trivial⟩⟩⟩⟩,(.refl _)⟩ ?_
  rintro ⟨s8_17,hc1⟩
  have hc1:slices_IndexFunc_string_string_L1 f_2 (s_1.drop s8_17) s8_17 = some p24:=hc1
  refine (show awp Tryz.prog false 0 _ (ofL [(0,(.lst 1 (s_1.map AV.str))),(1,(.fn kf_f_2 cf_f_2)),(7,(.int .i64 (s_1.length:Int))),(8,(.int .i64 (s8_17:Int)))]) [] _ from ?_)
  rcases dropc s_1 s8_17 with ⟨hie27,hd30⟩ | ⟨hlt25,x_31,hx26,hd30⟩
  ·rw [hd30,slices_IndexFunc_string_string_L1.eq_1] at hc1
   have hq29:=dlf hie27
   refine sr<|s_q (.bool (decide ((s8_17:Int) < (s_1.length:Int)))) rfl rfl rfl<|dk<|awp_seq<|w_condf rfl hq29<|w_exit<|k_seqx<|k_loopx<|k_blkx<|?_;obtain rfl:=os hc1;exact k_cutn ⟨_,rfl⟩ ⟨[],[],_,_,rfl,rfl,trivial,(.refl _)⟩
  ·rw [hd30,slices_IndexFunc_string_string_L1.eq_2] at hc1
   have hq29:=dlt hlt25
   refine sr<|s_q (.bool (decide ((s8_17:Int) < (s_1.length:Int)))) rfl rfl rfl<|dk<|awp_seq<|w_condt rfl hq29<|w_skip<|k_seq<|awp_seq<|w_blk<|sr<|s_mov (.int .i64 (s8_17:Int)) rfl<|s_mov (.int .i64 (s8_17:Int)) rfl<|dk<|sr<|?_
   obtain ⟨r_32,er33,hc1⟩:=ob hc1
   refine s_mov (.fn kf_f_2 cf_f_2) rfl<|s_mov (.lst 1 (s_1.map AV.str)) rfl<|s_mov (.int .i64 (s8_17:Int)) rfl<|s_do (o_iaddrn (enc:=AV.str) rfl rfl hx26)<|s_q (.str x_31) rfl ⟨rfl,rfl⟩ rfl<|s_do (o_calvp (v:=(.bool r_32)) rfl okf_f_2 hcf_f_2 (hpf_f_2 _ _ er33) rfl (.refl _) rfl)<|dk<|?_
   rcases oi hc1 with ⟨c34,hc1⟩ | ⟨c34,hc1⟩
   ·refine w_condt rfl c34<|sr<|s_mov (.int .i64 (s8_17:Int)) rfl<|s_mov (.int .i64 (s8_17:Int)) rfl<|dk<|w_ret<|?_;obtain rfl:=os hc1;obtain rfl:=os hf;exact r_flat ⟨trivial,trivial⟩ rfl (.refl _)
   ·refine w_condf rfl (bf c34)<|w_skip<|k_blk<|k_seq<|w_reg<|s_q (.int .i64 (w64 ((s8_17:Int) + 1))) rfl rfl rfl<|s_mov (.int .i64 (w64 ((s8_17:Int) + 1))) rfl<|w_done<|?_;exact k_loopn ⟨(s8_17 + 1),hc1⟩ (mul hlt25) ⟨[],[],_,_,rfl,rfl,⟨.refl _,⟨.of_eq (congrArg (AV.fn _) (hrf_f_2 _)),⟨.refl _,⟨.of_eq (congrArg (AV.int _) (w64_incr hlt25 hl3)),trivial⟩⟩⟩⟩,(.refl _)⟩
 ·rintro ⟨_,rfl⟩
  refine sr<|s_mov (.int .i64 (-1)) rfl<|dk<|w_ret<|?_;obtain rfl:=os hf;exact r_flat ⟨trivial,trivial⟩ rfl (.refl _)

/- slices.ContainsFunc[[]string,string] -/
def c58:ACode :=
 (.seq (.reg (tm 4 (.c (.bool false)) .done))
 (.seq (.reg (tm 5 (.t 0) (tm 6 (.t 1) (tq 7 (.call 144 [(.t 5),(.t 6)]) (tq 8 (.bin .geq (.t 7) (.c (.int .i64 0))) (tm 4 (.t 8) .done))))))
 .ret))
theorem fc58:fcomp Tryz.prog Tryz.f58 = some (c58.erase,[.mov (.t 4)],9):=by kernel_rfl
def slices_ContainsFunc_string_string (s_1:(List Str)) (f_2:(Str → Option Bool)):Option Bool :=
    (slices_IndexFunc_string_string s_1 f_2).bind fun r_3 =>
    some (decide (r_3 ≥ 0))
theorem w_slices_ContainsFunc_string_string (s_1:(List Str)) (f_2:(Str → Option Bool)) (r:Bool) (hf:slices_ContainsFunc_string_string s_1 f_2 = some r) (kf_f_2:Nat) (cf_f_2:List AV) (okf_f_2:okFn Tryz.prog kf_f_2 = true) (hcf_f_2:∀ h p,closeWs h p cf_f_2 = some cf_f_2) (hrf_f_2:∀ f,rens f cf_f_2 = cf_f_2) (hpf_f_2:∀ a0 r,f_2 a0 = some r → CallOK Tryz.prog kf_f_2 .flat ([(.str a0)] ++ cf_f_2) (.bool r)):CallOK Tryz.prog 58 .flat [(.lst 1 (s_1.map AV.str)),(.fn kf_f_2 cf_f_2)] (.bool r):=by
  refine CallOK.of_awp mixed Tryz.func58 fc58 nle ?_
  rw [argT_eq]
  unfold slices_ContainsFunc_string_string at hf
  unfold c58
  refine (show awp Tryz.prog false 0 _ (ofL [(0,(.lst 1 (s_1.map AV.str))),(1,(.fn kf_f_2 cf_f_2))]) [] _ from ?_)
  refine awp_seq ?_
  refine w_reg ?_
  refine s_do (o_mov (.bool false) rfl) ?_
  refine w_done ?_
  refine k_seq ?_
  refine awp_seq ?_
  refine w_reg ?_
  obtain ⟨r_3,er4,hf⟩:=ob hf
  refine s_do (o_mov (.lst 1 (s_1.map AV.str)) rfl) ?_
  refine s_do (o_mov (.fn kf_f_2 cf_f_2) rfl) ?_
  refine s_do (o_call (w_slices_IndexFunc_string_string _ _ _ er4 kf_f_2 cf_f_2 okf_f_2 hcf_f_2 hrf_f_2 hpf_f_2) (cls_cons rfl (cls_cons (cls_fn hcf_f_2) rfl)) (.refl _) rfl) ?_
  refine s_do (o_q (.bool (decide (r_3 ≥ 0))) rfl rfl rfl) ?_
  refine s_do (o_mov (.bool (decide (r_3 ≥ 0))) rfl) ?_
  refine w_done ?_
  refine k_seq ?_
  refine w_ret ?_
  obtain rfl:=os hf
  exact r_flat ⟨trivial,trivial⟩ rfl (.refl _)

/- impl.areShort$1 -/
def c135:ACode :=
 (.seq (.reg (tm 2 (.c (.bool false)) .done))
 (.seq (.reg (tm 3 (.t 0) (tq 4 (.lenS (.t 3)) (tq 5 (.bin .gtr (.t 4) (.c (.int .i64 40))) (tm 2 (.t 5) .done)))))
 .ret))
theorem fc135:fcomp Tryz.prog Tryz.f135 = some (c135.erase,[.mov (.t 2)],6):=by kernel_rfl
def impl_areShort_1 (t_1:Str):Option Bool :=
    some (decide ((t_1.length:Int) > 40))
theorem w_impl_areShort_1 (t_1:Str) (r:Bool) (hf:impl_areShort_1 t_1 = some r):CallOK Tryz.prog 135 .flat [(.str t_1)] (.bool r):=by
  refine CallOK.of_awp mixed Tryz.func135 fc135 nle ?_
  rw [argT_eq]
  unfold impl_areShort_1 at hf
  unfold c135
  refine (show awp Tryz.prog false 0 _ (ofL [(0,(.str t_1))]) [] _ from ?_)
  refine awp_seq ?_
  refine w_reg ?_
  refine s_do (o_mov (.bool false) rfl) ?_
  refine w_done ?_
  refine k_seq ?_
  refine awp_seq ?_
  refine w_reg ?_
  refine s_do (o_mov (.str t_1) rfl) ?_
  refine s_dof (o_lenS rfl) fun hl2 => ?_
  refine s_do (o_q (.bool (decide ((t_1.length:Int) > 40))) rfl rfl rfl) ?_
  refine s_do (o_mov (.bool (decide ((t_1.length:Int) > 40))) rfl) ?_
  refine w_done ?_
  refine k_seq ?_
  refine w_ret ?_
  obtain rfl:=os hf
  exact r_flat ⟨trivial,trivial⟩ rfl (.refl _)

/- impl.areShort -/
def c53:ACode :=
 (.seq (.reg (tm 2 (.c (.bool false)) .done))
 (.seq (.reg (tm 3 (.t 0) (tq 4 (.call 58 [(.t 3),(.c (.fn 135 []))]) (tq 5 (.not (.t 4)) (tm 2 (.t 5) .done)))))
 .ret))
theorem fc53:fcomp Tryz.prog Tryz.f53 = some (c53.erase,[.mov (.t 2)],6):=by kernel_rfl
def impl_areShort (list_1:(List Str)):Option Bool :=
    (slices_ContainsFunc_string_string list_1 impl_areShort_1).bind fun r_2 =>
    some (!r_2)
theorem w_impl_areShort (list_1:(List Str)) (r:Bool) (hf:impl_areShort list_1 = some r):CallOK Tryz.prog 53 .flat [(.lst 1 (list_1.map AV.str))] (.bool r):=by
  refine CallOK.of_awp mixed Tryz.func53 fc53 nle ?_
  rw [argT_eq]
  unfold impl_areShort at hf
  unfold c53
  refine (show awp Tryz.prog false 0 _ (ofL [(0,(.lst 1 (list_1.map AV.str)))]) [] _ from ?_)
  refine awp_seq ?_
  refine w_reg ?_
  refine s_do (o_mov (.bool false) rfl) ?_
  refine w_done ?_
  refine k_seq ?_
  refine awp_seq ?_
  refine w_reg ?_
  obtain ⟨r_2,er3,hf⟩:=ob hf
  refine s_do (o_mov (.lst 1 (list_1.map AV.str)) rfl) ?_
  refine s_do (o_call (w_slices_ContainsFunc_string_string _ _ _ er3 135 [] (by kernel_rfl) (fun _ _ => rfl) (fun _ => rfl) (fun a0 r h => w_impl_areShort_1 a0 r h)) rfl (.refl _) rfl) ?_
  refine s_do (o_q (.bool (!r_2)) rfl trivial rfl) ?_
  refine s_do (o_mov (.bool (!r_2)) rfl) ?_
  refine w_done ?_
  refine k_seq ?_
  refine w_ret ?_
  obtain rfl:=os hf
  exact r_flat ⟨trivial,trivial⟩ rfl (.refl _)

/- impl.within -/
def c57:ACode :=
 (.seq (.reg (tm 6 (.c (.bool false)) .done))
 (.seq (.reg (tm 7 (.t 0) (tm 8 (.t 1) (tq 9 (.bin .geq (.t 7) (.t 8)) (tm 10 (.t 9) (tg 11 10 true (.mov (.t 0)) (tg 12 10 true (.mov (.t 2)) (tg 13 10 true (.bin .leq (.t 11) (.t 12)) (tq 14 (.pick (.t 10) (.t 13) (.c (.bool false))) (tm 6 (.t 14) .done))))))))))
 .ret))
theorem fc57:fcomp Tryz.prog Tryz.f57 = some (c57.erase,[.mov (.t 6)],15):=by kernel_rfl
def impl_within (n_1:Int) (low_2:Int) (high_3:Int):Option Bool :=
    if (decide (n_1 ≥ low_2)) then
    some (decide (n_1 ≤ high_3))
    else
    some false
theorem w_impl_within (n_1:Int) (low_2:Int) (high_3:Int) (r:Bool) (hf:impl_within n_1 low_2 high_3 = some r):CallOK Tryz.prog 57 .flat [(.int .i64 n_1),(.int .i64 low_2),(.int .i64 high_3)] (.bool r):=by
 refine CallOK.of_awp mixed Tryz.func57 fc57 nle ?_;rw [argT_eq];unfold impl_within at hf;unfold c57;refine (show awp Tryz.prog false 0 _ (ofL [(0,(.int .i64 n_1)),(1,(.int .i64 low_2)),(2,(.int .i64 high_3))]) [] _ from ?_);refine sr<|s_mov (.bool false) rfl<|dk<|sr<|?_
 rcases oi hf with ⟨c4,hf⟩ | ⟨c4,hf⟩
 ·refine s_mov (.int .i64 n_1) rfl<|s_mov (.int .i64 low_2) rfl<|s_q (.bool (decide (n_1 ≥ low_2))) rfl rfl rfl<|s_mov (.bool (decide (n_1 ≥ low_2))) rfl<|s_lit (s:=10) (b:=true) rfl c4<|s_on rfl<|s_mov (.int .i64 n_1) rfl<|s_on rfl<|s_mov (.int .i64 high_3) rfl<|s_on rfl<|s_q (.bool (decide (n_1 ≤ high_3))) rfl rfl rfl<|s_q (.bool (decide (n_1 ≤ high_3))) rfl trivial rfl<|s_mov (.bool (decide (n_1 ≤ high_3))) rfl<|dk<|w_ret<|?_;obtain rfl:=os hf;exact r_flat ⟨trivial,trivial⟩ rfl (.refl _)
 ·refine s_mov (.int .i64 n_1) rfl<|s_mov (.int .i64 low_2) rfl<|s_q (.bool (decide (n_1 ≥ low_2))) rfl rfl rfl<|s_mov (.bool (decide (n_1 ≥ low_2))) rfl<|s_lit (s:=10) (b:=false) rfl (bf c4)<|s_off rfl rfl<|s_off rfl rfl<|s_off rfl rfl<|s_q (.bool false) rfl trivial rfl<|s_mov (.bool false) rfl<|dk<|w_ret<|?_;obtain rfl:=os hf;exact r_flat ⟨trivial,trivial⟩ rfl (.refl _)

/- impl.isNumber -/
def c240:ACode :=
 (.seq (.reg (tm 2 (.c (.bool false)) .done))
 (.seq (.reg (tm 3 (.t 0) (tq 4 (.call 57 [(.t 3),(.c (.int .i64 (-1000000000))),(.c (.int .i64 1000000000))]) (tm 2 (.t 4) .done))))
 .ret))
theorem fc240:fcomp Tryz.prog Tryz.f240 = some (c240.erase,[.mov (.t 2)],5):=by kernel_rfl
def impl_isNumber (n_1:Int):Option Bool :=
    (impl_within n_1 (-1000000000) 1000000000).bind fun r_2 =>
    some r_2
theorem w_impl_isNumber (n_1:Int) (r:Bool) (hf:impl_isNumber n_1 = some r):CallOK Tryz.prog 240 .flat [(.int .i64 n_1)] (.bool r):=by
  refine CallOK.of_awp mixed Tryz.func240 fc240 nle ?_
  rw [argT_eq]
  unfold impl_isNumber at hf
  unfold c240
  refine (show awp Tryz.prog false 0 _ (ofL [(0,(.int .i64 n_1))]) [] _ from ?_)
  refine awp_seq ?_
  refine w_reg ?_
  refine s_do (o_mov (.bool false) rfl) ?_
  refine w_done ?_
  refine k_seq ?_
  refine awp_seq ?_
  refine w_reg ?_
  obtain ⟨r_2,er3,hf⟩:=ob hf
  refine s_do (o_mov (.int .i64 n_1) rfl) ?_
  refine s_do (o_call (w_impl_within _ _ _ _ er3) rfl (.refl _) rfl) ?_
  refine s_do (o_mov (.bool r_2) rfl) ?_
  refine w_done ?_
  refine k_seq ?_
  refine w_ret ?_
  obtain rfl:=os hf
  exact r_flat ⟨trivial,trivial⟩ rfl (.refl _)

/- impl.isPlain -/
def c244:ACode :=
 (.seq (.reg (tm 2 (.c (.bool false)) .done))
 (.seq (.seq (.reg (tm 4 (.t 0) (tq 5 (.lenS (.t 4)) (tm 6 (.c (.int .i64 0)) .done))))
 (.block 0 (.loop (.seq (.reg (tq 7 (.bin .lss (.t 6) (.t 5)) .done))
 (.seq (.cond (.t 7) .skip
 (.exit 0))
 (.seq (.block 1 (.seq (.reg (tm 8 (.t 6) (tm 3 (.t 8) .done)))
 (.seq (.reg (tm 9 (.t 0) (tm 10 (.t 3) (tq 11 (.idxs (.t 9) (.t 10)) (tq 12 (.bin .lss (.t 11) (.c (.int .u8 32))) (tm 13 (.t 12) (tg 14 13 false (.mov (.t 0)) (tg 15 13 false (.mov (.t 3)) (tg 16 13 false (.idxs (.t 14) (.t 15)) (tg 17 13 false (.bin .gtr (.t 16) (.c (.int .u8 126))) (tq 18 (.pick (.t 13) (.c (.bool true)) (.t 17)) .done)))))))))))
 (.cut (.cond (.t 18) (.seq (.reg (tm 2 (.c (.bool false)) .done))
 .ret)
 .skip)))))
 (.reg (tq 19 (.bin .add (.t 6) (.c (.int .i64 1))) (tm 6 (.t 19) .done)))))))))
 (.cut (.seq (.reg (tm 20 (.t 0) (tq 21 (.lenS (.t 20)) (tq 22 (.bin .leq (.t 21) (.c (.int .i64 200))) (tm 2 (.t 22) .done)))))
 .ret))))
theorem fc244:fcomp Tryz.prog Tryz.f244 = some (c244.erase,[.mov (.t 2)],23):=by kernel_rfl
def impl_isPlain_L1 :List UInt8 → Option (Fl Bool Unit)
  | [] =>
    some (.go ())
  | x_54 :: xs =>
    ((if (decide ((x_54.toNat:Int) < 32)) then
    some true
    else
    some (decide ((x_54.toNat:Int) > 126)):Option Bool)).bind fun s18_56 =>
    if s18_56 then
    some (.ret false)
    else
    impl_isPlain_L1 xs 

def impl_isPlain (t_1:Str):Option Bool :=
    (impl_isPlain_L1 t_1 ).bind fun q => (match q with
    | .ret r => some r
    | .go _ =>
    some (decide ((t_1.length:Int) ≤ 200)))
theorem w_impl_isPlain (t_1:Str) (r:Bool) (hf:impl_isPlain t_1 = some r):CallOK Tryz.prog 244 .flat [(.str t_1)] (.bool r):=by
 refine CallOK.of_awp mixed Tryz.func244 fc244 nle ?_;rw [argT_eq];unfold impl_isPlain at hf;unfold c244;refine (show awp Tryz.prog false 0 _ (ofL [(0,(.str t_1))]) [] _ from ?_);refine sr<|s_mov (.bool false) rfl<|dk<|awp_seq<|sr<|s_mov (.str t_1) rfl<|s_dof (o_lenS rfl) fun hl2 => s_mov (.int .i64 0) rfl<|dk<|?_
 obtain ⟨p47,hb1,hf⟩:=ob hf
 refine awp_cutx (X:={q:Unit // p47 = .go q}) (fun q => ([(0,(.str t_1))],[])) ?_ ?_
 ·refine awp_loop (X:={q:Nat // impl_isPlain_L1 (t_1.drop q)  = some p47}) (fun q => ([(0,(.str t_1)),(5,(.int .i64 (t_1.length:Int))),(6,(.int .i64 (q.1:Int)))],[])) (fun q => t_1.length - q.1) ⟨0,hb1⟩ ⟨[],[],_,_,rfl,rfl,⟨.refl _,⟨.refl _,⟨.refl _,trivial⟩⟩⟩,(.refl _)⟩ ?_
  rintro ⟨s6_32,hc1⟩
  have hc1:impl_isPlain_L1 (t_1.drop s6_32)  = some p47:=hc1
  refine (show awp Tryz.prog false 0 _ (ofL [(0,(.str t_1)),(5,(.int .i64 (t_1.length:Int))),(6,(.int .i64 (s6_32:Int)))]) [] _ from ?_)
  rcases dropc t_1 s6_32 with ⟨hie50,hd53⟩ | ⟨hlt48,x_54,hx49,hd53⟩
  ·rw [hd53,impl_isPlain_L1.eq_1] at hc1
   have hq52:=dlf hie50
   refine sr<|s_q (.bool (decide ((s6_32:Int) < (t_1.length:Int)))) rfl rfl rfl<|dk<|awp_seq<|w_condf rfl hq52<|w_exit<|k_seqx<|k_loopx<|k_blkx<|?_;obtain rfl:=os hc1;exact k_cutn ⟨_,rfl⟩ ⟨[],[],_,_,rfl,rfl,⟨.refl _,trivial⟩,(.refl _)⟩
  ·rw [hd53,impl_isPlain_L1.eq_2] at hc1
   have hq52:=dlt hlt48
   refine sr<|s_q (.bool (decide ((s6_32:Int) < (t_1.length:Int)))) rfl rfl rfl<|dk<|awp_seq<|w_condt rfl hq52<|w_skip<|k_seq<|awp_seq<|w_blk<|sr<|s_mov (.int .i64 (s6_32:Int)) rfl<|s_mov (.int .i64 (s6_32:Int)) rfl<|dk<|awp_seq<|?_
   obtain ⟨s18_56,hb2,hc1⟩:=ob hc1
   refine awp_cut ([(0,(.str t_1)),(5,(.int .i64 (t_1.length:Int))),(6,(.int .i64 (s6_32:Int))),(18,(.bool s18_56))],[]) ?_ ?_
   ·refine w_reg ?_
    rcases oi hb2 with ⟨c58,hb2⟩ | ⟨c58,hb2⟩
    ·refine s_mov (.str t_1) rfl<|s_mov (.int .i64 (s6_32:Int)) rfl<|s_do (o_idxsn rfl rfl hx49)<|s_q (.bool (decide ((x_54.toNat:Int) < 32))) rfl rfl rfl<|s_mov (.bool (decide ((x_54.toNat:Int) < 32))) rfl<|s_lit (s:=13) (b:=true) rfl c58<|s_off rfl rfl<|s_off rfl rfl<|s_off rfl rfl<|s_off rfl rfl<|s_q (.bool true) rfl trivial rfl<|w_done<|?_;obtain rfl:=os hb2;exact ⟨[],[],_,_,rfl,rfl,⟨.refl _,⟨.refl _,⟨.refl _,⟨.refl _,trivial⟩⟩⟩⟩,(.refl _)⟩
    ·refine s_mov (.str t_1) rfl<|s_mov (.int .i64 (s6_32:Int)) rfl<|s_do (o_idxsn rfl rfl hx49)<|s_q (.bool (decide ((x_54.toNat:Int) < 32))) rfl rfl rfl<|s_mov (.bool (decide ((x_54.toNat:Int) < 32))) rfl<|s_lit (s:=13) (b:=false) rfl (bf c58)<|s_on rfl<|s_mov (.str t_1) rfl<|s_on rfl<|s_mov (.int .i64 (s6_32:Int)) rfl<|s_on rfl<|s_do (o_idxsn rfl rfl hx49)<|s_on rfl<|s_q (.bool (decide ((x_54.toNat:Int) > 126))) rfl rfl rfl<|s_q (.bool (decide ((x_54.toNat:Int) > 126))) rfl trivial rfl<|w_done<|?_;obtain rfl:=os hb2;exact ⟨[],[],_,_,rfl,rfl,⟨.refl _,⟨.refl _,⟨.refl _,⟨.refl _,trivial⟩⟩⟩⟩,(.refl _)⟩
   ·rcases oi hc1 with ⟨c59,hc1⟩ | ⟨c59,hc1⟩
    ·refine w_condt rfl c59<|sr<|s_mov (.bool false) rfl<|dk<|w_ret<|?_;obtain rfl:=os hc1;obtain rfl:=os hf;exact r_flat ⟨trivial,trivial⟩ rfl (.refl _)
    ·refine w_condf rfl (bf c59)<|w_skip<|k_blk<|k_seq<|w_reg<|s_q (.int .i64 (w64 ((s6_32:Int) + 1))) rfl rfl rfl<|s_mov (.int .i64 (w64 ((s6_32:Int) + 1))) rfl<|w_done<|?_;exact k_loopn ⟨(s6_32 + 1),hc1⟩ (mul hlt48) ⟨[],[],_,_,rfl,rfl,⟨.refl _,⟨.refl _,⟨.of_eq (congrArg (AV.int _) (w64_incr hlt48 hl2)),trivial⟩⟩⟩,(.refl _)⟩
 ·rintro ⟨_,rfl⟩
  refine sr<|s_mov (.str t_1) rfl<|s_dof (o_lenS rfl) fun hl60 => s_q (.bool (decide ((t_1.length:Int) ≤ 200))) rfl rfl rfl<|s_mov (.bool (decide ((t_1.length:Int) ≤ 200))) rfl<|dk<|w_ret<|?_;obtain rfl:=os hf;exact r_flat ⟨trivial,trivial⟩ rfl (.refl _)

/- impl.isId -/
def c71:ACode :=
 (.seq (.reg (tm 2 (.c (.bool false)) .done))
 (.seq (.reg (tm 3 (.t 0) (tq 4 (.call 57 [(.t 3),(.c (.int .i64 1)),(.c (.int .i64 1000000))]) (tm 2 (.t 4) .done))))
 .ret))
theorem fc71:fcomp Tryz.prog Tryz.f71 = some (c71.erase,[.mov (.t 2)],5):=by kernel_rfl
def impl_isId (n_1:Int):Option Bool :=
    (impl_within n_1 1 1000000).bind fun r_2 =>
    some r_2
theorem w_impl_isId (n_1:Int) (r:Bool) (hf:impl_isId n_1 = some r):CallOK Tryz.prog 71 .flat [(.int .i64 n_1)] (.bool r):=by
  refine CallOK.of_awp mixed Tryz.func71 fc71 nle ?_
  rw [argT_eq]
  unfold impl_isId at hf
  unfold c71
  refine (show awp Tryz.prog false 0 _ (ofL [(0,(.int .i64 n_1))]) [] _ from ?_)
  refine awp_seq ?_
  refine w_reg ?_
  refine s_do (o_mov (.bool false) rfl) ?_
  refine w_done ?_
  refine k_seq ?_
  refine awp_seq ?_
  refine w_reg ?_
  obtain ⟨r_2,er3,hf⟩:=ob hf
  refine s_do (o_mov (.int .i64 n_1) rfl) ?_
  refine s_do (o_call (w_impl_within _ _ _ _ er3) rfl (.refl _) rfl) ?_
  refine s_do (o_mov (.bool r_2) rfl) ?_
  refine w_done ?_
  refine k_seq ?_
  refine w_ret ?_
  obtain rfl:=os hf
  exact r_flat ⟨trivial,trivial⟩ rfl (.refl _)

/- impl.AtomOK -/
def c214:ACode :=
 (.seq (.reg (tq 1 (.box 3 (.t 0)) (tm 2 (.c (.bool false)) .done)))
 (.seq (.seq (.reg (tq 3 (.faddr 0 (.t 1)) (tq 4 (.load 1 false (.t 3)) .done)))
 (.block 0 (.seq (.reg (tq 6 (.bin .eql (.t 4) (.c (.int .i64 1))) (tm 5 (.t 6) .done)))
 (.cond (.t 5) (.seq (.reg (tq 7 (.faddr 1 (.t 1)) (tq 8 (.load 1 false (.t 7)) (tq 9 (.call 240 [(.t 8)]) (tm 10 (.t 9) (tg 11 10 true (.faddr 2 (.t 1)) (tg 12 10 true (.load 1 false (.t 11)) (tg 13 10 true (.bin .eql (.t 12) (.c (.str []))) (tq 14 (.pick (.t 10) (.t 13) (.c (.bool false))) (tm 2 (.t 14) .done))))))))))
 .ret)
 (.seq (.reg (tq 16 (.bin .eql (.t 4) (.c (.int .i64 2))) (tm 15 (.t 16) .done)))
 (.cond (.t 15) (.seq (.reg (tq 17 (.faddr 1 (.t 1)) (tq 18 (.load 1 false (.t 17)) (tq 19 (.bin .eql (.t 18) (.c (.int .i64 0))) (tm 20 (.t 19) (tg 21 20 true (.faddr 2 (.t 1)) (tg 22 20 true (.load 1 false (.t 21)) (tg 23 20 true (.call 244 [(.t 22)]) (tq 24 (.pick (.t 20) (.t 23) (.c (.bool false))) (tm 2 (.t 24) .done))))))))))
 .ret)
 (.seq (.reg (tq 26 (.bin .eql (.t 4) (.c (.int .i64 3))) (tm 25 (.t 26) .done)))
 (.cond (.t 25) (.seq (.reg (tq 27 (.faddr 1 (.t 1)) (tq 28 (.load 1 false (.t 27)) (tq 29 (.call 57 [(.t 28),(.c (.int .i64 0)),(.c (.int .i64 1))]) (tm 30 (.t 29) (tg 31 30 true (.faddr 2 (.t 1)) (tg 32 30 true (.load 1 false (.t 31)) (tg 33 30 true (.bin .eql (.t 32) (.c (.str []))) (tq 34 (.pick (.t 30) (.t 33) (.c (.bool false))) (tm 2 (.t 34) .done))))))))))
 .ret)
 (.seq (.reg (tq 36 (.bin .eql (.t 4) (.c (.int .i64 4))) (tm 35 (.t 36) .done)))
 (.cond (.t 35) (.seq (.reg (tq 37 (.faddr 1 (.t 1)) (tq 38 (.load 1 false (.t 37)) (tq 39 (.call 71 [(.t 38)]) (tm 40 (.t 39) (tg 41 40 true (.faddr 2 (.t 1)) (tg 42 40 true (.load 1 false (.t 41)) (tg 43 40 true (.bin .eql (.t 42) (.c (.str []))) (tq 44 (.pick (.t 40) (.t 43) (.c (.bool false))) (tm 2 (.t 44) .done))))))))))
 .ret)
 .skip))))))))))
 (.seq (.reg (tm 2 (.c (.bool false)) .done))
 .ret)))
theorem fc214:fcomp Tryz.prog Tryz.f214 = some (c214.erase,[.mov (.t 2)],45):=by kernel_rfl
def impl_AtomOK (a_1:GAtom):Option Bool :=
    if (a_1.Kind == 1) then
    (impl_isNumber a_1.N).bind fun r_3 =>
    if r_3 then
    some (a_1.T == [])
    else
    some false
    else
    if (a_1.Kind == 2) then
    if (a_1.N == 0) then
    (impl_isPlain a_1.T).bind fun r_8 =>
    some r_8
    else
    some false
    else
    if (a_1.Kind == 3) then
    (impl_within a_1.N 0 1).bind fun r_11 =>
    if r_11 then
    some (a_1.T == [])
    else
    some false
    else
    if (a_1.Kind == 4) then
    (impl_isId a_1.N).bind fun r_15 =>
    if r_15 then
    some (a_1.T == [])
    else
    some false
    else
    some false
theorem w_impl_AtomOK (a_1:GAtom) (r:Bool) (hf:impl_AtomOK a_1 = some r):CallOK Tryz.prog 214 .flat [(encGAtom a_1)] (.bool r):=by
 refine CallOK.of_awp mixed Tryz.func214 fc214 nle ?_;rw [argT_eq];unfold impl_AtomOK at hf;unfold c214;refine (show awp Tryz.prog false 0 _ (ofL [(0,(encGAtom a_1))]) [] _ from ?_);refine sr<|s_do (o_box (j:=0) (c:=(.agg [(.int .i64 a_1.Kind),(.int .i64 a_1.N),(.str a_1.T)])) rfl trivial rfl rfl)<|s_mov (.bool false) rfl<|dk<|awp_seq<|sr<|s_q (.ptr 0 0 0) rfl trivial rfl<|s_q (.int .i64 a_1.Kind) rfl nle rfl<|dk<|w_blk<|sr<|s_q (.bool (a_1.Kind == 1)) rfl rfl rfl<|s_mov (.bool (a_1.Kind == 1)) rfl<|dk<|?_
 rcases oi hf with ⟨c2,hf⟩ | ⟨c2,hf⟩
 ·refine w_condt rfl c2<|sr<|?_
  obtain ⟨r_3,er4,hf⟩:=ob hf
  rcases oi hf with ⟨c5,hf⟩ | ⟨c5,hf⟩
  ·refine s_q (.ptr 0 0 1) rfl trivial rfl<|s_q (.int .i64 a_1.N) rfl nle rfl<|s_do (o_call (w_impl_isNumber _ _ er4) rfl (.refl _) rfl)<|s_mov (.bool r_3) rfl<|s_lit (s:=10) (b:=true) rfl c5<|s_on rfl<|s_q (.ptr 0 0 2) rfl trivial rfl<|s_on rfl<|s_q (.str a_1.T) rfl nle rfl<|s_on rfl<|s_q (.bool (a_1.T == [])) rfl trivial rfl<|s_q (.bool (a_1.T == [])) rfl trivial rfl<|s_mov (.bool (a_1.T == [])) rfl<|dk<|w_ret<|?_;obtain rfl:=os hf;exact r_flat ⟨trivial,trivial⟩ rfl (.refl _)
  ·refine s_q (.ptr 0 0 1) rfl trivial rfl<|s_q (.int .i64 a_1.N) rfl nle rfl<|s_do (o_call (w_impl_isNumber _ _ er4) rfl (.refl _) rfl)<|s_mov (.bool r_3) rfl<|s_lit (s:=10) (b:=false) rfl (bf c5)<|s_off rfl rfl<|s_off rfl rfl<|s_off rfl rfl<|s_q (.bool false) rfl trivial rfl<|s_mov (.bool false) rfl<|dk<|w_ret<|?_;obtain rfl:=os hf;exact r_flat ⟨trivial,trivial⟩ rfl (.refl _)
 ·refine w_condf rfl (bf c2)<|sr<|s_q (.bool (a_1.Kind == 2)) rfl rfl rfl<|s_mov (.bool (a_1.Kind == 2)) rfl<|dk<|?_
  rcases oi hf with ⟨c6,hf⟩ | ⟨c6,hf⟩
  ·refine w_condt rfl c6<|sr<|?_
   rcases oi hf with ⟨c7,hf⟩ | ⟨c7,hf⟩
   ·obtain ⟨r_8,er9,hf⟩:=ob hf
    refine s_q (.ptr 0 0 1) rfl trivial rfl<|s_q (.int .i64 a_1.N) rfl nle rfl<|s_q (.bool (a_1.N == 0)) rfl rfl rfl<|s_mov (.bool (a_1.N == 0)) rfl<|s_lit (s:=20) (b:=true) rfl c7<|s_on rfl<|s_q (.ptr 0 0 2) rfl trivial rfl<|s_on rfl<|s_q (.str a_1.T) rfl nle rfl<|s_on rfl<|s_do (o_call (w_impl_isPlain _ _ er9) rfl (.refl _) rfl)<|s_q (.bool r_8) rfl trivial rfl<|s_mov (.bool r_8) rfl<|dk<|w_ret<|?_;obtain rfl:=os hf;exact r_flat ⟨trivial,trivial⟩ rfl (.refl _)
   ·refine s_q (.ptr 0 0 1) rfl trivial rfl<|s_q (.int .i64 a_1.N) rfl nle rfl<|s_q (.bool (a_1.N == 0)) rfl rfl rfl<|s_mov (.bool (a_1.N == 0)) rfl<|s_lit (s:=20) (b:=false) rfl (bf c7)<|s_off rfl rfl<|s_off rfl rfl<|s_off rfl rfl<|s_q (.bool false) rfl trivial rfl<|s_mov (.bool false) rfl<|dk<|w_ret<|?_;obtain rfl:=os hf;exact r_flat ⟨trivial,trivial⟩ rfl (.refl _)
  ·refine w_condf rfl (bf c6)<|sr<|s_q (.bool (a_1.Kind == 3)) rfl rfl rfl<|s_mov (.bool (a_1.Kind == 3)) rfl<|dk<|?_
   rcases oi hf with ⟨c10,hf⟩ | ⟨c10,hf⟩
   ·refine w_condt rfl c10<|sr<|?_
    obtain ⟨r_11,er12,hf⟩:=ob hf
    rcases oi hf with ⟨c13,hf⟩ | ⟨c13,hf⟩
    ·refine s_q (.ptr 0 0 1) rfl trivial rfl<|s_q (.int .i64 a_1.N) rfl nle rfl<|s_do (o_call (w_impl_within _ _ _ _ er12) rfl (.refl _) rfl)<|s_mov (.bool r_11) rfl<|s_lit (s:=30) (b:=true) rfl c13<|s_on rfl<|s_q (.ptr 0 0 2) rfl trivial rfl<|s_on rfl<|s_q (.str a_1.T) rfl nle rfl<|s_on rfl<|s_q (.bool (a_1.T == [])) rfl trivial rfl<|s_q (.bool (a_1.T == [])) rfl trivial rfl<|s_mov (.bool (a_1.T == [])) rfl<|dk<|w_ret<|?_;obtain rfl:=os hf;exact r_flat ⟨trivial,trivial⟩ rfl (.refl _)
    ·refine s_q (.ptr 0 0 1) rfl trivial rfl<|s_q (.int .i64 a_1.N) rfl nle rfl<|s_do (o_call (w_impl_within _ _ _ _ er12) rfl (.refl _) rfl)<|s_mov (.bool r_11) rfl<|s_lit (s:=30) (b:=false) rfl (bf c13)<|s_off rfl rfl<|s_off rfl rfl<|s_off rfl rfl<|s_q (.bool false) rfl trivial rfl<|s_mov (.bool false) rfl<|dk<|w_ret<|?_;obtain rfl:=os hf;exact r_flat ⟨trivial,trivial⟩ rfl (.refl _)
   ·refine w_condf rfl (bf c10)<|sr<|s_q (.bool (a_1.Kind == 4)) rfl rfl rfl<|s_mov (.bool (a_1.Kind == 4)) rfl<|dk<|?_
    rcases oi hf with ⟨c14,hf⟩ | ⟨c14,hf⟩
    ·refine w_condt rfl c14<|sr<|?_
     obtain ⟨r_15,er16,hf⟩:=ob hf
     rcases oi hf with ⟨c17,hf⟩ | ⟨c17,hf⟩
     ·refine s_q (.ptr 0 0 1) rfl trivial rfl<|s_q (.int .i64 a_1.N) rfl nle rfl<|s_do (o_call (w_impl_isId _ _ er16) rfl (.refl _) rfl)<|s_mov (.bool r_15) rfl<|s_lit (s:=40) (b:=true) rfl c17<|s_on rfl<|s_q (.ptr 0 0 2) rfl trivial rfl<|s_on rfl<|s_q (.str a_1.T) rfl nle rfl<|s_on rfl<|s_q (.bool (a_1.T == [])) rfl trivial rfl<|s_q (.bool (a_1.T == [])) rfl trivial rfl<|s_mov (.bool (a_1.T == [])) rfl<|dk<|w_ret<|?_;obtain rfl:=os hf;exact r_flat ⟨trivial,trivial⟩ rfl (.refl _)
     ·refine s_q (.ptr 0 0 1) rfl trivial rfl<|s_q (.int .i64 a_1.N) rfl nle rfl<|s_do (o_call (w_impl_isId _ _ er16) rfl (.refl _) rfl)<|s_mov (.bool r_15) rfl<|s_lit (s:=40) (b:=false) rfl (bf c17)<|s_off rfl rfl<|s_off rfl rfl<|s_off rfl rfl<|s_q (.bool false) rfl trivial rfl<|s_mov (.bool false) rfl<|dk<|w_ret<|?_;obtain rfl:=os hf;exact r_flat ⟨trivial,trivial⟩ rfl (.refl _)
    ·refine w_condf rfl (bf c14)<|w_skip<|k_blk<|k_seq<|sr<|s_mov (.bool false) rfl<|dk<|w_ret<|?_;obtain rfl:=os hf;exact r_flat ⟨trivial,trivial⟩ rfl (.refl _)

/- cmp.isNaN[int] -/
def c254:ACode :=
 (.seq (.reg (tm 2 (.c (.bool false)) .done))
 (.seq (.reg (tm 3 (.t 0) (tm 4 (.t 0) (tq 5 (.bin .neq (.t 3) (.t 4)) (tm 2 (.t 5) .done)))))
 .ret))
theorem fc254:fcomp Tryz.prog Tryz.f254 = some (c254.erase,[.mov (.t 2)],6):=by kernel_rfl
def cmp_isNaN_int (x_1:Int):Option Bool :=
    some (x_1 != x_1)
theorem w_cmp_isNaN_int (x_1:Int) (r:Bool) (hf:cmp_isNaN_int x_1 = some r):CallOK Tryz.prog 254 .flat [(.int .i64 x_1)] (.bool r):=by
  refine CallOK.of_awp mixed Tryz.func254 fc254 nle ?_
  rw [argT_eq]
  unfold cmp_isNaN_int at hf
  unfold c254
  refine (show awp Tryz.prog false 0 _ (ofL [(0,(.int .i64 x_1))]) [] _ from ?_)
  refine awp_seq ?_
  refine w_reg ?_
  refine s_do (o_mov (.bool false) rfl) ?_
  refine w_done ?_
  refine k_seq ?_
  refine awp_seq ?_
  refine w_reg ?_
  refine s_do (o_mov (.int .i64 x_1) rfl) ?_
  refine s_do (o_mov (.int .i64 x_1) rfl) ?_
  refine s_do (o_q (.bool (x_1 != x_1)) rfl rfl rfl) ?_
  refine s_do (o_mov (.bool (x_1 != x_1)) rfl) ?_
  refine w_done ?_
  refine k_seq ?_
  refine w_ret ?_
  obtain rfl:=os hf
  exact r_flat ⟨trivial,trivial⟩ rfl (.refl _)

/- cmp.Compare[int] -/
def c246:ACode :=
 (.seq (.reg (tm 4 (.c (.int .i64 0)) .done))
 (.seq (.reg (tm 7 (.t 0) (tq 8 (.call 254 [(.t 7)]) (tm 5 (.t 8) .done))))
 (.seq (.reg (tm 9 (.t 1) (tq 10 (.call 254 [(.t 9)]) (tm 6 (.t 10) .done))))
 (.seq (.seq (.reg (tm 11 (.t 5) .done))
 (.cond (.t 11) (.seq (.seq (.reg (tm 12 (.t 6) .done))
 (.cond (.t 12) (.seq (.reg (tm 4 (.c (.int .i64 0)) .done))
 .ret)
 .skip))
 (.seq (.reg (tq 4 (.mov (.c (.int .i64 (-1)))) .done))
 .ret))
 .skip))
 (.seq (.seq (.reg (tm 13 (.t 6) .done))
 (.cond (.t 13) (.seq (.reg (tm 4 (.c (.int .i64 1)) .done))
 .ret)
 .skip))
 (.seq (.seq (.reg (tm 14 (.t 0) (tm 15 (.t 1) (tq 16 (.bin .lss (.t 14) (.t 15)) .done))))
 (.cond (.t 16) (.seq (.reg (tq 4 (.mov (.c (.int .i64 (-1)))) .done))
 .ret)
 .skip))
 (.seq (.seq (.reg (tm 17 (.t 0) (tm 18 (.t 1) (tq 19 (.bin .gtr (.t 17) (.t 18)) .done))))
 (.cond (.t 19) (.seq (.reg (tm 4 (.c (.int .i64 1)) .done))
 .ret)
 .skip))
 (.seq (.reg (tm 4 (.c (.int .i64 0)) .done))
 .ret))))))))
theorem fc246:fcomp Tryz.prog Tryz.f246 = some (c246.erase,[.mov (.t 4)],20):=by kernel_rfl
def cmp_Compare_int (x_1:Int) (y_2:Int):Option Int :=
    (cmp_isNaN_int x_1).bind fun r_3 =>
    (cmp_isNaN_int y_2).bind fun r_5 =>
    if r_3 then
    if r_5 then
    some 0
    else
    some (-1)
    else
    if r_5 then
    some 1
    else
    if (decide (x_1 < y_2)) then
    some (-1)
    else
    if (decide (x_1 > y_2)) then
    some 1
    else
    some 0
theorem w_cmp_Compare_int (x_1:Int) (y_2:Int) (r:Int) (hf:cmp_Compare_int x_1 y_2 = some r):CallOK Tryz.prog 246 .flat [(.int .i64 x_1),(.int .i64 y_2)] (.int .i64 r):=by
 refine CallOK.of_awp mixed Tryz.func246 fc246 nle ?_;rw [argT_eq];unfold cmp_Compare_int at hf;unfold c246;refine (show awp Tryz.prog false 0 _ (ofL [(0,(.int .i64 x_1)),(1,(.int .i64 y_2))]) [] _ from ?_);refine sr<|s_mov (.int .i64 0) rfl<|dk<|sr<|?_
 obtain ⟨r_3,er4,hf⟩:=ob hf
 refine s_mov (.int .i64 x_1) rfl<|s_do (o_call (w_cmp_isNaN_int _ _ er4) rfl (.refl _) rfl)<|s_mov (.bool r_3) rfl<|dk<|sr<|?_
 obtain ⟨r_5,er6,hf⟩:=ob hf
 refine s_mov (.int .i64 y_2) rfl<|s_do (o_call (w_cmp_isNaN_int _ _ er6) rfl (.refl _) rfl)<|s_mov (.bool r_5) rfl<|dk<|awp_seq<|sr<|s_mov (.bool r_3) rfl<|dk<|?_
 rcases oi hf with ⟨c7,hf⟩ | ⟨c7,hf⟩
 ·refine w_condt rfl c7<|awp_seq<|sr<|s_mov (.bool r_5) rfl<|dk<|?_
  rcases oi hf with ⟨c8,hf⟩ | ⟨c8,hf⟩
  ·refine w_condt rfl c8<|sr<|s_mov (.int .i64 0) rfl<|dk<|w_ret<|?_;obtain rfl:=os hf;exact r_flat ⟨trivial,trivial⟩ rfl (.refl _)
  ·refine w_condf rfl (bf c8)<|w_skip<|k_seq<|sr<|s_mov (.int .i64 (-1)) rfl<|dk<|w_ret<|?_;obtain rfl:=os hf;exact r_flat ⟨trivial,trivial⟩ rfl (.refl _)
 ·refine w_condf rfl (bf c7)<|w_skip<|k_seq<|awp_seq<|sr<|s_mov (.bool r_5) rfl<|dk<|?_
  rcases oi hf with ⟨c9,hf⟩ | ⟨c9,hf⟩
  ·refine w_condt rfl c9<|sr<|s_mov (.int .i64 1) rfl<|dk<|w_ret<|?_;obtain rfl:=os hf;exact r_flat ⟨trivial,trivial⟩ rfl (.refl _)
  ·refine w_condf rfl (bf c9)<|w_skip<|k_seq<|awp_seq<|sr<|s_mov (.int .i64 x_1) rfl<|s_mov (.int .i64 y_2) rfl<|s_q (.bool (decide (x_1 < y_2))) rfl rfl rfl<|dk<|?_
   rcases oi hf with ⟨c10,hf⟩ | ⟨c10,hf⟩
   ·refine w_condt rfl c10<|sr<|s_mov (.int .i64 (-1)) rfl<|dk<|w_ret<|?_;obtain rfl:=os hf;exact r_flat ⟨trivial,trivial⟩ rfl (.refl _)
   ·refine w_condf rfl (bf c10)<|w_skip<|k_seq<|awp_seq<|sr<|s_mov (.int .i64 x_1) rfl<|s_mov (.int .i64 y_2) rfl<|s_q (.bool (decide (x_1 > y_2))) rfl rfl rfl<|dk<|?_
    rcases oi hf with ⟨c11,hf⟩ | ⟨c11,hf⟩
    ·refine w_condt rfl c11<|sr<|s_mov (.int .i64 1) rfl<|dk<|w_ret<|?_;obtain rfl:=os hf;exact r_flat ⟨trivial,trivial⟩ rfl (.refl _)
    ·refine w_condf rfl (bf c11)<|w_skip<|k_seq<|sr<|s_mov (.int .i64 0) rfl<|dk<|w_ret<|?_;obtain rfl:=os hf;exact r_flat ⟨trivial,trivial⟩ rfl (.refl _)

/- internal/bytealg.CompareString -/
def internal_bytealg_CompareString (a b:Str):Option Int:=some (Lib.compareBytes a b)
set_option maxRecDepth 100000 in
open Go.RowKit in
theorem cmps_run (a b:ByteArray) (w:World):Calls Tryz.prog 255 #[.string a,.string b] w fun e w' => e = .returned (.int .i64 (Lib.compareBytes a.data.toList b.data.toList)) ∧ w' = w:=by
  go_enter Tryz.func255,(show Tryz.f255.ntmps = _ from rfl)
  go_wp2
  rw [run_callFunc_extern Tryz.func258 (by kernel_rfl) (by kernel_rfl) (by kernel_rfl) (e:=Extern.BytealgCompare.compare) (by kernel_rfl),Lib.run_compareString]
  simp only [Result.andThen]
  rw [Oper.upon_value]
  go_wp2
  go_ret
  exact ⟨rfl,rfl⟩
open Go.RowKit in
theorem w_internal_bytealg_CompareString (a b:Str) (r:Int) (hf:internal_bytealg_CompareString a b = some r):CallOK Tryz.prog 255 .flat [(.str a),(.str b)] (.int .i64 r):=by
  intro w vals fps hr
  simp only [RepVs,Rep] at hr
  obtain ⟨v1,vs1,f1,f2,rfl,⟨rfl,h1,rfl⟩,⟨v2,vs2,f3,f4,rfl,⟨rfl,h2,rfl⟩,⟨rfl,rfl⟩,rfl⟩,rfl⟩:=hr
  unfold internal_bytealg_CompareString at hf
  obtain rfl:=os hf
  refine (cmps_run ⟨a.toArray⟩ ⟨b.toArray⟩ w).mono ?_
  rintro e w' ⟨rfl,rfl⟩
  refine ⟨Below.refl _ _,?_⟩
  exact ⟨[.int .i64 (Lib.compareBytes a b)],rfl,by simp [Rep]⟩

/- strings.Compare -/
def c247:ACode :=
 (.seq (.reg (tm 4 (.c (.int .i64 0)) .done))
 (.seq (.reg (tm 5 (.t 0) (tm 6 (.t 1) (tq 7 (.call 255 [(.t 5),(.t 6)]) (tm 4 (.t 7) .done)))))
 .ret))
theorem fc247:fcomp Tryz.prog Tryz.f247 = some (c247.erase,[.mov (.t 4)],8):=by kernel_rfl
def strings_Compare (a_1:Str) (b_2:Str):Option Int :=
    (internal_bytealg_CompareString a_1 b_2).bind fun r_3 =>
    some r_3
theorem w_strings_Compare (a_1:Str) (b_2:Str) (r:Int) (hf:strings_Compare a_1 b_2 = some r):CallOK Tryz.prog 247 .flat [(.str a_1),(.str b_2)] (.int .i64 r):=by
  refine CallOK.of_awp mixed Tryz.func247 fc247 nle ?_
  rw [argT_eq]
  unfold strings_Compare at hf
  unfold c247
  refine (show awp Tryz.prog false 0 _ (ofL [(0,(.str a_1)),(1,(.str b_2))]) [] _ from ?_)
  refine awp_seq ?_
  refine w_reg ?_
  refine s_do (o_mov (.int .i64 0) rfl) ?_
  refine w_done ?_
  refine k_seq ?_
  refine awp_seq ?_
  refine w_reg ?_
  obtain ⟨r_3,er4,hf⟩:=ob hf
  refine s_do (o_mov (.str a_1) rfl) ?_
  refine s_do (o_mov (.str b_2) rfl) ?_
  refine s_do (o_call (w_internal_bytealg_CompareString _ _ _ er4) rfl (.refl _) rfl) ?_
  refine s_do (o_mov (.int .i64 r_3) rfl) ?_
  refine w_done ?_
  refine k_seq ?_
  refine w_ret ?_
  obtain rfl:=os hf
  exact r_flat ⟨trivial,trivial⟩ rfl (.refl _)

/- cmp.Or[int] -/
def c245:ACode :=
 (.seq (.reg (tm 2 (.c (.int .i64 0)) .done))
 (.seq (.reg (tm 3 (.c (.int .i64 0)) .done))
 (.seq (.seq (.reg (tm 6 (.t 0) (tq 7 (.len (.t 6)) (tm 8 (.c (.int .i64 0)) .done))))
 (.block 0 (.loop (.seq (.reg (tq 9 (.bin .lss (.t 8) (.t 7)) .done))
 (.seq (.cond (.t 9) .skip
 (.exit 0))
 (.seq (.block 1 (.seq (.reg (tq 10 (.iaddr 1 (.t 6) (.t 8)) (tq 11 (.load 1 false (.t 10)) (tm 5 (.t 11) .done))))
 (.seq (.reg (tm 12 (.t 5) (tm 13 (.t 3) (tq 14 (.bin .neq (.t 12) (.t 13)) .done))))
 (.cond (.t 14) (.seq (.reg (tm 15 (.t 5) (tm 2 (.t 15) .done)))
 .ret)
 .skip))))
 (.reg (tq 16 (.bin .add (.t 8) (.c (.int .i64 1))) (tm 8 (.t 16) .done)))))))))
 (.cut (.seq (.reg (tm 17 (.t 3) (tm 2 (.t 17) .done)))
 .ret)))))
theorem fc245:fcomp Tryz.prog Tryz.f245 = some (c245.erase,[.mov (.t 2)],18):=by kernel_rfl
def cmp_Or_int_L1 :List Int → Option (Fl Int Unit)
  | [] =>
    some (.go ())
  | x_24 :: xs =>
    if (x_24 != 0) then
    some (.ret x_24)
    else
    cmp_Or_int_L1 xs 

def cmp_Or_int (vals_1:(List Int)):Option Int :=
    (cmp_Or_int_L1 vals_1 ).bind fun q => (match q with
    | .ret r => some r
    | .go _ =>
    some 0)
theorem w_cmp_Or_int (vals_1:(List Int)) (r:Int) (hf:cmp_Or_int vals_1 = some r):CallOK Tryz.prog 245 .flat [(.lst 1 (vals_1.map encI))] (.int .i64 r):=by
 refine CallOK.of_awp mixed Tryz.func245 fc245 nle ?_;rw [argT_eq];unfold cmp_Or_int at hf;unfold c245;refine (show awp Tryz.prog false 0 _ (ofL [(0,(.lst 1 (vals_1.map encI)))]) [] _ from ?_);refine sr<|s_mov (.int .i64 0) rfl<|dk<|sr<|s_mov (.int .i64 0) rfl<|dk<|awp_seq<|sr<|s_mov (.lst 1 (vals_1.map encI)) rfl<|s_dof (o_len (enc:=encI) rfl) fun hl2 => s_mov (.int .i64 0) rfl<|dk<|?_
 obtain ⟨p17,hb1,hf⟩:=ob hf
 refine awp_cutx (X:={q:Unit // p17 = .go q}) (fun q => ([(3,(.int .i64 0))],[])) ?_ ?_
 ·refine awp_loop (X:={q:Nat // cmp_Or_int_L1 (vals_1.drop q)  = some p17}) (fun q => ([(3,(.int .i64 0)),(6,(.lst 1 (vals_1.map encI))),(7,(.int .i64 (vals_1.length:Int))),(8,(.int .i64 (q.1:Int)))],[])) (fun q => vals_1.length - q.1) ⟨0,hb1⟩ ⟨[],[],_,_,rfl,rfl,⟨.refl _,⟨.refl _,⟨.refl _,⟨.refl _,trivial⟩⟩⟩⟩,(.refl _)⟩ ?_
  rintro ⟨s8_12,hc1⟩
  have hc1:cmp_Or_int_L1 (vals_1.drop s8_12)  = some p17:=hc1
  refine (show awp Tryz.prog false 0 _ (ofL [(3,(.int .i64 0)),(6,(.lst 1 (vals_1.map encI))),(7,(.int .i64 (vals_1.length:Int))),(8,(.int .i64 (s8_12:Int)))]) [] _ from ?_)
  rcases dropc vals_1 s8_12 with ⟨hie20,hd23⟩ | ⟨hlt18,x_24,hx19,hd23⟩
  ·rw [hd23,cmp_Or_int_L1.eq_1] at hc1
   have hq22:=dlf hie20
   refine sr<|s_q (.bool (decide ((s8_12:Int) < (vals_1.length:Int)))) rfl rfl rfl<|dk<|awp_seq<|w_condf rfl hq22<|w_exit<|k_seqx<|k_loopx<|k_blkx<|?_;obtain rfl:=os hc1;exact k_cutn ⟨_,rfl⟩ ⟨[],[],_,_,rfl,rfl,⟨.refl _,trivial⟩,(.refl _)⟩
  ·rw [hd23,cmp_Or_int_L1.eq_2] at hc1
   have hq22:=dlt hlt18
   refine sr<|s_q (.bool (decide ((s8_12:Int) < (vals_1.length:Int)))) rfl rfl rfl<|dk<|awp_seq<|w_condt rfl hq22<|w_skip<|k_seq<|awp_seq<|w_blk<|sr<|s_do (o_iaddrn (enc:=encI) rfl rfl hx19)<|s_q (.int .i64 x_24) rfl ⟨rfl,rfl⟩ rfl<|s_mov (.int .i64 x_24) rfl<|dk<|sr<|s_mov (.int .i64 x_24) rfl<|s_mov (.int .i64 0) rfl<|s_q (.bool (x_24 != 0)) rfl rfl rfl<|dk<|?_
   rcases oi hc1 with ⟨c25,hc1⟩ | ⟨c25,hc1⟩
   ·refine w_condt rfl c25<|sr<|s_mov (.int .i64 x_24) rfl<|s_mov (.int .i64 x_24) rfl<|dk<|w_ret<|?_;obtain rfl:=os hc1;obtain rfl:=os hf;exact r_flat ⟨trivial,trivial⟩ rfl (.refl _)
   ·refine w_condf rfl (bf c25)<|w_skip<|k_blk<|k_seq<|w_reg<|s_q (.int .i64 (w64 ((s8_12:Int) + 1))) rfl rfl rfl<|s_mov (.int .i64 (w64 ((s8_12:Int) + 1))) rfl<|w_done<|?_;exact k_loopn ⟨(s8_12 + 1),hc1⟩ (mul hlt18) ⟨[],[],_,_,rfl,rfl,⟨.refl _,⟨.refl _,⟨.refl _,⟨.of_eq (congrArg (AV.int _) (w64_incr hlt18 hl2)),trivial⟩⟩⟩⟩,(.refl _)⟩
 ·rintro ⟨_,rfl⟩
  refine sr<|s_mov (.int .i64 0) rfl<|s_mov (.int .i64 0) rfl<|dk<|w_ret<|?_;obtain rfl:=os hf;exact r_flat ⟨trivial,trivial⟩ rfl (.refl _)

/- impl.compareAtoms -/
def c215:ACode :=
 (.seq (.reg (tq 2 (.box 3 (.t 0)) (tq 3 (.box 3 (.t 1)) (tm 4 (.c (.int .i64 0)) .done))))
 (.seq (.reg (tq 5 (.faddr 0 (.t 2)) (tq 6 (.load 1 false (.t 5)) (tq 7 (.faddr 0 (.t 3)) (tq 8 (.load 1 false (.t 7)) (tq 10 (.faddr 1 (.t 2)) (tq 11 (.load 1 false (.t 10)) (tq 12 (.faddr 1 (.t 3)) (tq 13 (.load 1 false (.t 12)) (tq 15 (.faddr 2 (.t 2)) (tq 16 (.load 1 false (.t 15)) (tq 17 (.faddr 2 (.t 3)) (tq 18 (.load 1 false (.t 17)) (.l ⟨(some 9),none,.call 246 [(.t 6),(.t 8)]⟩ [⟨(some 18),none,.load 1 false (.t 17)⟩,⟨(some 17),none,.faddr 2 (.t 3)⟩,⟨(some 16),none,.load 1 false (.t 15)⟩,⟨(some 15),none,.faddr 2 (.t 2)⟩,⟨(some 13),none,.load 1 false (.t 12)⟩,⟨(some 12),none,.faddr 1 (.t 3)⟩,⟨(some 11),none,.load 1 false (.t 10)⟩,⟨(some 10),none,.faddr 1 (.t 2)⟩]
 (.l ⟨(some 14),none,.call 246 [(.t 11),(.t 13)]⟩ [⟨(some 18),none,.load 1 false (.t 17)⟩,⟨(some 17),none,.faddr 2 (.t 3)⟩,⟨(some 16),none,.load 1 false (.t 15)⟩,⟨(some 15),none,.faddr 2 (.t 2)⟩]
 (.l ⟨(some 19),none,.call 247 [(.t 16),(.t 18)]⟩ []
 (.l ⟨(some 20),none,.bslice 1 [(.t 9),(.t 14),(.t 19)]⟩ []
 (.l ⟨(some 21),none,.call 245 [(.t 20)]⟩ []
 (tm 4 (.t 21) .done) .non) .non) .non) .non) .non))))))))))))))
 .ret))
theorem fc215:fcomp Tryz.prog Tryz.f215 = some (c215.erase,[.mov (.t 4)],22):=by kernel_rfl
def impl_compareAtoms (a_1:GAtom) (b_2:GAtom):Option Int :=
    (cmp_Compare_int a_1.Kind b_2.Kind).bind fun r_3 =>
    (cmp_Compare_int a_1.N b_2.N).bind fun r_5 =>
    (strings_Compare a_1.T b_2.T).bind fun r_7 =>
    (cmp_Or_int [r_3,r_5,r_7]).bind fun r_9 =>
    some r_9
theorem w_impl_compareAtoms (a_1:GAtom) (b_2:GAtom) (r:Int) (hf:impl_compareAtoms a_1 b_2 = some r):CallOK Tryz.prog 215 .flat [(encGAtom a_1),(encGAtom b_2)] (.int .i64 r):=by
 refine CallOK.of_awp mixed Tryz.func215 fc215 nle ?_;rw [argT_eq];unfold impl_compareAtoms at hf;unfold c215;refine (show awp Tryz.prog false 0 _ (ofL [(0,(encGAtom a_1)),(1,(encGAtom b_2))]) [] _ from ?_);refine sr<|s_do (o_box (j:=0) (c:=(.agg [(.int .i64 a_1.Kind),(.int .i64 a_1.N),(.str a_1.T)])) rfl trivial rfl rfl)<|s_do (o_box (j:=1) (c:=(.agg [(.int .i64 b_2.Kind),(.int .i64 b_2.N),(.str b_2.T)])) rfl trivial rfl rfl)<|s_mov (.int .i64 0) rfl<|dk<|sr<|s_q (.ptr 0 0 0) rfl trivial rfl<|s_q (.int .i64 a_1.Kind) rfl nle rfl<|s_q (.ptr 1 0 0) rfl trivial rfl<|s_q (.int .i64 b_2.Kind) rfl nle rfl<|s_q (.ptr 0 0 1) rfl trivial rfl<|s_q (.int .i64 a_1.N) rfl nle rfl<|?_
 refine s_q (.ptr 1 0 1) rfl trivial rfl<|s_q (.int .i64 b_2.N) rfl nle rfl<|s_q (.ptr 0 0 2) rfl trivial rfl<|s_q (.str a_1.T) rfl nle rfl<|s_q (.ptr 1 0 2) rfl trivial rfl<|s_q (.str b_2.T) rfl nle rfl<|?_
 obtain ⟨r_3,er4,hf⟩:=ob hf
 refine s_dol (o_call (w_cmp_Compare_int _ _ _ er4) rfl (.refl _) rfl) a_same trivial ?_
 obtain ⟨r_5,er6,hf⟩:=ob hf
 refine s_dol (o_call (w_cmp_Compare_int _ _ _ er6) rfl (.refl _) rfl) a_same trivial ?_
 obtain ⟨r_7,er8,hf⟩:=ob hf
 refine s_dol (o_call (w_strings_Compare _ _ _ er8) rfl (.refl _) rfl) a_same trivial ?_;refine s_dol (o_bslice (j:=2) (as':=[(.int .i64 r_3),(.int .i64 r_5),(.int .i64 r_7)]) rfl (fun _ => by decide) ⟨rfl,⟨rfl,⟨rfl,trivial⟩⟩⟩ (.refl _) rfl rfl rfl) trivial trivial ?_
 obtain ⟨r_9,er10,hf⟩:=ob hf
 refine s_dol (o_call (w_cmp_Or_int _ _ er10) rfl (.cons (.of_eq (congrArg (AV.lst _) (tko [r_3,r_5,r_7]))) .nil) rfl) a_same trivial<|s_mov (.int .i64 r_9) rfl<|dk<|w_ret<|?_;obtain rfl:=os hf;exact r_flat ⟨trivial,trivial⟩ rfl (.refl _)

/- impl.DatumOK -/
def c149:ACode :=
 (.seq (.reg (tm 2 (.c (.bool false)) .done))
 (.seq (.seq (.reg (tm 5 (.t 0) (tq 6 (.len (.t 5)) (tm 7 (.c (.int .i64 0)) .done))))
 (.block 0 (.loop (.seq (.reg (tq 8 (.bin .lss (.t 7) (.t 6)) .done))
 (.seq (.cond (.t 8) .skip
 (.exit 0))
 (.seq (.block 1 (.seq (.reg (tm 9 (.t 7) (tq 10 (.iaddr 3 (.t 5) (.t 7)) (tq 11 (.load 3 true (.t 10)) (tq 4 (.box 3 (.c (.agg [(.int .i64 0),(.int .i64 0),(.str [])]))) (tm 3 (.t 9) (.q ⟨none,none,.store 3 (.t 4) (.t 11)⟩
 .done)))))))
 (.seq (.reg (tq 12 (.load 3 true (.t 4)) (.l ⟨(some 13),none,.call 214 [(.t 12)]⟩ []
 (tq 14 (.not (.t 13)) (tm 15 (.t 14) (tg 16 15 false (.faddr 0 (.t 4)) (tg 17 15 false (.load 1 false (.t 16)) (tg 18 15 false (.mov (.t 0)) (tg 19 15 false (.iaddr 3 (.t 18) (.c (.int .i64 0))) (tg 20 15 false (.faddr 0 (.t 19)) (tg 21 15 false (.load 1 false (.t 20)) (tg 22 15 false (.bin .neq (.t 17) (.t 21)) (tq 23 (.pick (.t 15) (.c (.bool true)) (.t 22)) (tm 24 (.t 23) (tg 25 24 false (.mov (.t 3)) (tg 26 24 false (.bin .gtr (.t 25) (.c (.int .i64 0))) (tg 27 24 false (.mov (.t 26)) (tg 28 27 true (.mov (.t 0)) (tg 29 27 true (.mov (.t 3)) (tg 30 27 true (.bin .sub (.t 29) (.c (.int .i64 1))) (tg 31 27 true (.iaddr 3 (.t 28) (.t 30)) (tg 32 27 true (.load 3 true (.t 31)) (tg 33 27 true (.load 3 true (.t 4)) (.l ⟨(some 34),(some (27,true)),.call 215 [(.t 32),(.t 33)]⟩ []
 (tg 35 27 true (.bin .geq (.t 34) (.c (.int .i64 0))) (tg 36 24 false (.pick (.t 27) (.t 35) (.c (.bool false))) (tq 37 (.pick (.t 24) (.c (.bool true)) (.t 36)) .done))) .non))))))))))))))))))))) .non)))
 (.cut (.cond (.t 37) (.seq (.reg (tm 2 (.c (.bool false)) .done))
 .ret)
 .skip)))))
 (.reg (tq 38 (.bin .add (.t 7) (.c (.int .i64 1))) (tm 7 (.t 38) .done)))))))))
 (.cut (.seq (.reg (tm 39 (.t 0) (tq 40 (.len (.t 39)) (tq 41 (.bin .leq (.t 40) (.c (.int .i64 8))) (tm 2 (.t 41) .done)))))
 .ret))))
theorem fc149:fcomp Tryz.prog Tryz.f149 = some (c149.erase,[.mov (.t 2)],42):=by kernel_rfl
def impl_DatumOK_L1 (d_1:(List GAtom)):List GAtom → Nat → Option (Fl Bool Unit)
  | [],s7_60 =>
    some (.go ())
  | x_96 :: xs,s7_60 =>
    (((impl_AtomOK x_96).bind fun r_110 =>
    if (!r_110) then
    some true
    else
    (idx d_1 0).bind fun x_113 =>
    if (x_96.Kind != x_113.Kind) then
    some true
    else
    if (decide ((s7_60:Int) > 0)) then
    (idx d_1 (w64 ((s7_60:Int) - 1))).bind fun x_117 =>
    (impl_compareAtoms x_117 x_96).bind fun r_119 =>
    some (decide (r_119 ≥ 0))
    else
    some false:Option Bool)).bind fun s37_108 =>
    if s37_108 then
    some (.ret false)
    else
    impl_DatumOK_L1 d_1 xs (s7_60 + 1)

def impl_DatumOK (d_1:(List GAtom)):Option Bool :=
    (impl_DatumOK_L1 d_1 d_1 0).bind fun q => (match q with
    | .ret r => some r
    | .go _ =>
    some (decide ((d_1.length:Int) ≤ 8)))
theorem w_impl_DatumOK (d_1:(List GAtom)) (r:Bool) (hf:impl_DatumOK d_1 = some r):CallOK Tryz.prog 149 .flat [(.lst 3 (d_1.map encGAtom))] (.bool r):=by
 refine CallOK.of_awp mixed Tryz.func149 fc149 nle ?_;rw [argT_eq];unfold impl_DatumOK at hf;unfold c149;refine (show awp Tryz.prog false 0 _ (ofL [(0,(.lst 3 (d_1.map encGAtom)))]) [] _ from ?_);refine sr<|s_mov (.bool false) rfl<|dk<|awp_seq<|sr<|s_mov (.lst 3 (d_1.map encGAtom)) rfl<|s_dof (o_len (enc:=encGAtom) rfl) fun hl2 => s_mov (.int .i64 0) rfl<|dk<|?_
 obtain ⟨p89,hb1,hf⟩:=ob hf
 refine awp_cutx (X:={q:Unit // p89 = .go q}) (fun q => ([(0,(.lst 3 (d_1.map encGAtom)))],[])) ?_ ?_
 ·refine awp_loop (X:={q:Nat // impl_DatumOK_L1 d_1 (d_1.drop q) q = some p89}) (fun q => ([(0,(.lst 3 (d_1.map encGAtom))),(5,(.lst 3 (d_1.map encGAtom))),(6,(.int .i64 (d_1.length:Int))),(7,(.int .i64 (q.1:Int)))],[])) (fun q => d_1.length - q.1) ⟨0,hb1⟩ ⟨[],[],_,_,rfl,rfl,⟨.refl _,⟨.refl _,⟨.refl _,⟨.refl _,trivial⟩⟩⟩⟩,(.refl _)⟩ ?_
  rintro ⟨s7_60,hc1⟩
  have hc1:impl_DatumOK_L1 d_1 (d_1.drop s7_60) s7_60 = some p89:=hc1
  refine (show awp Tryz.prog false 0 _ (ofL [(0,(.lst 3 (d_1.map encGAtom))),(5,(.lst 3 (d_1.map encGAtom))),(6,(.int .i64 (d_1.length:Int))),(7,(.int .i64 (s7_60:Int)))]) [] _ from ?_)
  rcases dropc d_1 s7_60 with ⟨hie92,hd95⟩ | ⟨hlt90,x_96,hx91,hd95⟩
  ·rw [hd95,impl_DatumOK_L1.eq_1] at hc1
   have hq94:=dlf hie92
   refine sr<|s_q (.bool (decide ((s7_60:Int) < (d_1.length:Int)))) rfl rfl rfl<|dk<|awp_seq<|w_condf rfl hq94<|w_exit<|k_seqx<|k_loopx<|k_blkx<|?_;obtain rfl:=os hc1;exact k_cutn ⟨_,rfl⟩ ⟨[],[],_,_,rfl,rfl,⟨.refl _,trivial⟩,(.refl _)⟩
  ·rw [hd95,impl_DatumOK_L1.eq_2] at hc1
   have hq94:=dlt hlt90
   refine sr<|s_q (.bool (decide ((s7_60:Int) < (d_1.length:Int)))) rfl rfl rfl<|dk<|awp_seq<|w_condt rfl hq94<|w_skip<|k_seq<|awp_seq<|w_blk<|sr<|s_mov (.int .i64 (s7_60:Int)) rfl<|s_do (o_iaddrn (enc:=encGAtom) rfl rfl hx91)<|s_q (encGAtom x_96) rfl nle rfl<|s_do (o_box (j:=0) (c:=(.agg [(.int .i64 0),(.int .i64 0),(.str [])])) rfl trivial rfl rfl)<|s_mov (.int .i64 (s7_60:Int)) rfl<|s_do0 (o_storebox (v:=(.agg [(.int .i64 x_96.Kind),(.int .i64 x_96.N),(.str x_96.T)])) (y':=(.agg [(.int .i64 x_96.Kind),(.int .i64 x_96.N),(.str x_96.T)])) rfl rfl rfl trivial ⟨rfl,nle⟩ ⟨⟨rfl,trivial⟩,⟨⟨rfl,trivial⟩,⟨⟨rfl,trivial⟩,trivial⟩⟩⟩ rfl)<|?_
   refine dk<|awp_seq<|?_
   obtain ⟨s37_108,hb2,hc1⟩:=ob hc1
   refine awp_cut ([(0,(.lst 3 (d_1.map encGAtom))),(5,(.lst 3 (d_1.map encGAtom))),(6,(.int .i64 (d_1.length:Int))),(7,(.int .i64 (s7_60:Int))),(37,(.bool s37_108))],[]) ?_ ?_
   ·refine w_reg<|s_q (.agg [(.int .i64 x_96.Kind),(.int .i64 x_96.N),(.str x_96.T)]) rfl nle rfl<|?_
    obtain ⟨r_110,er111,hb2⟩:=ob hb2
    refine s_dol (o_call (w_impl_AtomOK _ _ er111) rfl (.refl _) rfl) a_same trivial<|s_q (.bool (!r_110)) rfl trivial rfl<|s_mov (.bool (!r_110)) rfl<|?_
    rcases oi hb2 with ⟨c112,hb2⟩ | ⟨c112,hb2⟩
    ·refine s_lit (s:=15) (b:=true) rfl c112<|s_off rfl rfl<|s_off rfl rfl<|s_off rfl rfl<|s_off rfl rfl<|s_off rfl rfl<|s_off rfl rfl<|s_off rfl rfl<|s_q (.bool true) rfl trivial rfl<|s_mov (.bool true) rfl<|s_off rfl rfl<|s_off rfl rfl<|s_off rfl rfl<|s_offs rfl<|s_offs rfl<|s_offs rfl<|s_offs rfl<|s_offs rfl<|s_offs rfl<|s_offsl rfl trivial<|s_offs rfl<|s_off rfl rfl<|s_q (.bool true) rfl trivial rfl<|w_done<|?_;obtain rfl:=os hb2;exact ⟨[],[],_,_,rfl,rfl,⟨.refl _,⟨.refl _,⟨.refl _,⟨.refl _,⟨.refl _,trivial⟩⟩⟩⟩⟩,(.refl _)⟩
    ·refine s_lit (s:=15) (b:=false) rfl (bf c112)<|s_on rfl<|s_q (.ptr 0 0 0) rfl trivial rfl<|s_on rfl<|s_q (.int .i64 x_96.Kind) rfl nle rfl<|s_on rfl<|s_mov (.lst 3 (d_1.map encGAtom)) rfl<|s_on rfl<|?_
     obtain ⟨x_113,ex114,hb2⟩:=ob hb2
     refine s_do (o_iaddr (enc:=encGAtom) rfl rfl (idx0 ex114) (idx1 ex114))<|s_on rfl<|s_q (.iptr (encGAtom x_113) 0) rfl trivial rfl<|s_on rfl<|s_q (.int .i64 x_113.Kind) rfl nle rfl<|s_on rfl<|s_q (.bool (x_96.Kind != x_113.Kind)) rfl rfl rfl<|s_q (.bool (x_96.Kind != x_113.Kind)) rfl trivial rfl<|s_mov (.bool (x_96.Kind != x_113.Kind)) rfl<|?_
     rcases oi hb2 with ⟨c115,hb2⟩ | ⟨c115,hb2⟩
     ·refine s_lit (s:=24) (b:=true) rfl c115<|s_off rfl rfl<|s_off rfl rfl<|s_off rfl rfl<|s_offs rfl<|s_offs rfl<|s_offs rfl<|s_offs rfl<|s_offs rfl<|s_offs rfl<|s_offsl rfl trivial<|s_offs rfl<|s_off rfl rfl<|s_q (.bool true) rfl trivial rfl<|w_done<|?_;obtain rfl:=os hb2;exact ⟨[],[],_,_,rfl,rfl,⟨.refl _,⟨.refl _,⟨.refl _,⟨.refl _,⟨.refl _,trivial⟩⟩⟩⟩⟩,(.refl _)⟩
     ·refine s_lit (s:=24) (b:=false) rfl (bf c115)<|s_on rfl<|s_mov (.int .i64 (s7_60:Int)) rfl<|s_on rfl<|s_q (.bool (decide ((s7_60:Int) > 0))) rfl rfl rfl<|s_on rfl<|s_mov (.bool (decide ((s7_60:Int) > 0))) rfl<|?_
      rcases oi hb2 with ⟨c116,hb2⟩ | ⟨c116,hb2⟩
      ·refine s_lit (s:=27) (b:=true) rfl c116<|s_on rfl<|s_mov (.lst 3 (d_1.map encGAtom)) rfl<|s_on rfl<|s_mov (.int .i64 (s7_60:Int)) rfl<|s_on rfl<|s_q (.int .i64 (w64 ((s7_60:Int) - 1))) rfl rfl rfl<|s_on rfl<|?_
       obtain ⟨x_117,ex118,hb2⟩:=ob hb2
       refine s_do (o_iaddr (enc:=encGAtom) rfl rfl (idx0 ex118) (idx1 ex118))<|s_on rfl<|s_q (encGAtom x_117) rfl nle rfl<|s_on rfl<|s_q (.agg [(.int .i64 x_96.Kind),(.int .i64 x_96.N),(.str x_96.T)]) rfl nle rfl<|s_onl rfl<|?_
       obtain ⟨r_119,er120,hb2⟩:=ob hb2
       refine s_dol (o_call (w_impl_compareAtoms _ _ _ er120) rfl (.refl _) rfl) a_same trivial<|s_on rfl<|s_q (.bool (decide (r_119 ≥ 0))) rfl rfl rfl<|s_on rfl<|s_q (.bool (decide (r_119 ≥ 0))) rfl trivial rfl<|s_q (.bool (decide (r_119 ≥ 0))) rfl trivial rfl<|w_done<|?_;obtain rfl:=os hb2;exact ⟨[],[],_,_,rfl,rfl,⟨.refl _,⟨.refl _,⟨.refl _,⟨.refl _,⟨.refl _,trivial⟩⟩⟩⟩⟩,(.refl _)⟩
      ·refine s_lit (s:=27) (b:=false) rfl (bf c116)<|s_off rfl rfl<|s_off rfl rfl<|s_off rfl rfl<|s_off rfl rfl<|s_off rfl rfl<|s_off rfl rfl<|s_offl rfl rfl trivial<|s_off rfl rfl<|s_on rfl<|s_q (.bool false) rfl trivial rfl<|s_q (.bool false) rfl trivial rfl<|w_done<|?_;obtain rfl:=os hb2;exact ⟨[],[],_,_,rfl,rfl,⟨.refl _,⟨.refl _,⟨.refl _,⟨.refl _,⟨.refl _,trivial⟩⟩⟩⟩⟩,(.refl _)⟩
   ·rcases oi hc1 with ⟨c121,hc1⟩ | ⟨c121,hc1⟩
    ·refine w_condt rfl c121<|sr<|s_mov (.bool false) rfl<|dk<|w_ret<|?_;obtain rfl:=os hc1;obtain rfl:=os hf;exact r_flat ⟨trivial,trivial⟩ rfl (.refl _)
    ·refine w_condf rfl (bf c121)<|w_skip<|k_blk<|k_seq<|w_reg<|s_q (.int .i64 (w64 ((s7_60:Int) + 1))) rfl rfl rfl<|s_mov (.int .i64 (w64 ((s7_60:Int) + 1))) rfl<|w_done<|?_;exact k_loopn ⟨(s7_60 + 1),hc1⟩ (mul hlt90) ⟨[],[],_,_,rfl,rfl,⟨.refl _,⟨.refl _,⟨.refl _,⟨.of_eq (congrArg (AV.int _) (w64_incr hlt90 hl2)),trivial⟩⟩⟩⟩,(.refl _)⟩
 ·rintro ⟨_,rfl⟩
  refine sr<|s_mov (.lst 3 (d_1.map encGAtom)) rfl<|s_dof (o_len (enc:=encGAtom) rfl) fun hl122 => s_q (.bool (decide ((d_1.length:Int) ≤ 8))) rfl rfl rfl<|s_mov (.bool (decide ((d_1.length:Int) ≤ 8))) rfl<|dk<|w_ret<|?_;obtain rfl:=os hf;exact r_flat ⟨trivial,trivial⟩ rfl (.refl _)

/- impl.isDigit -/
def c145:ACode :=
 (.seq (.reg (tm 2 (.c (.bool false)) .done))
 (.seq (.reg (tm 3 (.t 0) (tq 4 (.bin .geq (.t 3) (.c (.int .u8 48))) (tm 5 (.t 4) (tg 6 5 true (.mov (.t 0)) (tg 7 5 true (.bin .leq (.t 6) (.c (.int .u8 57))) (tq 8 (.pick (.t 5) (.t 7) (.c (.bool false))) (tm 2 (.t 8) .done))))))))
 .ret))
theorem fc145:fcomp Tryz.prog Tryz.f145 = some (c145.erase,[.mov (.t 2)],9):=by kernel_rfl
def impl_isDigit (b_1:Int):Option Bool :=
    if (decide (b_1 ≥ 48)) then
    some (decide (b_1 ≤ 57))
    else
    some false
theorem w_impl_isDigit (b_1:Int) (r:Bool) (hf:impl_isDigit b_1 = some r):CallOK Tryz.prog 145 .flat [(.int .u8 b_1)] (.bool r):=by
 refine CallOK.of_awp mixed Tryz.func145 fc145 nle ?_;rw [argT_eq];unfold impl_isDigit at hf;unfold c145;refine (show awp Tryz.prog false 0 _ (ofL [(0,(.int .u8 b_1))]) [] _ from ?_);refine sr<|s_mov (.bool false) rfl<|dk<|sr<|?_
 rcases oi hf with ⟨c2,hf⟩ | ⟨c2,hf⟩
 ·refine s_mov (.int .u8 b_1) rfl<|s_q (.bool (decide (b_1 ≥ 48))) rfl rfl rfl<|s_mov (.bool (decide (b_1 ≥ 48))) rfl<|s_lit (s:=5) (b:=true) rfl c2<|s_on rfl<|s_mov (.int .u8 b_1) rfl<|s_on rfl<|s_q (.bool (decide (b_1 ≤ 57))) rfl rfl rfl<|s_q (.bool (decide (b_1 ≤ 57))) rfl trivial rfl<|s_mov (.bool (decide (b_1 ≤ 57))) rfl<|dk<|w_ret<|?_;obtain rfl:=os hf;exact r_flat ⟨trivial,trivial⟩ rfl (.refl _)
 ·refine s_mov (.int .u8 b_1) rfl<|s_q (.bool (decide (b_1 ≥ 48))) rfl rfl rfl<|s_mov (.bool (decide (b_1 ≥ 48))) rfl<|s_lit (s:=5) (b:=false) rfl (bf c2)<|s_off rfl rfl<|s_off rfl rfl<|s_q (.bool false) rfl trivial rfl<|s_mov (.bool false) rfl<|dk<|w_ret<|?_;obtain rfl:=os hf;exact r_flat ⟨trivial,trivial⟩ rfl (.refl _)

/- impl.NameOK -/
def c60:ACode :=
 (.seq (.reg (tm 2 (.c (.bool false)) .done))
 (.seq (.seq (.reg (tm 6 (.t 0) (tq 7 (.lenS (.t 6)) (tm 8 (.c (.int .i64 0)) .done))))
 (.block 0 (.loop (.seq (.reg (tq 9 (.bin .lss (.t 8) (.t 7)) .done))
 (.seq (.cond (.t 9) .skip
 (.exit 0))
 (.seq (.block 1 (.seq (.reg (tm 10 (.t 8) (tm 3 (.t 10) .done)))
 (.seq (.reg (tm 11 (.t 0) (tm 12 (.t 3) (tq 13 (.idxs (.t 11) (.t 12)) (tm 4 (.t 13) .done)))))
 (.seq (.reg (tm 14 (.t 4) (tq 15 (.bin .geq (.t 14) (.c (.int .u8 97))) (tm 16 (.t 15) (tg 17 16 true (.mov (.t 4)) (tg 18 16 true (.bin .leq (.t 17) (.c (.int .u8 122))) (tq 19 (.pick (.t 16) (.t 18) (.c (.bool false))) (tm 20 (.t 19) (tg 21 20 false (.mov (.t 4)) (tg 22 20 false (.bin .geq (.t 21) (.c (.int .u8 65))) (tg 23 20 false (.mov (.t 22)) (tg 24 23 true (.mov (.t 4)) (tg 25 23 true (.bin .leq (.t 24) (.c (.int .u8 90))) (tg 26 20 false (.pick (.t 23) (.t 25) (.c (.bool false))) (tq 27 (.pick (.t 20) (.c (.bool true)) (.t 26)) (tm 28 (.t 27) (tg 29 28 false (.mov (.t 4)) (tg 30 28 false (.bin .eql (.t 29) (.c (.int .u8 95))) (tq 31 (.pick (.t 28) (.c (.bool true)) (.t 30)) (tm 5 (.t 31) .done))))))))))))))))))))
 (.cut (.seq (.reg (tm 32 (.t 5) (tq 33 (.not (.t 32)) (tm 34 (.t 33) (tg 35 34 true (.mov (.t 3)) (tg 36 34 true (.bin .eql (.t 35) (.c (.int .i64 0))) (tg 37 34 true (.mov (.t 36)) (tg 38 37 false (.mov (.t 4)) (tg 39 37 false (.call 145 [(.t 38)]) (tg 40 37 false (.not (.t 39)) (tg 41 34 true (.pick (.t 37) (.c (.bool true)) (.t 40)) (tq 42 (.pick (.t 34) (.t 41) (.c (.bool false))) .done))))))))))))
 (.cut (.cond (.t 42) (.seq (.reg (tm 2 (.c (.bool false)) .done))
 .ret)
 .skip))))))))
 (.reg (tq 43 (.bin .add (.t 8) (.c (.int .i64 1))) (tm 8 (.t 43) .done)))))))))
 (.cut (.seq (.reg (tm 44 (.t 0) (tq 45 (.lenS (.t 44)) (tq 46 (.call 57 [(.t 45),(.c (.int .i64 1)),(.c (.int .i64 40))]) (tm 2 (.t 46) .done)))))
 .ret))))
theorem fc60:fcomp Tryz.prog Tryz.f60 = some (c60.erase,[.mov (.t 2)],47):=by kernel_rfl
def impl_NameOK_L1 :List UInt8 → Nat → Option (Fl Bool Unit)
  | [],s8_34 =>
    some (.go ())
  | x_57 :: xs,s8_34 =>
    ((some ():Option Unit)).bind fun _ =>
    ((if (!(bif (bif (bif (decide ((x_57.toNat:Int) ≥ 97)) then (decide ((x_57.toNat:Int) ≤ 122)) else false) then true else (bif (decide ((x_57.toNat:Int) ≥ 65)) then (decide ((x_57.toNat:Int) ≤ 90)) else false)) then true else ((x_57.toNat:Int) == 95))) then
    if ((s8_34:Int) == 0) then
    some true
    else
    (impl_isDigit (x_57.toNat:Int)).bind fun r_67 =>
    some (!r_67)
    else
    some false:Option Bool)).bind fun s42_63 =>
    if s42_63 then
    some (.ret false)
    else
    impl_NameOK_L1 xs (s8_34 + 1)

def impl_NameOK (t_1:Str):Option Bool :=
    (impl_NameOK_L1 t_1 0).bind fun q => (match q with
    | .ret r => some r
    | .go _ =>
    (impl_within (t_1.length:Int) 1 40).bind fun r_71 =>
    some r_71)
theorem w_impl_NameOK (t_1:Str) (r:Bool) (hf:impl_NameOK t_1 = some r):CallOK Tryz.prog 60 .flat [(.str t_1)] (.bool r):=by
 refine CallOK.of_awp mixed Tryz.func60 fc60 nle ?_;rw [argT_eq];unfold impl_NameOK at hf;unfold c60;refine (show awp Tryz.prog false 0 _ (ofL [(0,(.str t_1))]) [] _ from ?_);refine sr<|s_mov (.bool false) rfl<|dk<|awp_seq<|sr<|s_mov (.str t_1) rfl<|s_dof (o_lenS rfl) fun hl2 => s_mov (.int .i64 0) rfl<|dk<|?_
 obtain ⟨p50,hb1,hf⟩:=ob hf
 refine awp_cutx (X:={q:Unit // p50 = .go q}) (fun q => ([(0,(.str t_1))],[])) ?_ ?_
 ·refine awp_loop (X:={q:Nat // impl_NameOK_L1 (t_1.drop q) q = some p50}) (fun q => ([(0,(.str t_1)),(7,(.int .i64 (t_1.length:Int))),(8,(.int .i64 (q.1:Int)))],[])) (fun q => t_1.length - q.1) ⟨0,hb1⟩ ⟨[],[],_,_,rfl,rfl,⟨.refl _,⟨.refl _,⟨.refl _,trivial⟩⟩⟩,(.refl _)⟩ ?_
  rintro ⟨s8_34,hc1⟩
  have hc1:impl_NameOK_L1 (t_1.drop s8_34) s8_34 = some p50:=hc1
  refine (show awp Tryz.prog false 0 _ (ofL [(0,(.str t_1)),(7,(.int .i64 (t_1.length:Int))),(8,(.int .i64 (s8_34:Int)))]) [] _ from ?_)
  rcases dropc t_1 s8_34 with ⟨hie53,hd56⟩ | ⟨hlt51,x_57,hx52,hd56⟩
  ·rw [hd56,impl_NameOK_L1.eq_1] at hc1
   have hq55:=dlf hie53
   refine sr<|s_q (.bool (decide ((s8_34:Int) < (t_1.length:Int)))) rfl rfl rfl<|dk<|awp_seq<|w_condf rfl hq55<|w_exit<|k_seqx<|k_loopx<|k_blkx<|?_;obtain rfl:=os hc1;exact k_cutn ⟨_,rfl⟩ ⟨[],[],_,_,rfl,rfl,⟨.refl _,trivial⟩,(.refl _)⟩
  ·rw [hd56,impl_NameOK_L1.eq_2] at hc1
   have hq55:=dlt hlt51
   refine sr<|s_q (.bool (decide ((s8_34:Int) < (t_1.length:Int)))) rfl rfl rfl<|dk<|awp_seq<|w_condt rfl hq55<|w_skip<|k_seq<|awp_seq<|w_blk<|sr<|s_mov (.int .i64 (s8_34:Int)) rfl<|s_mov (.int .i64 (s8_34:Int)) rfl<|dk<|sr<|s_mov (.str t_1) rfl<|s_mov (.int .i64 (s8_34:Int)) rfl<|s_do (o_idxsn rfl rfl hx52)<|s_mov (.int .u8 (x_57.toNat:Int)) rfl<|dk<|awp_seq<|?_
   obtain ⟨p58,hb2,hc1⟩:=ob hc1
   refine awp_cut ([(0,(.str t_1)),(3,(.int .i64 (s8_34:Int))),(4,(.int .u8 (x_57.toNat:Int))),(5,(.bool (bif (bif (bif (decide ((x_57.toNat:Int) ≥ 97)) then (decide ((x_57.toNat:Int) ≤ 122)) else false) then true else (bif (decide ((x_57.toNat:Int) ≥ 65)) then (decide ((x_57.toNat:Int) ≤ 90)) else false)) then true else ((x_57.toNat:Int) == 95)))),(7,(.int .i64 (t_1.length:Int))),(8,(.int .i64 (s8_34:Int)))],[]) ?_ ?_
   ·refine w_reg<|s_mov (.int .u8 (x_57.toNat:Int)) rfl<|s_q (.bool (decide ((x_57.toNat:Int) ≥ 97))) rfl rfl rfl<|s_mov (.bool (decide ((x_57.toNat:Int) ≥ 97))) rfl<|?_;refine s_g (v:=(decide ((x_57.toNat:Int) ≥ 97))) (.int .u8 (x_57.toNat:Int)) rfl (fun hv => by (try simp only [gs_on hv]);exact ⟨rfl,trivial,rfl⟩) ?_;refine s_g (v:=(decide ((x_57.toNat:Int) ≥ 97))) (.bool (decide ((x_57.toNat:Int) ≤ 122))) rfl (fun hv => by (try simp only [gs_on hv]);exact ⟨rfl,rfl,rfl⟩) ?_;refine s_pick (x:=(decide ((x_57.toNat:Int) ≤ 122))) (y:=false) rfl (fun hv => by (try simp only [gs_on hv]);rfl) (fun hv => by (try simp only [gs_on hv]);rfl) ?_;refine s_mov (.bool (bif (decide ((x_57.toNat:Int) ≥ 97)) then (decide ((x_57.toNat:Int) ≤ 122)) else false)) rfl ?_
    refine s_g (v:=(bif (decide ((x_57.toNat:Int) ≥ 97)) then (decide ((x_57.toNat:Int) ≤ 122)) else false)) (.int .u8 (x_57.toNat:Int)) rfl (fun hv => by (try simp only [gs_on hv]);exact ⟨rfl,trivial,rfl⟩) ?_;refine s_g (v:=(bif (decide ((x_57.toNat:Int) ≥ 97)) then (decide ((x_57.toNat:Int) ≤ 122)) else false)) (.bool (decide ((x_57.toNat:Int) ≥ 65))) rfl (fun hv => by (try simp only [gs_on hv]);exact ⟨rfl,rfl,rfl⟩) ?_;refine s_g (v:=(bif (decide ((x_57.toNat:Int) ≥ 97)) then (decide ((x_57.toNat:Int) ≤ 122)) else false)) (.bool (decide ((x_57.toNat:Int) ≥ 65))) rfl (fun hv => by (try simp only [gs_on hv]);exact ⟨rfl,trivial,rfl⟩) ?_;refine s_gg (v1:=(bif (decide ((x_57.toNat:Int) ≥ 97)) then (decide ((x_57.toNat:Int) ≤ 122)) else false)) (b1:=false) (v2:=(decide ((x_57.toNat:Int) ≥ 65))) (.int .u8 (x_57.toNat:Int)) rfl (fun hv hw => by (try simp only [gs_on hv,gs_on hw]);exact ⟨rfl,trivial,rfl⟩) ?_
    refine s_gg (v1:=(bif (decide ((x_57.toNat:Int) ≥ 97)) then (decide ((x_57.toNat:Int) ≤ 122)) else false)) (b1:=false) (v2:=(decide ((x_57.toNat:Int) ≥ 65))) (.bool (decide ((x_57.toNat:Int) ≤ 90))) rfl (fun hv hw => by (try simp only [gs_on hv,gs_on hw]);exact ⟨rfl,rfl,rfl⟩) ?_;refine s_gp (v1:=(bif (decide ((x_57.toNat:Int) ≥ 97)) then (decide ((x_57.toNat:Int) ≤ 122)) else false)) (b1:=false) (v2:=(decide ((x_57.toNat:Int) ≥ 65))) (x:=(decide ((x_57.toNat:Int) ≤ 90))) (y:=false) rfl (fun hv => by (try simp only [gs_on hv]);rfl) (fun hv hw => by (try simp only [gs_on hv,gs_on hw]);rfl) (fun hv hw => by (try simp only [gs_on hv,gs_on hw]);rfl) ?_;refine s_pick (x:=true) (y:=(bif (decide ((x_57.toNat:Int) ≥ 65)) then (decide ((x_57.toNat:Int) ≤ 90)) else false)) rfl (fun hv => by (try simp only [gs_on hv]);rfl) (fun hv => by (try simp only [gs_on hv]);rfl) ?_
    refine s_mov (.bool (bif (bif (decide ((x_57.toNat:Int) ≥ 97)) then (decide ((x_57.toNat:Int) ≤ 122)) else false) then true else (bif (decide ((x_57.toNat:Int) ≥ 65)) then (decide ((x_57.toNat:Int) ≤ 90)) else false))) rfl ?_;refine s_g (v:=(bif (bif (decide ((x_57.toNat:Int) ≥ 97)) then (decide ((x_57.toNat:Int) ≤ 122)) else false) then true else (bif (decide ((x_57.toNat:Int) ≥ 65)) then (decide ((x_57.toNat:Int) ≤ 90)) else false))) (.int .u8 (x_57.toNat:Int)) rfl (fun hv => by (try simp only [gs_on hv]);exact ⟨rfl,trivial,rfl⟩) ?_;refine s_g (v:=(bif (bif (decide ((x_57.toNat:Int) ≥ 97)) then (decide ((x_57.toNat:Int) ≤ 122)) else false) then true else (bif (decide ((x_57.toNat:Int) ≥ 65)) then (decide ((x_57.toNat:Int) ≤ 90)) else false))) (.bool ((x_57.toNat:Int) == 95)) rfl (fun hv => by (try simp only [gs_on hv]);exact ⟨rfl,rfl,rfl⟩) ?_
    refine s_pick (x:=true) (y:=((x_57.toNat:Int) == 95)) rfl (fun hv => by (try simp only [gs_on hv]);rfl) (fun hv => by (try simp only [gs_on hv]);rfl) ?_;refine s_mov (.bool (bif (bif (bif (decide ((x_57.toNat:Int) ≥ 97)) then (decide ((x_57.toNat:Int) ≤ 122)) else false) then true else (bif (decide ((x_57.toNat:Int) ≥ 65)) then (decide ((x_57.toNat:Int) ≤ 90)) else false)) then true else ((x_57.toNat:Int) == 95))) rfl<|w_done<|?_;obtain rfl:=os hb2;exact ⟨[],[],_,_,rfl,rfl,⟨.refl _,⟨.refl _,⟨.refl _,⟨.refl _,⟨.refl _,⟨.refl _,trivial⟩⟩⟩⟩⟩⟩,(.refl _)⟩
   ·refine awp_seq ?_
    obtain ⟨s42_63,hb2,hc1⟩:=ob hc1
    refine awp_cut ([(0,(.str t_1)),(7,(.int .i64 (t_1.length:Int))),(8,(.int .i64 (s8_34:Int))),(42,(.bool s42_63))],[]) ?_ ?_
    ·refine w_reg ?_
     rcases oi hb2 with ⟨c65,hb2⟩ | ⟨c65,hb2⟩
     ·rcases oi hb2 with ⟨c66,hb2⟩ | ⟨c66,hb2⟩
      ·refine s_mov (.bool (bif (bif (bif (decide ((x_57.toNat:Int) ≥ 97)) then (decide ((x_57.toNat:Int) ≤ 122)) else false) then true else (bif (decide ((x_57.toNat:Int) ≥ 65)) then (decide ((x_57.toNat:Int) ≤ 90)) else false)) then true else ((x_57.toNat:Int) == 95))) rfl<|s_q (.bool (!(bif (bif (bif (decide ((x_57.toNat:Int) ≥ 97)) then (decide ((x_57.toNat:Int) ≤ 122)) else false) then true else (bif (decide ((x_57.toNat:Int) ≥ 65)) then (decide ((x_57.toNat:Int) ≤ 90)) else false)) then true else ((x_57.toNat:Int) == 95)))) rfl trivial rfl<|s_mov (.bool (!(bif (bif (bif (decide ((x_57.toNat:Int) ≥ 97)) then (decide ((x_57.toNat:Int) ≤ 122)) else false) then true else (bif (decide ((x_57.toNat:Int) ≥ 65)) then (decide ((x_57.toNat:Int) ≤ 90)) else false)) then true else ((x_57.toNat:Int) == 95)))) rfl<|?_
       refine s_lit (s:=34) (b:=true) rfl c65<|s_on rfl<|s_mov (.int .i64 (s8_34:Int)) rfl<|s_on rfl<|s_q (.bool ((s8_34:Int) == 0)) rfl rfl rfl<|s_on rfl<|s_mov (.bool ((s8_34:Int) == 0)) rfl<|s_lit (s:=37) (b:=true) rfl c66<|s_off rfl rfl<|s_off rfl rfl<|s_off rfl rfl<|s_on rfl<|s_q (.bool true) rfl trivial rfl<|s_q (.bool true) rfl trivial rfl<|w_done<|?_;obtain rfl:=os hb2;exact ⟨[],[],_,_,rfl,rfl,⟨.refl _,⟨.refl _,⟨.refl _,⟨.refl _,trivial⟩⟩⟩⟩,(.refl _)⟩
      ·obtain ⟨r_67,er68,hb2⟩:=ob hb2
       refine s_mov (.bool (bif (bif (bif (decide ((x_57.toNat:Int) ≥ 97)) then (decide ((x_57.toNat:Int) ≤ 122)) else false) then true else (bif (decide ((x_57.toNat:Int) ≥ 65)) then (decide ((x_57.toNat:Int) ≤ 90)) else false)) then true else ((x_57.toNat:Int) == 95))) rfl<|s_q (.bool (!(bif (bif (bif (decide ((x_57.toNat:Int) ≥ 97)) then (decide ((x_57.toNat:Int) ≤ 122)) else false) then true else (bif (decide ((x_57.toNat:Int) ≥ 65)) then (decide ((x_57.toNat:Int) ≤ 90)) else false)) then true else ((x_57.toNat:Int) == 95)))) rfl trivial rfl<|s_mov (.bool (!(bif (bif (bif (decide ((x_57.toNat:Int) ≥ 97)) then (decide ((x_57.toNat:Int) ≤ 122)) else false) then true else (bif (decide ((x_57.toNat:Int) ≥ 65)) then (decide ((x_57.toNat:Int) ≤ 90)) else false)) then true else ((x_57.toNat:Int) == 95)))) rfl<|?_
       refine s_lit (s:=34) (b:=true) rfl c65<|s_on rfl<|s_mov (.int .i64 (s8_34:Int)) rfl<|s_on rfl<|s_q (.bool ((s8_34:Int) == 0)) rfl rfl rfl<|s_on rfl<|s_mov (.bool ((s8_34:Int) == 0)) rfl<|s_lit (s:=37) (b:=false) rfl (bf c66)<|s_on rfl<|s_mov (.int .u8 (x_57.toNat:Int)) rfl<|s_on rfl<|s_do (o_call (w_impl_isDigit _ _ er68) rfl (.refl _) rfl)<|s_on rfl<|s_q (.bool (!r_67)) rfl trivial rfl<|s_on rfl<|s_q (.bool (!r_67)) rfl trivial rfl<|s_q (.bool (!r_67)) rfl trivial rfl<|w_done<|?_;obtain rfl:=os hb2;exact ⟨[],[],_,_,rfl,rfl,⟨.refl _,⟨.refl _,⟨.refl _,⟨.refl _,trivial⟩⟩⟩⟩,(.refl _)⟩
     ·refine s_mov (.bool (bif (bif (bif (decide ((x_57.toNat:Int) ≥ 97)) then (decide ((x_57.toNat:Int) ≤ 122)) else false) then true else (bif (decide ((x_57.toNat:Int) ≥ 65)) then (decide ((x_57.toNat:Int) ≤ 90)) else false)) then true else ((x_57.toNat:Int) == 95))) rfl<|s_q (.bool (!(bif (bif (bif (decide ((x_57.toNat:Int) ≥ 97)) then (decide ((x_57.toNat:Int) ≤ 122)) else false) then true else (bif (decide ((x_57.toNat:Int) ≥ 65)) then (decide ((x_57.toNat:Int) ≤ 90)) else false)) then true else ((x_57.toNat:Int) == 95)))) rfl trivial rfl<|s_mov (.bool (!(bif (bif (bif (decide ((x_57.toNat:Int) ≥ 97)) then (decide ((x_57.toNat:Int) ≤ 122)) else false) then true else (bif (decide ((x_57.toNat:Int) ≥ 65)) then (decide ((x_57.toNat:Int) ≤ 90)) else false)) then true else ((x_57.toNat:Int) == 95)))) rfl<|?_
      refine s_lit (s:=34) (b:=false) rfl (bf c65)<|s_off rfl rfl<|s_off rfl rfl<|s_off rfl rfl<|s_offs rfl<|s_offs rfl<|s_offs rfl<|s_off rfl rfl<|s_q (.bool false) rfl trivial rfl<|w_done<|?_;obtain rfl:=os hb2;exact ⟨[],[],_,_,rfl,rfl,⟨.refl _,⟨.refl _,⟨.refl _,⟨.refl _,trivial⟩⟩⟩⟩,(.refl _)⟩
    ·rcases oi hc1 with ⟨c69,hc1⟩ | ⟨c69,hc1⟩
     ·refine w_condt rfl c69<|sr<|s_mov (.bool false) rfl<|dk<|w_ret<|?_;obtain rfl:=os hc1;obtain rfl:=os hf;exact r_flat ⟨trivial,trivial⟩ rfl (.refl _)
     ·refine w_condf rfl (bf c69)<|w_skip<|k_blk<|k_seq<|w_reg<|s_q (.int .i64 (w64 ((s8_34:Int) + 1))) rfl rfl rfl<|s_mov (.int .i64 (w64 ((s8_34:Int) + 1))) rfl<|w_done<|?_;exact k_loopn ⟨(s8_34 + 1),hc1⟩ (mul hlt51) ⟨[],[],_,_,rfl,rfl,⟨.refl _,⟨.refl _,⟨.of_eq (congrArg (AV.int _) (w64_incr hlt51 hl2)),trivial⟩⟩⟩,(.refl _)⟩
 ·rintro ⟨_,rfl⟩
  refine sr<|?_
  obtain ⟨r_71,er72,hf⟩:=ob hf
  refine s_mov (.str t_1) rfl<|s_dof (o_lenS rfl) fun hl70 => s_do (o_call (w_impl_within _ _ _ _ er72) rfl (.refl _) rfl)<|s_mov (.bool r_71) rfl<|dk<|w_ret<|?_;obtain rfl:=os hf;exact r_flat ⟨trivial,trivial⟩ rfl (.refl _)

/- impl.setOK$1 -/
def c212:ACode :=
 (.seq (.reg (tm 2 (.c (.bool false)) .done))
 (.seq (.reg (tm 3 (.t 0) (tq 4 (.call 60 [(.t 3)]) (tq 5 (.not (.t 4)) (tm 2 (.t 5) .done)))))
 .ret))
theorem fc212:fcomp Tryz.prog Tryz.f212 = some (c212.erase,[.mov (.t 2)],6):=by kernel_rfl
def impl_setOK_1 (name_1:Str):Option Bool :=
    (impl_NameOK name_1).bind fun r_2 =>
    some (!r_2)
theorem w_impl_setOK_1 (name_1:Str) (r:Bool) (hf:impl_setOK_1 name_1 = some r):CallOK Tryz.prog 212 .flat [(.str name_1)] (.bool r):=by
  refine CallOK.of_awp mixed Tryz.func212 fc212 nle ?_
  rw [argT_eq]
  unfold impl_setOK_1 at hf
  unfold c212
  refine (show awp Tryz.prog false 0 _ (ofL [(0,(.str name_1))]) [] _ from ?_)
  refine awp_seq ?_
  refine w_reg ?_
  refine s_do (o_mov (.bool false) rfl) ?_
  refine w_done ?_
  refine k_seq ?_
  refine awp_seq ?_
  refine w_reg ?_
  obtain ⟨r_2,er3,hf⟩:=ob hf
  refine s_do (o_mov (.str name_1) rfl) ?_
  refine s_do (o_call (w_impl_NameOK _ _ er3) rfl (.refl _) rfl) ?_
  refine s_do (o_q (.bool (!r_2)) rfl trivial rfl) ?_
  refine s_do (o_mov (.bool (!r_2)) rfl) ?_
  refine w_done ?_
  refine k_seq ?_
  refine w_ret ?_
  obtain rfl:=os hf
  exact r_flat ⟨trivial,trivial⟩ rfl (.refl _)

end Go.R
