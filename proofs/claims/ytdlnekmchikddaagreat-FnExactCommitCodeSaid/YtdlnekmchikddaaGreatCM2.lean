/- Walks. -/
import Derived.Test.YtdlnekmchikddaaGreatCM1
set_option linter.all false
namespace Go.R
open Go Go.Proofs
set_option linter.unusedVariables false
set_option linter.unusedSimpArgs false
set_option maxHeartbeats 8000000
/- spec.SchemaOK -/
def c35:ACode :=
 (.seq (.reg (tq 1 (.box 1 (.t 0)) (tm 2 (.c (.bool false)) .done)))
 (.seq (.seq (.reg (tq 6 (.faddr 0 (.t 1)) (tq 7 (.load 1 false (.t 6)) (tq 8 (.len (.t 7)) (tq 9 (.call 95 [(.t 8),(.c (.int .i64 1)),(.c (.int .i64 4))]) (tq 10 (.not (.t 9)) .done))))))
 (.cond (.t 10) (.seq (.reg (tm 2 (.c (.bool false)) .done))
 .ret)
 .skip))
 (.seq (.seq (.reg (tm 3 (.c (.int .i64 0)) .done))
 (.block 0 (.loop (.seq (.seq (.reg (tm 11 (.t 3) (tq 12 (.faddr 0 (.t 1)) (tq 13 (.load 1 false (.t 12)) (tq 14 (.len (.t 13)) (tq 15 (.bin .lss (.t 11) (.t 14)) .done))))))
 (.cond (.t 15) .skip
 (.exit 0)))
 (.seq (.block 1 (.seq (.seq (.reg (tq 18 (.faddr 0 (.t 1)) (tq 19 (.load 1 false (.t 18)) (tm 20 (.t 3) (tq 21 (.iaddr 4 (.t 19) (.t 20)) (tq 22 (.load 4 true (.t 21)) (.l ⟨(some 23),none,.call 77 [(.t 22)]⟩ []
 (tq 24 (.not (.t 23)) (tm 25 (.t 24) (tg 26 25 false (.mov (.t 3)) (tg 27 25 false (.bin .gtr (.t 26) (.c (.int .i64 0))) (tg 28 25 false (.mov (.t 27)) (tg 29 28 true (.faddr 0 (.t 1)) (tg 30 28 true (.load 1 false (.t 29)) (tg 31 28 true (.mov (.t 3)) (tg 32 28 true (.bin .sub (.t 31) (.c (.int .i64 1))) (tg 33 28 true (.iaddr 4 (.t 30) (.t 32)) (tg 34 28 true (.faddr 0 (.t 33)) (tg 35 28 true (.load 1 false (.t 34)) (tg 36 28 true (.faddr 0 (.t 1)) (tg 37 28 true (.load 1 false (.t 36)) (tg 38 28 true (.mov (.t 3)) (tg 39 28 true (.iaddr 4 (.t 37) (.t 38)) (tg 40 28 true (.faddr 0 (.t 39)) (tg 41 28 true (.load 1 false (.t 40)) (tg 42 28 true (.bin .geq (.t 35) (.t 41)) (tg 43 25 false (.pick (.t 28) (.t 42) (.c (.bool false))) (tq 44 (.pick (.t 25) (.c (.bool true)) (.t 43)) .done))))))))))))))))))))) .non)))))))
 (.cut (.cond (.t 44) (.seq (.reg (tm 2 (.c (.bool false)) .done))
 .ret)
 .skip)))
 (.seq (.reg (tm 4 (.c (.int .i64 0)) .done))
 (.block 2 (.loop (.seq (.seq (.reg (tm 45 (.t 4) (tq 46 (.faddr 0 (.t 1)) (tq 47 (.load 1 false (.t 46)) (tm 48 (.t 3) (tq 49 (.iaddr 4 (.t 47) (.t 48)) (tq 50 (.faddr 1 (.t 49)) (tq 51 (.load 1 false (.t 50)) (tq 52 (.len (.t 51)) (tq 53 (.bin .lss (.t 45) (.t 52)) .done))))))))))
 (.cond (.t 53) .skip
 (.exit 2)))
 (.seq (.block 3 (.seq (.reg (tq 56 (.faddr 0 (.t 1)) (tq 57 (.load 1 false (.t 56)) (tm 58 (.t 3) (tq 59 (.iaddr 4 (.t 57) (.t 58)) (tq 60 (.faddr 1 (.t 59)) (tq 61 (.load 1 false (.t 60)) (tm 62 (.t 4) (tq 63 (.iaddr 8 (.t 61) (.t 62)) (tq 64 (.load 8 true (.t 63)) (tq 5 (.box 8 (.c (.agg [(.str []),(.int .i64 0),(.int .i64 0),(.int .i64 0),(.int .i64 0),(.int .i64 0),(.str []),(.bool false)]))) (.q ⟨none,none,.store 8 (.t 5) (.t 64)⟩
 .done))))))))))))
 (.seq (.reg (tq 65 (.faddr 6 (.t 5)) (tq 66 (.load 1 false (.t 65)) (tq 67 (.bin .neq (.t 66) (.c (.str []))) (tm 68 (.t 67) (tg 69 68 true (.load 1 true (.t 1)) (tg 70 68 true (.faddr 6 (.t 5)) (tg 71 68 true (.load 1 false (.t 70)) (tg 72 68 true (.call 96 [(.t 69),(.t 71)]) (tg 73 68 true (.bin .lss (.t 72) (.c (.int .i64 0))) (tq 74 (.pick (.t 68) (.t 73) (.c (.bool false))) .done)))))))))))
 (.cut (.cond (.t 74) (.seq (.reg (tm 2 (.c (.bool false)) .done))
 .ret)
 .skip)))))
 (.reg (tm 54 (.t 4) (tq 55 (.bin .add (.t 54) (.c (.int .i64 1))) (tm 4 (.t 55) .done)))))))))))
 (.cut (.reg (tm 16 (.t 3) (tq 17 (.bin .add (.t 16) (.c (.int .i64 1))) (tm 3 (.t 17) .done))))))))))
 (.cut (.seq (.reg (tm 2 (.c (.bool true)) .done))
 .ret)))))
theorem fc35:fcomp Tryz.prog Tryz.f35 = some (c35.erase,[.mov (.t 2)],75):=by kernel_rfl
def spec_SchemaOK_L2 (s_1:GSchema):List GColumn → Option (Fl Bool Unit)
  | [] =>
    some (.go ())
  | x_539 :: xs =>
    ((if (!(x_539.Ref == [])) then
    (spec_l04Find s_1 x_539.Ref).bind fun r_548 =>
    some (decide (r_548 < 0))
    else
    some false:Option Bool)).bind fun s74_545 =>
    if s74_545 then
    some (.ret false)
    else
    spec_SchemaOK_L2 s_1 xs 

def spec_SchemaOK_L1 (s_1:GSchema):List GTable → Nat → Option (Fl Bool Unit)
  | [],i_311 =>
    some (.go ())
  | x_472 :: xs,i_311 =>
    (((spec_l04Table x_472).bind fun r_483 =>
    if (!r_483) then
    some true
    else
    if (decide ((i_311:Int) > 0)) then
    (idx s_1.Tables (w64 ((i_311:Int) - 1))).bind fun x_487 =>
    some (!Op.bytesLess x_487.Name x_472.Name)
    else
    some false:Option Bool)).bind fun s44_481 =>
    if s44_481 then
    some (.ret false)
    else
    (spec_SchemaOK_L2 s_1 x_472.Columns ).bind fun q => (match q with
    | .ret r => some (.ret r)
    | .go _ =>
    spec_SchemaOK_L1 s_1 xs (i_311 + 1))

def spec_SchemaOK (s_1:GSchema):Option Bool :=
    (spec_l01In (s_1.Tables.length:Int) 1 4).bind fun r_3 =>
    if (!r_3) then
    some false
    else
    (spec_SchemaOK_L1 s_1 s_1.Tables 0).bind fun q => (match q with
    | .ret r => some r
    | .go _ =>
    some true)
theorem w_spec_SchemaOK (s_1:GSchema) (r:Bool) (hf:spec_SchemaOK s_1 = some r):CallOK Tryz.prog 35 .flat [(encGSchema s_1)] (.bool r):=by
 refine CallOK.of_awp mixed Tryz.func35 fc35 nle ?_;rw [argT_eq];unfold spec_SchemaOK at hf;unfold c35;refine (show awp Tryz.prog false 0 _ (ofL [(0,(encGSchema s_1))]) [] _ from ?_);refine sr<|s_do (o_box (j:=0) (c:=(.agg [(.lst 4 (s_1.Tables.map encGTable))])) rfl trivial rfl rfl)<|s_mov (.bool false) rfl<|dk<|awp_seq<|sr<|?_
 obtain ⟨r_3,er4,hf⟩:=ob hf
 refine s_q (.ptr 0 0 0) rfl trivial rfl<|s_q (.lst 4 (s_1.Tables.map encGTable)) rfl nle rfl<|s_dof (o_len (enc:=encGTable) rfl) fun hl2 => s_do (o_call (w_spec_l01In _ _ _ _ er4) rfl (.refl _) rfl)<|s_q (.bool (!r_3)) rfl trivial rfl<|dk<|?_
 rcases oi hf with ⟨c5,hf⟩ | ⟨c5,hf⟩
 ·refine w_condt rfl c5<|sr<|s_mov (.bool false) rfl<|dk<|w_ret<|?_;obtain rfl:=os hf;exact r_flat ⟨trivial,trivial⟩ rfl (.refl _)
 ·refine w_condf rfl (bf c5)<|w_skip<|k_seq<|awp_seq<|sr<|s_mov (.int .i64 0) rfl<|dk<|?_
  obtain ⟨p465,hb1,hf⟩:=ob hf
  refine awp_cutx (X:={q:Unit // p465 = .go q}) (fun q => ([],[])) ?_ ?_
  ·refine awp_loop (X:={q:Nat // spec_SchemaOK_L1 s_1 (s_1.Tables.drop q) q = some p465}) (fun q => ([(1,(.ptr 0 0 0)),(3,(.int .i64 (q.1:Int)))],[.box 1 (.agg [(.lst 4 (s_1.Tables.map encGTable))])])) (fun q => s_1.Tables.length - q.1) ⟨0,hb1⟩ ⟨[],[0],_,_,rfl,rfl,⟨.refl _,⟨.refl _,trivial⟩⟩,(.refl _)⟩ ?_
   rintro ⟨i_311,hc1⟩
   have hc1:spec_SchemaOK_L1 s_1 (s_1.Tables.drop i_311) i_311 = some p465:=hc1
   refine (show awp Tryz.prog false 0 _ (ofL [(1,(.ptr 0 0 0)),(3,(.int .i64 (i_311:Int)))]) [.box 1 (.agg [(.lst 4 (s_1.Tables.map encGTable))])] _ from ?_)
   rcases dropc s_1.Tables i_311 with ⟨hie468,hd471⟩ | ⟨hlt466,x_472,hx467,hd471⟩
   ·rw [hd471,spec_SchemaOK_L1.eq_1] at hc1
    have hq470:=dlf hie468
    refine awp_seq<|sr<|s_mov (.int .i64 (i_311:Int)) rfl<|s_q (.ptr 0 0 0) rfl trivial rfl<|s_q (.lst 4 (s_1.Tables.map encGTable)) rfl nle rfl<|s_dof (o_len (enc:=encGTable) rfl) fun hl473 => s_q (.bool (decide ((i_311:Int) < (s_1.Tables.length:Int)))) rfl rfl rfl<|dk<|w_condf rfl hq470<|w_exit<|k_seqx<|k_loopx<|k_blkx<|?_;obtain rfl:=os hc1;exact k_cutn ⟨_,rfl⟩ ⟨[],[],_,_,rfl,rfl,trivial,(.refl _)⟩
   ·rw [hd471,spec_SchemaOK_L1.eq_2] at hc1
    have hq470:=dlt hlt466
    refine awp_seq<|sr<|s_mov (.int .i64 (i_311:Int)) rfl<|s_q (.ptr 0 0 0) rfl trivial rfl<|s_q (.lst 4 (s_1.Tables.map encGTable)) rfl nle rfl<|s_dof (o_len (enc:=encGTable) rfl) fun hl474 => s_q (.bool (decide ((i_311:Int) < (s_1.Tables.length:Int)))) rfl rfl rfl<|dk<|w_condt rfl hq470<|w_skip<|k_seq<|awp_seq<|w_blk<|awp_seq<|awp_seq<|?_
    obtain ⟨s44_481,hb2,hc1⟩:=ob hc1
    refine awp_cut ([(1,(.ptr 0 0 0)),(3,(.int .i64 (i_311:Int))),(44,(.bool s44_481))],[.box 1 (.agg [(.lst 4 (s_1.Tables.map encGTable))])]) ?_ ?_
    ·refine w_reg<|s_q (.ptr 0 0 0) rfl trivial rfl<|s_q (.lst 4 (s_1.Tables.map encGTable)) rfl nle rfl<|s_mov (.int .i64 (i_311:Int)) rfl<|s_do (o_iaddrn (enc:=encGTable) rfl rfl hx467)<|s_q (encGTable x_472) rfl nle rfl<|?_
     obtain ⟨r_483,er484,hb2⟩:=ob hb2
     refine s_dol (o_call (w_spec_l04Table _ _ er484) rfl (.refl _) rfl) a_same trivial<|s_q (.bool (!r_483)) rfl trivial rfl<|s_mov (.bool (!r_483)) rfl<|?_
     rcases oi hb2 with ⟨c485,hb2⟩ | ⟨c485,hb2⟩
     ·refine s_lit (s:=25) (b:=true) rfl c485<|s_off rfl rfl<|s_off rfl rfl<|s_off rfl rfl<|s_offs rfl<|s_offs rfl<|s_offs rfl<|s_offs rfl<|s_offs rfl<|s_offs rfl<|s_offs rfl<|s_offs rfl<|s_offs rfl<|s_offs rfl<|s_offs rfl<|s_offs rfl<|s_offs rfl<|s_offs rfl<|s_off rfl rfl<|s_q (.bool true) rfl trivial rfl<|w_done<|?_;obtain rfl:=os hb2;exact ⟨[],[0],_,_,rfl,rfl,⟨.refl _,⟨.refl _,⟨.refl _,trivial⟩⟩⟩,(.refl _)⟩
     ·refine s_lit (s:=25) (b:=false) rfl (bf c485)<|s_on rfl<|s_mov (.int .i64 (i_311:Int)) rfl<|s_on rfl<|s_q (.bool (decide ((i_311:Int) > 0))) rfl rfl rfl<|s_on rfl<|s_mov (.bool (decide ((i_311:Int) > 0))) rfl<|?_
      rcases oi hb2 with ⟨c486,hb2⟩ | ⟨c486,hb2⟩
      ·refine s_lit (s:=28) (b:=true) rfl c486<|s_on rfl<|s_q (.ptr 0 0 0) rfl trivial rfl<|s_on rfl<|s_q (.lst 4 (s_1.Tables.map encGTable)) rfl nle rfl<|s_on rfl<|s_mov (.int .i64 (i_311:Int)) rfl<|s_on rfl<|s_q (.int .i64 (w64 ((i_311:Int) - 1))) rfl rfl rfl<|s_on rfl<|?_
       obtain ⟨x_487,ex488,hb2⟩:=ob hb2
       refine s_do (o_iaddr (enc:=encGTable) rfl rfl (idx0 ex488) (idx1 ex488))<|s_on rfl<|s_q (.iptr (encGTable x_487) 0) rfl trivial rfl<|s_on rfl<|s_q (.str x_487.Name) rfl nle rfl<|s_on rfl<|s_q (.ptr 0 0 0) rfl trivial rfl<|s_on rfl<|s_q (.lst 4 (s_1.Tables.map encGTable)) rfl nle rfl<|s_on rfl<|s_mov (.int .i64 (i_311:Int)) rfl<|s_on rfl<|s_do (o_iaddrn (enc:=encGTable) rfl rfl hx467)<|s_on rfl<|s_q (.iptr (encGTable x_472) 0) rfl trivial rfl<|s_on rfl<|s_q (.str x_472.Name) rfl nle rfl<|s_on rfl<|s_q (.bool (!Op.bytesLess x_487.Name x_472.Name)) rfl trivial rfl<|s_on rfl<|s_q (.bool (!Op.bytesLess x_487.Name x_472.Name)) rfl trivial rfl<|s_q (.bool (!Op.bytesLess x_487.Name x_472.Name)) rfl trivial rfl<|?_
       refine w_done ?_;obtain rfl:=os hb2;exact ⟨[],[0],_,_,rfl,rfl,⟨.refl _,⟨.refl _,⟨.refl _,trivial⟩⟩⟩,(.refl _)⟩
      ·refine s_lit (s:=28) (b:=false) rfl (bf c486)<|s_off rfl rfl<|s_off rfl rfl<|s_off rfl rfl<|s_off rfl rfl<|s_off rfl rfl<|s_off rfl rfl<|s_off rfl rfl<|s_off rfl rfl<|s_off rfl rfl<|s_off rfl rfl<|s_off rfl rfl<|s_off rfl rfl<|s_off rfl rfl<|s_off rfl rfl<|s_on rfl<|s_q (.bool false) rfl trivial rfl<|s_q (.bool false) rfl trivial rfl<|w_done<|?_;obtain rfl:=os hb2;exact ⟨[],[0],_,_,rfl,rfl,⟨.refl _,⟨.refl _,⟨.refl _,trivial⟩⟩⟩,(.refl _)⟩
    ·rcases oi hc1 with ⟨c489,hc1⟩ | ⟨c489,hc1⟩
     ·refine w_condt rfl c489<|sr<|s_mov (.bool false) rfl<|dk<|w_ret<|?_;obtain rfl:=os hc1;obtain rfl:=os hf;exact r_flat ⟨trivial,trivial⟩ rfl (.refl _)
     ·refine w_condf rfl (bf c489)<|w_skip<|k_seq<|sr<|s_mov (.int .i64 0) rfl<|dk<|?_
      obtain ⟨p532,hb2,hc1⟩:=ob hc1
      refine awp_cutxb (X:={q:Unit // p532 = .go q}) (fun q => ([(1,(.ptr 0 0 0)),(3,(.int .i64 (i_311:Int)))],[.box 1 (.agg [(.lst 4 (s_1.Tables.map encGTable))])])) ?_ ?_
      ·refine awp_loop (X:={q:Nat // spec_SchemaOK_L2 s_1 (x_472.Columns.drop q)  = some p532}) (fun q => ([(1,(.ptr 0 0 0)),(3,(.int .i64 (i_311:Int))),(4,(.int .i64 (q.1:Int)))],[.box 1 (.agg [(.lst 4 (s_1.Tables.map encGTable))])])) (fun q => x_472.Columns.length - q.1) ⟨0,hb2⟩ ⟨[],[0],_,_,rfl,rfl,⟨.refl _,⟨.refl _,⟨.refl _,trivial⟩⟩⟩,(.refl _)⟩ ?_
       rintro ⟨k_517,hc2⟩
       have hc2:spec_SchemaOK_L2 s_1 (x_472.Columns.drop k_517)  = some p532:=hc2
       refine (show awp Tryz.prog false 0 _ (ofL [(1,(.ptr 0 0 0)),(3,(.int .i64 (i_311:Int))),(4,(.int .i64 (k_517:Int)))]) [.box 1 (.agg [(.lst 4 (s_1.Tables.map encGTable))])] _ from ?_)
       rcases dropc x_472.Columns k_517 with ⟨hie535,hd538⟩ | ⟨hlt533,x_539,hx534,hd538⟩
       ·rw [hd538,spec_SchemaOK_L2.eq_1] at hc2
        have hq537:=dlf hie535
        refine awp_seq<|sr<|s_mov (.int .i64 (k_517:Int)) rfl<|s_q (.ptr 0 0 0) rfl trivial rfl<|s_q (.lst 4 (s_1.Tables.map encGTable)) rfl nle rfl<|s_mov (.int .i64 (i_311:Int)) rfl<|s_do (o_iaddrn (enc:=encGTable) rfl rfl hx467)<|s_q (.iptr (encGTable x_472) 1) rfl trivial rfl<|s_q (.lst 8 (x_472.Columns.map encGColumn)) rfl nle rfl<|s_dof (o_len (enc:=encGColumn) rfl) fun hl540 => s_q (.bool (decide ((k_517:Int) < (x_472.Columns.length:Int)))) rfl rfl rfl<|dk<|w_condf rfl hq537<|w_exit<|k_seqx<|k_loopx<|k_blkx<|?_;refine k_blk ?_;obtain rfl:=os hc2;exact k_cutn ⟨_,rfl⟩ ⟨[],[0],_,_,rfl,rfl,⟨.refl _,⟨.refl _,trivial⟩⟩,(.refl _)⟩
       ·rw [hd538,spec_SchemaOK_L2.eq_2] at hc2
        have hq537:=dlt hlt533
        refine awp_seq<|sr<|s_mov (.int .i64 (k_517:Int)) rfl<|s_q (.ptr 0 0 0) rfl trivial rfl<|s_q (.lst 4 (s_1.Tables.map encGTable)) rfl nle rfl<|s_mov (.int .i64 (i_311:Int)) rfl<|s_do (o_iaddrn (enc:=encGTable) rfl rfl hx467)<|s_q (.iptr (encGTable x_472) 1) rfl trivial rfl<|s_q (.lst 8 (x_472.Columns.map encGColumn)) rfl nle rfl<|s_dof (o_len (enc:=encGColumn) rfl) fun hl541 => s_q (.bool (decide ((k_517:Int) < (x_472.Columns.length:Int)))) rfl rfl rfl<|dk<|w_condt rfl hq537<|w_skip<|k_seq<|awp_seq<|w_blk<|sr<|s_q (.ptr 0 0 0) rfl trivial rfl<|s_q (.lst 4 (s_1.Tables.map encGTable)) rfl nle rfl<|s_mov (.int .i64 (i_311:Int)) rfl<|?_
        refine s_do (o_iaddrn (enc:=encGTable) rfl rfl hx467)<|s_q (.iptr (encGTable x_472) 1) rfl trivial rfl<|s_q (.lst 8 (x_472.Columns.map encGColumn)) rfl nle rfl<|s_mov (.int .i64 (k_517:Int)) rfl<|s_do (o_iaddrn (enc:=encGColumn) rfl rfl hx534)<|s_q (encGColumn x_539) rfl nle rfl<|s_do (o_box (j:=1) (c:=(.agg [(.str []),(.int .i64 0),(.int .i64 0),(.int .i64 0),(.int .i64 0),(.int .i64 0),(.str []),(.bool false)])) rfl trivial rfl rfl)<|s_do0 (o_storebox (v:=(.agg [(.str x_539.Name),(.int .i64 x_539.Kind),(.int .i64 x_539.Min),(.int .i64 x_539.Max),(.int .i64 x_539.Low),(.int .i64 x_539.High),(.str x_539.Ref),(.bool x_539.Strong)])) (y':=(.agg [(.str x_539.Name),(.int .i64 x_539.Kind),(.int .i64 x_539.Min),(.int .i64 x_539.Max),(.int .i64 x_539.Low),(.int .i64 x_539.High),(.str x_539.Ref),(.bool x_539.Strong)])) rfl rfl rfl trivial ⟨rfl,nle⟩ ⟨⟨rfl,trivial⟩,⟨⟨rfl,trivial⟩,⟨⟨rfl,trivial⟩,⟨⟨rfl,trivial⟩,⟨⟨rfl,trivial⟩,⟨⟨rfl,trivial⟩,⟨⟨rfl,trivial⟩,⟨⟨rfl,trivial⟩,trivial⟩⟩⟩⟩⟩⟩⟩⟩ rfl)<|?_
        refine dk<|awp_seq<|?_
        obtain ⟨s74_545,hb3,hc2⟩:=ob hc2
        refine awp_cut ([(1,(.ptr 0 0 0)),(3,(.int .i64 (i_311:Int))),(4,(.int .i64 (k_517:Int))),(74,(.bool s74_545))],[.box 1 (.agg [(.lst 4 (s_1.Tables.map encGTable))])]) ?_ ?_
        ·refine w_reg ?_
         rcases oi hb3 with ⟨c547,hb3⟩ | ⟨c547,hb3⟩
         ·obtain ⟨r_548,er549,hb3⟩:=ob hb3
          refine s_q (.ptr 1 0 6) rfl trivial rfl<|s_q (.str x_539.Ref) rfl nle rfl<|s_q (.bool (!(x_539.Ref == []))) rfl trivial rfl<|s_mov (.bool (!(x_539.Ref == []))) rfl<|s_lit (s:=68) (b:=true) rfl c547<|s_on rfl<|s_q (.agg [(.lst 4 (s_1.Tables.map encGTable))]) rfl nle rfl<|s_on rfl<|s_q (.ptr 1 0 6) rfl trivial rfl<|s_on rfl<|s_q (.str x_539.Ref) rfl nle rfl<|s_on rfl<|s_do (o_call (w_spec_l04Find _ _ _ er549) rfl (.refl _) rfl)<|s_on rfl<|s_q (.bool (decide (r_548 < 0))) rfl rfl rfl<|s_q (.bool (decide (r_548 < 0))) rfl trivial rfl<|w_done<|?_;obtain rfl:=os hb3;exact ⟨[],[0],_,_,rfl,rfl,⟨.refl _,⟨.refl _,⟨.refl _,⟨.refl _,trivial⟩⟩⟩⟩,(.refl _)⟩
         ·refine s_q (.ptr 1 0 6) rfl trivial rfl<|s_q (.str x_539.Ref) rfl nle rfl<|s_q (.bool (!(x_539.Ref == []))) rfl trivial rfl<|s_mov (.bool (!(x_539.Ref == []))) rfl<|s_lit (s:=68) (b:=false) rfl (bf c547)<|s_off rfl rfl<|s_off rfl rfl<|s_off rfl rfl<|s_off rfl rfl<|s_off rfl rfl<|s_q (.bool false) rfl trivial rfl<|w_done<|?_;obtain rfl:=os hb3;exact ⟨[],[0],_,_,rfl,rfl,⟨.refl _,⟨.refl _,⟨.refl _,⟨.refl _,trivial⟩⟩⟩⟩,(.refl _)⟩
        ·rcases oi hc2 with ⟨c550,hc2⟩ | ⟨c550,hc2⟩
         ·refine w_condt rfl c550<|sr<|s_mov (.bool false) rfl<|dk<|w_ret<|?_;obtain rfl:=os hc2;obtain rfl:=os hc1;obtain rfl:=os hf;exact r_flat ⟨trivial,trivial⟩ rfl (.refl _)
         ·refine w_condf rfl (bf c550)<|w_skip<|k_blk<|k_seq<|w_reg<|s_mov (.int .i64 (k_517:Int)) rfl<|s_q (.int .i64 (w64 ((k_517:Int) + 1))) rfl rfl rfl<|s_mov (.int .i64 (w64 ((k_517:Int) + 1))) rfl<|w_done<|?_;exact k_loopn ⟨(k_517 + 1),hc2⟩ (mul hlt533) ⟨[],[0],_,_,rfl,rfl,⟨.refl _,⟨.refl _,⟨.of_eq (congrArg (AV.int _) (w64_incr hlt533 hl541)),trivial⟩⟩⟩,(.refl _)⟩
      ·rintro ⟨_,rfl⟩
       refine w_reg<|s_mov (.int .i64 (i_311:Int)) rfl<|s_q (.int .i64 (w64 ((i_311:Int) + 1))) rfl rfl rfl<|s_mov (.int .i64 (w64 ((i_311:Int) + 1))) rfl<|w_done<|?_;exact k_loopn ⟨(i_311 + 1),hc1⟩ (mul hlt466) ⟨[],[0],_,_,rfl,rfl,⟨.refl _,⟨.of_eq (congrArg (AV.int _) (w64_incr hlt466 hl474)),trivial⟩⟩,(.refl _)⟩
  ·rintro ⟨_,rfl⟩
   refine sr<|s_mov (.bool true) rfl<|dk<|w_ret<|?_;obtain rfl:=os hf;exact r_flat ⟨trivial,trivial⟩ rfl (.refl _)

/- spec.l01Text -/
def c220:ACode :=
 (.seq (.reg (tm 2 (.c (.bool false)) .done))
 (.seq (.seq (.reg (tm 3 (.c (.int .i64 0)) .done))
 (.block 0 (.loop (.seq (.seq (.reg (tm 4 (.t 3) (tm 5 (.t 0) (tq 6 (.lenS (.t 5)) (tq 7 (.bin .lss (.t 4) (.t 6)) .done)))))
 (.cond (.t 7) .skip
 (.exit 0)))
 (.seq (.block 1 (.seq (.reg (tm 10 (.t 0) (tm 11 (.t 3) (tq 12 (.idxs (.t 10) (.t 11)) (tq 13 (.bin .lss (.t 12) (.c (.int .u8 32))) (tm 14 (.t 13) (tg 15 14 false (.mov (.t 0)) (tg 16 14 false (.mov (.t 3)) (tg 17 14 false (.idxs (.t 15) (.t 16)) (tg 18 14 false (.bin .gtr (.t 17) (.c (.int .u8 126))) (tq 19 (.pick (.t 14) (.c (.bool true)) (.t 18)) .done)))))))))))
 (.cut (.cond (.t 19) (.seq (.reg (tm 2 (.c (.bool false)) .done))
 .ret)
 .skip))))
 (.reg (tm 8 (.t 3) (tq 9 (.bin .add (.t 8) (.c (.int .i64 1))) (tm 3 (.t 9) .done)))))))))
 (.cut (.seq (.reg (tm 20 (.t 0) (tq 21 (.lenS (.t 20)) (tq 22 (.bin .leq (.t 21) (.c (.int .i64 200))) (tm 2 (.t 22) .done)))))
 .ret))))
theorem fc220:fcomp Tryz.prog Tryz.f220 = some (c220.erase,[.mov (.t 2)],23):=by kernel_rfl
def spec_l01Text_L1 :List UInt8 → Option (Fl Bool Unit)
  | [] =>
    some (.go ())
  | x_57 :: xs =>
    ((if (decide ((x_57.toNat:Int) < 32)) then
    some true
    else
    some (decide ((x_57.toNat:Int) > 126)):Option Bool)).bind fun s19_61 =>
    if s19_61 then
    some (.ret false)
    else
    spec_l01Text_L1 xs 

def spec_l01Text (t_1:Str):Option Bool :=
    (spec_l01Text_L1 t_1 ).bind fun q => (match q with
    | .ret r => some r
    | .go _ =>
    some (decide ((t_1.length:Int) ≤ 200)))
theorem w_spec_l01Text (t_1:Str) (r:Bool) (hf:spec_l01Text t_1 = some r):CallOK Tryz.prog 220 .flat [(.str t_1)] (.bool r):=by
 refine CallOK.of_awp mixed Tryz.func220 fc220 nle ?_;rw [argT_eq];unfold spec_l01Text at hf;unfold c220;refine (show awp Tryz.prog false 0 _ (ofL [(0,(.str t_1))]) [] _ from ?_);refine sr<|s_mov (.bool false) rfl<|dk<|awp_seq<|sr<|s_mov (.int .i64 0) rfl<|dk<|?_
 obtain ⟨p50,hb1,hf⟩:=ob hf
 refine awp_cutx (X:={q:Unit // p50 = .go q}) (fun q => ([(0,(.str t_1))],[])) ?_ ?_
 ·refine awp_loop (X:={q:Nat // spec_l01Text_L1 (t_1.drop q)  = some p50}) (fun q => ([(0,(.str t_1)),(3,(.int .i64 (q.1:Int)))],[])) (fun q => t_1.length - q.1) ⟨0,hb1⟩ ⟨[],[],_,_,rfl,rfl,⟨.refl _,⟨.refl _,trivial⟩⟩,(.refl _)⟩ ?_
  rintro ⟨i_33,hc1⟩
  have hc1:spec_l01Text_L1 (t_1.drop i_33)  = some p50:=hc1
  refine (show awp Tryz.prog false 0 _ (ofL [(0,(.str t_1)),(3,(.int .i64 (i_33:Int)))]) [] _ from ?_)
  rcases dropc t_1 i_33 with ⟨hie53,hd56⟩ | ⟨hlt51,x_57,hx52,hd56⟩
  ·rw [hd56,spec_l01Text_L1.eq_1] at hc1
   have hq55:=dlf hie53
   refine awp_seq<|sr<|s_mov (.int .i64 (i_33:Int)) rfl<|s_mov (.str t_1) rfl<|s_dof (o_lenS rfl) fun hl58 => s_q (.bool (decide ((i_33:Int) < (t_1.length:Int)))) rfl rfl rfl<|dk<|w_condf rfl hq55<|w_exit<|k_seqx<|k_loopx<|k_blkx<|?_;obtain rfl:=os hc1;exact k_cutn ⟨_,rfl⟩ ⟨[],[],_,_,rfl,rfl,⟨.refl _,trivial⟩,(.refl _)⟩
  ·rw [hd56,spec_l01Text_L1.eq_2] at hc1
   have hq55:=dlt hlt51
   refine awp_seq<|sr<|s_mov (.int .i64 (i_33:Int)) rfl<|s_mov (.str t_1) rfl<|s_dof (o_lenS rfl) fun hl59 => s_q (.bool (decide ((i_33:Int) < (t_1.length:Int)))) rfl rfl rfl<|dk<|w_condt rfl hq55<|w_skip<|k_seq<|awp_seq<|w_blk<|awp_seq<|?_
   obtain ⟨s19_61,hb2,hc1⟩:=ob hc1
   refine awp_cut ([(0,(.str t_1)),(3,(.int .i64 (i_33:Int))),(19,(.bool s19_61))],[]) ?_ ?_
   ·refine w_reg ?_
    rcases oi hb2 with ⟨c63,hb2⟩ | ⟨c63,hb2⟩
    ·refine s_mov (.str t_1) rfl<|s_mov (.int .i64 (i_33:Int)) rfl<|s_do (o_idxsn rfl rfl hx52)<|s_q (.bool (decide ((x_57.toNat:Int) < 32))) rfl rfl rfl<|s_mov (.bool (decide ((x_57.toNat:Int) < 32))) rfl<|s_lit (s:=14) (b:=true) rfl c63<|s_off rfl rfl<|s_off rfl rfl<|s_off rfl rfl<|s_off rfl rfl<|s_q (.bool true) rfl trivial rfl<|w_done<|?_;obtain rfl:=os hb2;exact ⟨[],[],_,_,rfl,rfl,⟨.refl _,⟨.refl _,⟨.refl _,trivial⟩⟩⟩,(.refl _)⟩
    ·refine s_mov (.str t_1) rfl<|s_mov (.int .i64 (i_33:Int)) rfl<|s_do (o_idxsn rfl rfl hx52)<|s_q (.bool (decide ((x_57.toNat:Int) < 32))) rfl rfl rfl<|s_mov (.bool (decide ((x_57.toNat:Int) < 32))) rfl<|s_lit (s:=14) (b:=false) rfl (bf c63)<|s_on rfl<|s_mov (.str t_1) rfl<|s_on rfl<|s_mov (.int .i64 (i_33:Int)) rfl<|s_on rfl<|s_do (o_idxsn rfl rfl hx52)<|s_on rfl<|s_q (.bool (decide ((x_57.toNat:Int) > 126))) rfl rfl rfl<|s_q (.bool (decide ((x_57.toNat:Int) > 126))) rfl trivial rfl<|w_done<|?_;obtain rfl:=os hb2;exact ⟨[],[],_,_,rfl,rfl,⟨.refl _,⟨.refl _,⟨.refl _,trivial⟩⟩⟩,(.refl _)⟩
   ·rcases oi hc1 with ⟨c64,hc1⟩ | ⟨c64,hc1⟩
    ·refine w_condt rfl c64<|sr<|s_mov (.bool false) rfl<|dk<|w_ret<|?_;obtain rfl:=os hc1;obtain rfl:=os hf;exact r_flat ⟨trivial,trivial⟩ rfl (.refl _)
    ·refine w_condf rfl (bf c64)<|w_skip<|k_blk<|k_seq<|w_reg<|s_mov (.int .i64 (i_33:Int)) rfl<|s_q (.int .i64 (w64 ((i_33:Int) + 1))) rfl rfl rfl<|s_mov (.int .i64 (w64 ((i_33:Int) + 1))) rfl<|w_done<|?_;exact k_loopn ⟨(i_33 + 1),hc1⟩ (mul hlt51) ⟨[],[],_,_,rfl,rfl,⟨.refl _,⟨.of_eq (congrArg (AV.int _) (w64_incr hlt51 hl59)),trivial⟩⟩,(.refl _)⟩
 ·rintro ⟨_,rfl⟩
  refine sr<|s_mov (.str t_1) rfl<|s_dof (o_lenS rfl) fun hl65 => s_q (.bool (decide ((t_1.length:Int) ≤ 200))) rfl rfl rfl<|s_mov (.bool (decide ((t_1.length:Int) ≤ 200))) rfl<|dk<|w_ret<|?_;obtain rfl:=os hf;exact r_flat ⟨trivial,trivial⟩ rfl (.refl _)

/- spec.AtomOK -/
def c195:ACode :=
 (.seq (.reg (tq 1 (.box 3 (.t 0)) (tm 2 (.c (.bool false)) .done)))
 (.seq (.seq (.reg (tq 3 (.faddr 0 (.t 1)) (tq 4 (.load 1 false (.t 3)) .done)))
 (.block 0 (.seq (.reg (tq 6 (.bin .eql (.t 4) (.c (.int .i64 1))) (tm 5 (.t 6) .done)))
 (.cond (.t 5) (.seq (.reg (tq 7 (.faddr 1 (.t 1)) (tq 8 (.load 1 false (.t 7)) (tq 9 (.call 95 [(.t 8),(.c (.int .i64 (-1000000000))),(.c (.int .i64 1000000000))]) (tm 10 (.t 9) (tg 11 10 true (.faddr 2 (.t 1)) (tg 12 10 true (.load 1 false (.t 11)) (tg 13 10 true (.bin .eql (.t 12) (.c (.str []))) (tq 14 (.pick (.t 10) (.t 13) (.c (.bool false))) (tm 2 (.t 14) .done))))))))))
 .ret)
 (.seq (.reg (tq 16 (.bin .eql (.t 4) (.c (.int .i64 2))) (tm 15 (.t 16) .done)))
 (.cond (.t 15) (.seq (.reg (tq 17 (.faddr 1 (.t 1)) (tq 18 (.load 1 false (.t 17)) (tq 19 (.bin .eql (.t 18) (.c (.int .i64 0))) (tm 20 (.t 19) (tg 21 20 true (.faddr 2 (.t 1)) (tg 22 20 true (.load 1 false (.t 21)) (tg 23 20 true (.call 220 [(.t 22)]) (tq 24 (.pick (.t 20) (.t 23) (.c (.bool false))) (tm 2 (.t 24) .done))))))))))
 .ret)
 (.seq (.reg (tq 26 (.bin .eql (.t 4) (.c (.int .i64 3))) (tm 25 (.t 26) .done)))
 (.cond (.t 25) (.seq (.reg (tq 27 (.faddr 1 (.t 1)) (tq 28 (.load 1 false (.t 27)) (tq 29 (.call 95 [(.t 28),(.c (.int .i64 0)),(.c (.int .i64 1))]) (tm 30 (.t 29) (tg 31 30 true (.faddr 2 (.t 1)) (tg 32 30 true (.load 1 false (.t 31)) (tg 33 30 true (.bin .eql (.t 32) (.c (.str []))) (tq 34 (.pick (.t 30) (.t 33) (.c (.bool false))) (tm 2 (.t 34) .done))))))))))
 .ret)
 (.seq (.reg (tq 36 (.bin .eql (.t 4) (.c (.int .i64 4))) (tm 35 (.t 36) .done)))
 (.cond (.t 35) (.seq (.reg (tq 37 (.faddr 1 (.t 1)) (tq 38 (.load 1 false (.t 37)) (tq 39 (.call 95 [(.t 38),(.c (.int .i64 1)),(.c (.int .i64 1000000))]) (tm 40 (.t 39) (tg 41 40 true (.faddr 2 (.t 1)) (tg 42 40 true (.load 1 false (.t 41)) (tg 43 40 true (.bin .eql (.t 42) (.c (.str []))) (tq 44 (.pick (.t 40) (.t 43) (.c (.bool false))) (tm 2 (.t 44) .done))))))))))
 .ret)
 .skip))))))))))
 (.seq (.reg (tm 2 (.c (.bool false)) .done))
 .ret)))
theorem fc195:fcomp Tryz.prog Tryz.f195 = some (c195.erase,[.mov (.t 2)],45):=by kernel_rfl
def spec_AtomOK (a_1:GAtom):Option Bool :=
    if (a_1.Kind == 1) then
    (spec_l01In a_1.N (-1000000000) 1000000000).bind fun r_3 =>
    if r_3 then
    some (a_1.T == [])
    else
    some false
    else
    if (a_1.Kind == 2) then
    if (a_1.N == 0) then
    (spec_l01Text a_1.T).bind fun r_8 =>
    some r_8
    else
    some false
    else
    if (a_1.Kind == 3) then
    (spec_l01In a_1.N 0 1).bind fun r_11 =>
    if r_11 then
    some (a_1.T == [])
    else
    some false
    else
    if (a_1.Kind == 4) then
    (spec_l01In a_1.N 1 1000000).bind fun r_15 =>
    if r_15 then
    some (a_1.T == [])
    else
    some false
    else
    some false
theorem w_spec_AtomOK (a_1:GAtom) (r:Bool) (hf:spec_AtomOK a_1 = some r):CallOK Tryz.prog 195 .flat [(encGAtom a_1)] (.bool r):=by
 refine CallOK.of_awp mixed Tryz.func195 fc195 nle ?_;rw [argT_eq];unfold spec_AtomOK at hf;unfold c195;refine (show awp Tryz.prog false 0 _ (ofL [(0,(encGAtom a_1))]) [] _ from ?_);refine sr<|s_do (o_box (j:=0) (c:=(.agg [(.int .i64 a_1.Kind),(.int .i64 a_1.N),(.str a_1.T)])) rfl trivial rfl rfl)<|s_mov (.bool false) rfl<|dk<|awp_seq<|sr<|s_q (.ptr 0 0 0) rfl trivial rfl<|s_q (.int .i64 a_1.Kind) rfl nle rfl<|dk<|w_blk<|sr<|s_q (.bool (a_1.Kind == 1)) rfl rfl rfl<|s_mov (.bool (a_1.Kind == 1)) rfl<|dk<|?_
 rcases oi hf with ⟨c2,hf⟩ | ⟨c2,hf⟩
 ·refine w_condt rfl c2<|sr<|?_
  obtain ⟨r_3,er4,hf⟩:=ob hf
  rcases oi hf with ⟨c5,hf⟩ | ⟨c5,hf⟩
  ·refine s_q (.ptr 0 0 1) rfl trivial rfl<|s_q (.int .i64 a_1.N) rfl nle rfl<|s_do (o_call (w_spec_l01In _ _ _ _ er4) rfl (.refl _) rfl)<|s_mov (.bool r_3) rfl<|s_lit (s:=10) (b:=true) rfl c5<|s_on rfl<|s_q (.ptr 0 0 2) rfl trivial rfl<|s_on rfl<|s_q (.str a_1.T) rfl nle rfl<|s_on rfl<|s_q (.bool (a_1.T == [])) rfl trivial rfl<|s_q (.bool (a_1.T == [])) rfl trivial rfl<|s_mov (.bool (a_1.T == [])) rfl<|dk<|w_ret<|?_;obtain rfl:=os hf;exact r_flat ⟨trivial,trivial⟩ rfl (.refl _)
  ·refine s_q (.ptr 0 0 1) rfl trivial rfl<|s_q (.int .i64 a_1.N) rfl nle rfl<|s_do (o_call (w_spec_l01In _ _ _ _ er4) rfl (.refl _) rfl)<|s_mov (.bool r_3) rfl<|s_lit (s:=10) (b:=false) rfl (bf c5)<|s_off rfl rfl<|s_off rfl rfl<|s_off rfl rfl<|s_q (.bool false) rfl trivial rfl<|s_mov (.bool false) rfl<|dk<|w_ret<|?_;obtain rfl:=os hf;exact r_flat ⟨trivial,trivial⟩ rfl (.refl _)
 ·refine w_condf rfl (bf c2)<|sr<|s_q (.bool (a_1.Kind == 2)) rfl rfl rfl<|s_mov (.bool (a_1.Kind == 2)) rfl<|dk<|?_
  rcases oi hf with ⟨c6,hf⟩ | ⟨c6,hf⟩
  ·refine w_condt rfl c6<|sr<|?_
   rcases oi hf with ⟨c7,hf⟩ | ⟨c7,hf⟩
   ·obtain ⟨r_8,er9,hf⟩:=ob hf
    refine s_q (.ptr 0 0 1) rfl trivial rfl<|s_q (.int .i64 a_1.N) rfl nle rfl<|s_q (.bool (a_1.N == 0)) rfl rfl rfl<|s_mov (.bool (a_1.N == 0)) rfl<|s_lit (s:=20) (b:=true) rfl c7<|s_on rfl<|s_q (.ptr 0 0 2) rfl trivial rfl<|s_on rfl<|s_q (.str a_1.T) rfl nle rfl<|s_on rfl<|s_do (o_call (w_spec_l01Text _ _ er9) rfl (.refl _) rfl)<|s_q (.bool r_8) rfl trivial rfl<|s_mov (.bool r_8) rfl<|dk<|w_ret<|?_;obtain rfl:=os hf;exact r_flat ⟨trivial,trivial⟩ rfl (.refl _)
   ·refine s_q (.ptr 0 0 1) rfl trivial rfl<|s_q (.int .i64 a_1.N) rfl nle rfl<|s_q (.bool (a_1.N == 0)) rfl rfl rfl<|s_mov (.bool (a_1.N == 0)) rfl<|s_lit (s:=20) (b:=false) rfl (bf c7)<|s_off rfl rfl<|s_off rfl rfl<|s_off rfl rfl<|s_q (.bool false) rfl trivial rfl<|s_mov (.bool false) rfl<|dk<|w_ret<|?_;obtain rfl:=os hf;exact r_flat ⟨trivial,trivial⟩ rfl (.refl _)
  ·refine w_condf rfl (bf c6)<|sr<|s_q (.bool (a_1.Kind == 3)) rfl rfl rfl<|s_mov (.bool (a_1.Kind == 3)) rfl<|dk<|?_
   rcases oi hf with ⟨c10,hf⟩ | ⟨c10,hf⟩
   ·refine w_condt rfl c10<|sr<|?_
    obtain ⟨r_11,er12,hf⟩:=ob hf
    rcases oi hf with ⟨c13,hf⟩ | ⟨c13,hf⟩
    ·refine s_q (.ptr 0 0 1) rfl trivial rfl<|s_q (.int .i64 a_1.N) rfl nle rfl<|s_do (o_call (w_spec_l01In _ _ _ _ er12) rfl (.refl _) rfl)<|s_mov (.bool r_11) rfl<|s_lit (s:=30) (b:=true) rfl c13<|s_on rfl<|s_q (.ptr 0 0 2) rfl trivial rfl<|s_on rfl<|s_q (.str a_1.T) rfl nle rfl<|s_on rfl<|s_q (.bool (a_1.T == [])) rfl trivial rfl<|s_q (.bool (a_1.T == [])) rfl trivial rfl<|s_mov (.bool (a_1.T == [])) rfl<|dk<|w_ret<|?_;obtain rfl:=os hf;exact r_flat ⟨trivial,trivial⟩ rfl (.refl _)
    ·refine s_q (.ptr 0 0 1) rfl trivial rfl<|s_q (.int .i64 a_1.N) rfl nle rfl<|s_do (o_call (w_spec_l01In _ _ _ _ er12) rfl (.refl _) rfl)<|s_mov (.bool r_11) rfl<|s_lit (s:=30) (b:=false) rfl (bf c13)<|s_off rfl rfl<|s_off rfl rfl<|s_off rfl rfl<|s_q (.bool false) rfl trivial rfl<|s_mov (.bool false) rfl<|dk<|w_ret<|?_;obtain rfl:=os hf;exact r_flat ⟨trivial,trivial⟩ rfl (.refl _)
   ·refine w_condf rfl (bf c10)<|sr<|s_q (.bool (a_1.Kind == 4)) rfl rfl rfl<|s_mov (.bool (a_1.Kind == 4)) rfl<|dk<|?_
    rcases oi hf with ⟨c14,hf⟩ | ⟨c14,hf⟩
    ·refine w_condt rfl c14<|sr<|?_
     obtain ⟨r_15,er16,hf⟩:=ob hf
     rcases oi hf with ⟨c17,hf⟩ | ⟨c17,hf⟩
     ·refine s_q (.ptr 0 0 1) rfl trivial rfl<|s_q (.int .i64 a_1.N) rfl nle rfl<|s_do (o_call (w_spec_l01In _ _ _ _ er16) rfl (.refl _) rfl)<|s_mov (.bool r_15) rfl<|s_lit (s:=40) (b:=true) rfl c17<|s_on rfl<|s_q (.ptr 0 0 2) rfl trivial rfl<|s_on rfl<|s_q (.str a_1.T) rfl nle rfl<|s_on rfl<|s_q (.bool (a_1.T == [])) rfl trivial rfl<|s_q (.bool (a_1.T == [])) rfl trivial rfl<|s_mov (.bool (a_1.T == [])) rfl<|dk<|w_ret<|?_;obtain rfl:=os hf;exact r_flat ⟨trivial,trivial⟩ rfl (.refl _)
     ·refine s_q (.ptr 0 0 1) rfl trivial rfl<|s_q (.int .i64 a_1.N) rfl nle rfl<|s_do (o_call (w_spec_l01In _ _ _ _ er16) rfl (.refl _) rfl)<|s_mov (.bool r_15) rfl<|s_lit (s:=40) (b:=false) rfl (bf c17)<|s_off rfl rfl<|s_off rfl rfl<|s_off rfl rfl<|s_q (.bool false) rfl trivial rfl<|s_mov (.bool false) rfl<|dk<|w_ret<|?_;obtain rfl:=os hf;exact r_flat ⟨trivial,trivial⟩ rfl (.refl _)
    ·refine w_condf rfl (bf c14)<|w_skip<|k_blk<|k_seq<|sr<|s_mov (.bool false) rfl<|dk<|w_ret<|?_;obtain rfl:=os hf;exact r_flat ⟨trivial,trivial⟩ rfl (.refl _)

/- spec.l01Bit -/
def c221:ACode :=
 (.seq (.reg (tm 2 (.c (.int .i64 0)) .done))
 (.seq (.seq (.reg (tm 3 (.t 0) .done))
 (.cond (.t 3) (.seq (.reg (tm 2 (.c (.int .i64 1)) .done))
 .ret)
 .skip))
 (.seq (.reg (tm 2 (.c (.int .i64 0)) .done))
 .ret)))
theorem fc221:fcomp Tryz.prog Tryz.f221 = some (c221.erase,[.mov (.t 2)],4):=by kernel_rfl
def spec_l01Bit (b_1:Bool):Option Int :=
    if b_1 then
    some 1
    else
    some 0
theorem w_spec_l01Bit (b_1:Bool) (r:Int) (hf:spec_l01Bit b_1 = some r):CallOK Tryz.prog 221 .flat [(.bool b_1)] (.int .i64 r):=by
  refine CallOK.of_awp mixed Tryz.func221 fc221 nle ?_
  rw [argT_eq]
  unfold spec_l01Bit at hf
  unfold c221
  refine (show awp Tryz.prog false 0 _ (ofL [(0,(.bool b_1))]) [] _ from ?_)
  refine awp_seq ?_
  refine w_reg ?_
  refine s_do (o_mov (.int .i64 0) rfl) ?_
  refine w_done ?_
  refine k_seq ?_
  refine awp_seq ?_
  refine awp_seq ?_
  refine w_reg ?_
  refine s_do (o_mov (.bool b_1) rfl) ?_
  refine w_done ?_
  refine k_seq ?_
  rcases oi hf with ⟨c2,hf⟩ | ⟨c2,hf⟩
  · refine w_condt rfl c2 ?_
    refine awp_seq ?_
    refine w_reg ?_
    refine s_do (o_mov (.int .i64 1) rfl) ?_
    refine w_done ?_
    refine k_seq ?_
    refine w_ret ?_
    obtain rfl:=os hf
    exact r_flat ⟨trivial,trivial⟩ rfl (.refl _)
  · refine w_condf rfl (bf c2) ?_
    refine w_skip ?_
    refine k_seq ?_
    refine awp_seq ?_
    refine w_reg ?_
    refine s_do (o_mov (.int .i64 0) rfl) ?_
    refine w_done ?_
    refine k_seq ?_
    refine w_ret ?_
    obtain rfl:=os hf
    exact r_flat ⟨trivial,trivial⟩ rfl (.refl _)

/- spec.l03Order -/
def c196:ACode :=
 (.seq (.reg (tq 2 (.box 3 (.t 0)) (tq 3 (.box 3 (.t 1)) (tm 4 (.c (.int .i64 0)) .done))))
 (.seq (.block 0 (.seq (.reg (tq 6 (.faddr 0 (.t 2)) (tq 7 (.load 1 false (.t 6)) (tq 8 (.faddr 0 (.t 3)) (tq 9 (.load 1 false (.t 8)) (tq 10 (.bin .neq (.t 7) (.t 9)) (tm 5 (.t 10) .done)))))))
 (.cond (.t 5) (.seq (.reg (tq 11 (.faddr 0 (.t 2)) (tq 12 (.load 1 false (.t 11)) (tq 13 (.faddr 0 (.t 3)) (tq 14 (.load 1 false (.t 13)) (tq 15 (.bin .lss (.t 12) (.t 14)) (tq 16 (.call 221 [(.t 15)]) (tq 17 (.bin .mul (.c (.int .i64 2)) (.t 16)) (tq 18 (.bin .sub (.c (.int .i64 1)) (.t 17)) (tm 4 (.t 18) .done))))))))))
 .ret)
 (.seq (.reg (tq 20 (.faddr 1 (.t 2)) (tq 21 (.load 1 false (.t 20)) (tq 22 (.faddr 1 (.t 3)) (tq 23 (.load 1 false (.t 22)) (tq 24 (.bin .neq (.t 21) (.t 23)) (tm 19 (.t 24) .done)))))))
 (.cond (.t 19) (.seq (.reg (tq 25 (.faddr 1 (.t 2)) (tq 26 (.load 1 false (.t 25)) (tq 27 (.faddr 1 (.t 3)) (tq 28 (.load 1 false (.t 27)) (tq 29 (.bin .lss (.t 26) (.t 28)) (tq 30 (.call 221 [(.t 29)]) (tq 31 (.bin .mul (.c (.int .i64 2)) (.t 30)) (tq 32 (.bin .sub (.c (.int .i64 1)) (.t 31)) (tm 4 (.t 32) .done))))))))))
 .ret)
 (.seq (.reg (tq 34 (.faddr 2 (.t 2)) (tq 35 (.load 1 false (.t 34)) (tq 36 (.faddr 2 (.t 3)) (tq 37 (.load 1 false (.t 36)) (tq 38 (.bin .neq (.t 35) (.t 37)) (tm 33 (.t 38) .done)))))))
 (.cond (.t 33) (.seq (.reg (tq 39 (.faddr 2 (.t 2)) (tq 40 (.load 1 false (.t 39)) (tq 41 (.faddr 2 (.t 3)) (tq 42 (.load 1 false (.t 41)) (tq 43 (.bin .lss (.t 40) (.t 42)) (tq 44 (.call 221 [(.t 43)]) (tq 45 (.bin .mul (.c (.int .i64 2)) (.t 44)) (tq 46 (.bin .sub (.c (.int .i64 1)) (.t 45)) (tm 4 (.t 46) .done))))))))))
 .ret)
 .skip)))))))
 (.seq (.reg (tm 4 (.c (.int .i64 0)) .done))
 .ret)))
theorem fc196:fcomp Tryz.prog Tryz.f196 = some (c196.erase,[.mov (.t 4)],47):=by kernel_rfl
def spec_l03Order (a_1:GAtom) (b_2:GAtom):Option Int :=
    if (a_1.Kind != b_2.Kind) then
    (spec_l01Bit (decide (a_1.Kind < b_2.Kind))).bind fun r_4 =>
    some (w64 (1 - (w64 (2 * r_4))))
    else
    if (a_1.N != b_2.N) then
    (spec_l01Bit (decide (a_1.N < b_2.N))).bind fun r_7 =>
    some (w64 (1 - (w64 (2 * r_7))))
    else
    if (!(a_1.T == b_2.T)) then
    (spec_l01Bit (Op.bytesLess a_1.T b_2.T)).bind fun r_10 =>
    some (w64 (1 - (w64 (2 * r_10))))
    else
    some 0
theorem w_spec_l03Order (a_1:GAtom) (b_2:GAtom) (r:Int) (hf:spec_l03Order a_1 b_2 = some r):CallOK Tryz.prog 196 .flat [(encGAtom a_1),(encGAtom b_2)] (.int .i64 r):=by
 refine CallOK.of_awp mixed Tryz.func196 fc196 nle ?_;rw [argT_eq];unfold spec_l03Order at hf;unfold c196;refine (show awp Tryz.prog false 0 _ (ofL [(0,(encGAtom a_1)),(1,(encGAtom b_2))]) [] _ from ?_);refine sr<|s_do (o_box (j:=0) (c:=(.agg [(.int .i64 a_1.Kind),(.int .i64 a_1.N),(.str a_1.T)])) rfl trivial rfl rfl)<|s_do (o_box (j:=1) (c:=(.agg [(.int .i64 b_2.Kind),(.int .i64 b_2.N),(.str b_2.T)])) rfl trivial rfl rfl)<|s_mov (.int .i64 0) rfl<|dk<|awp_seq<|w_blk<|sr<|s_q (.ptr 0 0 0) rfl trivial rfl<|s_q (.int .i64 a_1.Kind) rfl nle rfl<|s_q (.ptr 1 0 0) rfl trivial rfl<|s_q (.int .i64 b_2.Kind) rfl nle rfl<|s_q (.bool (a_1.Kind != b_2.Kind)) rfl rfl rfl<|?_
 refine s_mov (.bool (a_1.Kind != b_2.Kind)) rfl<|dk<|?_
 rcases oi hf with ⟨c3,hf⟩ | ⟨c3,hf⟩
 ·refine w_condt rfl c3<|sr<|?_
  obtain ⟨r_4,er5,hf⟩:=ob hf
  refine s_q (.ptr 0 0 0) rfl trivial rfl<|s_q (.int .i64 a_1.Kind) rfl nle rfl<|s_q (.ptr 1 0 0) rfl trivial rfl<|s_q (.int .i64 b_2.Kind) rfl nle rfl<|s_q (.bool (decide (a_1.Kind < b_2.Kind))) rfl rfl rfl<|s_do (o_call (w_spec_l01Bit _ _ er5) rfl (.refl _) rfl)<|s_q (.int .i64 (w64 (2 * r_4))) rfl rfl rfl<|s_q (.int .i64 (w64 (1 - (w64 (2 * r_4))))) rfl rfl rfl<|s_mov (.int .i64 (w64 (1 - (w64 (2 * r_4))))) rfl<|dk<|w_ret<|?_;obtain rfl:=os hf;exact r_flat ⟨trivial,trivial⟩ rfl (.refl _)
 ·refine w_condf rfl (bf c3)<|sr<|s_q (.ptr 0 0 1) rfl trivial rfl<|s_q (.int .i64 a_1.N) rfl nle rfl<|s_q (.ptr 1 0 1) rfl trivial rfl<|s_q (.int .i64 b_2.N) rfl nle rfl<|s_q (.bool (a_1.N != b_2.N)) rfl rfl rfl<|s_mov (.bool (a_1.N != b_2.N)) rfl<|dk<|?_
  rcases oi hf with ⟨c6,hf⟩ | ⟨c6,hf⟩
  ·refine w_condt rfl c6<|sr<|?_
   obtain ⟨r_7,er8,hf⟩:=ob hf
   refine s_q (.ptr 0 0 1) rfl trivial rfl<|s_q (.int .i64 a_1.N) rfl nle rfl<|s_q (.ptr 1 0 1) rfl trivial rfl<|s_q (.int .i64 b_2.N) rfl nle rfl<|s_q (.bool (decide (a_1.N < b_2.N))) rfl rfl rfl<|s_do (o_call (w_spec_l01Bit _ _ er8) rfl (.refl _) rfl)<|s_q (.int .i64 (w64 (2 * r_7))) rfl rfl rfl<|s_q (.int .i64 (w64 (1 - (w64 (2 * r_7))))) rfl rfl rfl<|s_mov (.int .i64 (w64 (1 - (w64 (2 * r_7))))) rfl<|dk<|w_ret<|?_;obtain rfl:=os hf;exact r_flat ⟨trivial,trivial⟩ rfl (.refl _)
  ·refine w_condf rfl (bf c6)<|sr<|s_q (.ptr 0 0 2) rfl trivial rfl<|s_q (.str a_1.T) rfl nle rfl<|s_q (.ptr 1 0 2) rfl trivial rfl<|s_q (.str b_2.T) rfl nle rfl<|s_q (.bool (!(a_1.T == b_2.T))) rfl trivial rfl<|s_mov (.bool (!(a_1.T == b_2.T))) rfl<|dk<|?_
   rcases oi hf with ⟨c9,hf⟩ | ⟨c9,hf⟩
   ·refine w_condt rfl c9<|sr<|?_
    obtain ⟨r_10,er11,hf⟩:=ob hf
    refine s_q (.ptr 0 0 2) rfl trivial rfl<|s_q (.str a_1.T) rfl nle rfl<|s_q (.ptr 1 0 2) rfl trivial rfl<|s_q (.str b_2.T) rfl nle rfl<|s_q (.bool (Op.bytesLess a_1.T b_2.T)) rfl trivial rfl<|s_do (o_call (w_spec_l01Bit _ _ er11) rfl (.refl _) rfl)<|s_q (.int .i64 (w64 (2 * r_10))) rfl rfl rfl<|s_q (.int .i64 (w64 (1 - (w64 (2 * r_10))))) rfl rfl rfl<|s_mov (.int .i64 (w64 (1 - (w64 (2 * r_10))))) rfl<|dk<|w_ret<|?_;obtain rfl:=os hf;exact r_flat ⟨trivial,trivial⟩ rfl (.refl _)
   ·refine w_condf rfl (bf c9)<|w_skip<|k_blk<|k_seq<|sr<|s_mov (.int .i64 0) rfl<|dk<|w_ret<|?_;obtain rfl:=os hf;exact r_flat ⟨trivial,trivial⟩ rfl (.refl _)

/- spec.DatumOK -/
def c143:ACode :=
 (.seq (.reg (tm 2 (.c (.bool false)) .done))
 (.seq (.seq (.reg (tm 4 (.t 0) (tq 5 (.len (.t 4)) (tq 6 (.bin .gtr (.t 5) (.c (.int .i64 4096))) .done))))
 (.cond (.t 6) (.seq (.reg (tm 2 (.c (.bool false)) .done))
 .ret)
 .skip))
 (.seq (.seq (.reg (tm 3 (.c (.int .i64 0)) .done))
 (.block 0 (.loop (.seq (.seq (.reg (tm 7 (.t 3) (tm 8 (.t 0) (tq 9 (.len (.t 8)) (tq 10 (.bin .lss (.t 7) (.t 9)) .done)))))
 (.cond (.t 10) .skip
 (.exit 0)))
 (.seq (.block 1 (.seq (.reg (tm 13 (.t 0) (tm 14 (.t 3) (tq 15 (.iaddr 3 (.t 13) (.t 14)) (tq 16 (.load 3 true (.t 15)) (.l ⟨(some 17),none,.call 195 [(.t 16)]⟩ []
 (tq 18 (.not (.t 17)) (tm 19 (.t 18) (tg 20 19 false (.mov (.t 0)) (tg 21 19 false (.mov (.t 3)) (tg 22 19 false (.iaddr 3 (.t 20) (.t 21)) (tg 23 19 false (.faddr 0 (.t 22)) (tg 24 19 false (.load 1 false (.t 23)) (tg 25 19 false (.mov (.t 0)) (tg 26 19 false (.iaddr 3 (.t 25) (.c (.int .i64 0))) (tg 27 19 false (.faddr 0 (.t 26)) (tg 28 19 false (.load 1 false (.t 27)) (tg 29 19 false (.bin .neq (.t 24) (.t 28)) (tq 30 (.pick (.t 19) (.c (.bool true)) (.t 29)) (tm 31 (.t 30) (tg 32 31 false (.mov (.t 3)) (tg 33 31 false (.bin .gtr (.t 32) (.c (.int .i64 0))) (tg 34 31 false (.mov (.t 33)) (tg 35 34 true (.mov (.t 0)) (tg 36 34 true (.mov (.t 3)) (tg 37 34 true (.bin .sub (.t 36) (.c (.int .i64 1))) (tg 38 34 true (.iaddr 3 (.t 35) (.t 37)) (tg 39 34 true (.load 3 true (.t 38)) (tg 40 34 true (.mov (.t 0)) (tg 41 34 true (.mov (.t 3)) (tg 42 34 true (.iaddr 3 (.t 40) (.t 41)) (tg 43 34 true (.load 3 true (.t 42)) (.l ⟨(some 44),(some (34,true)),.call 196 [(.t 39),(.t 43)]⟩ []
 (tg 45 34 true (.bin .geq (.t 44) (.c (.int .i64 0))) (tg 46 31 false (.pick (.t 34) (.t 45) (.c (.bool false))) (tq 47 (.pick (.t 31) (.c (.bool true)) (.t 46)) .done))) .non))))))))))))))))))))))))))) .non))))))
 (.cut (.cond (.t 47) (.seq (.reg (tm 2 (.c (.bool false)) .done))
 .ret)
 .skip))))
 (.reg (tm 11 (.t 3) (tq 12 (.bin .add (.t 11) (.c (.int .i64 1))) (tm 3 (.t 12) .done)))))))))
 (.cut (.seq (.reg (tm 48 (.t 0) (tq 49 (.len (.t 48)) (tq 50 (.bin .leq (.t 49) (.c (.int .i64 8))) (tm 2 (.t 50) .done)))))
 .ret)))))
theorem fc143:fcomp Tryz.prog Tryz.f143 = some (c143.erase,[.mov (.t 2)],51):=by kernel_rfl
def spec_DatumOK_L1 (d_1:(List GAtom)):List GAtom → Nat → Option (Fl Bool Unit)
  | [],i_83 =>
    some (.go ())
  | x_131 :: xs,i_83 =>
    (((spec_AtomOK x_131).bind fun r_147 =>
    if (!r_147) then
    some true
    else
    (idx d_1 0).bind fun x_150 =>
    if (x_131.Kind != x_150.Kind) then
    some true
    else
    if (decide ((i_83:Int) > 0)) then
    (idx d_1 (w64 ((i_83:Int) - 1))).bind fun x_154 =>
    (spec_l03Order x_154 x_131).bind fun r_156 =>
    some (decide (r_156 ≥ 0))
    else
    some false:Option Bool)).bind fun s47_145 =>
    if s47_145 then
    some (.ret false)
    else
    spec_DatumOK_L1 d_1 xs (i_83 + 1)

def spec_DatumOK (d_1:(List GAtom)):Option Bool :=
    if (decide ((d_1.length:Int) > 4096)) then
    some false
    else
    (spec_DatumOK_L1 d_1 d_1 0).bind fun q => (match q with
    | .ret r => some r
    | .go _ =>
    some (decide ((d_1.length:Int) ≤ 8)))
theorem w_spec_DatumOK (d_1:(List GAtom)) (r:Bool) (hf:spec_DatumOK d_1 = some r):CallOK Tryz.prog 143 .flat [(.lst 3 (d_1.map encGAtom))] (.bool r):=by
 refine CallOK.of_awp mixed Tryz.func143 fc143 nle ?_;rw [argT_eq];unfold spec_DatumOK at hf;unfold c143;refine (show awp Tryz.prog false 0 _ (ofL [(0,(.lst 3 (d_1.map encGAtom)))]) [] _ from ?_);refine sr<|s_mov (.bool false) rfl<|dk<|awp_seq<|sr<|s_mov (.lst 3 (d_1.map encGAtom)) rfl<|s_dof (o_len (enc:=encGAtom) rfl) fun hl2 => s_q (.bool (decide ((d_1.length:Int) > 4096))) rfl rfl rfl<|dk<|?_
 rcases oi hf with ⟨c3,hf⟩ | ⟨c3,hf⟩
 ·refine w_condt rfl c3<|sr<|s_mov (.bool false) rfl<|dk<|w_ret<|?_;obtain rfl:=os hf;exact r_flat ⟨trivial,trivial⟩ rfl (.refl _)
 ·refine w_condf rfl (bf c3)<|w_skip<|k_seq<|awp_seq<|sr<|s_mov (.int .i64 0) rfl<|dk<|?_
  obtain ⟨p124,hb1,hf⟩:=ob hf
  refine awp_cutx (X:={q:Unit // p124 = .go q}) (fun q => ([(0,(.lst 3 (d_1.map encGAtom)))],[])) ?_ ?_
  ·refine awp_loop (X:={q:Nat // spec_DatumOK_L1 d_1 (d_1.drop q) q = some p124}) (fun q => ([(0,(.lst 3 (d_1.map encGAtom))),(3,(.int .i64 (q.1:Int)))],[])) (fun q => d_1.length - q.1) ⟨0,hb1⟩ ⟨[],[],_,_,rfl,rfl,⟨.refl _,⟨.refl _,trivial⟩⟩,(.refl _)⟩ ?_
   rintro ⟨i_83,hc1⟩
   have hc1:spec_DatumOK_L1 d_1 (d_1.drop i_83) i_83 = some p124:=hc1
   refine (show awp Tryz.prog false 0 _ (ofL [(0,(.lst 3 (d_1.map encGAtom))),(3,(.int .i64 (i_83:Int)))]) [] _ from ?_)
   rcases dropc d_1 i_83 with ⟨hie127,hd130⟩ | ⟨hlt125,x_131,hx126,hd130⟩
   ·rw [hd130,spec_DatumOK_L1.eq_1] at hc1
    have hq129:=dlf hie127
    refine awp_seq<|sr<|s_mov (.int .i64 (i_83:Int)) rfl<|s_mov (.lst 3 (d_1.map encGAtom)) rfl<|s_dof (o_len (enc:=encGAtom) rfl) fun hl132 => s_q (.bool (decide ((i_83:Int) < (d_1.length:Int)))) rfl rfl rfl<|dk<|w_condf rfl hq129<|w_exit<|k_seqx<|k_loopx<|k_blkx<|?_;obtain rfl:=os hc1;exact k_cutn ⟨_,rfl⟩ ⟨[],[],_,_,rfl,rfl,⟨.refl _,trivial⟩,(.refl _)⟩
   ·rw [hd130,spec_DatumOK_L1.eq_2] at hc1
    have hq129:=dlt hlt125
    refine awp_seq<|sr<|s_mov (.int .i64 (i_83:Int)) rfl<|s_mov (.lst 3 (d_1.map encGAtom)) rfl<|s_dof (o_len (enc:=encGAtom) rfl) fun hl133 => s_q (.bool (decide ((i_83:Int) < (d_1.length:Int)))) rfl rfl rfl<|dk<|w_condt rfl hq129<|w_skip<|k_seq<|awp_seq<|w_blk<|awp_seq<|?_
    obtain ⟨s47_145,hb2,hc1⟩:=ob hc1
    refine awp_cut ([(0,(.lst 3 (d_1.map encGAtom))),(3,(.int .i64 (i_83:Int))),(47,(.bool s47_145))],[]) ?_ ?_
    ·refine w_reg<|s_mov (.lst 3 (d_1.map encGAtom)) rfl<|s_mov (.int .i64 (i_83:Int)) rfl<|s_do (o_iaddrn (enc:=encGAtom) rfl rfl hx126)<|s_q (encGAtom x_131) rfl nle rfl<|?_
     obtain ⟨r_147,er148,hb2⟩:=ob hb2
     refine s_dol (o_call (w_spec_AtomOK _ _ er148) rfl (.refl _) rfl) a_same trivial<|s_q (.bool (!r_147)) rfl trivial rfl<|s_mov (.bool (!r_147)) rfl<|?_
     rcases oi hb2 with ⟨c149,hb2⟩ | ⟨c149,hb2⟩
     ·refine s_lit (s:=19) (b:=true) rfl c149<|s_off rfl rfl<|s_off rfl rfl<|s_off rfl rfl<|s_off rfl rfl<|s_off rfl rfl<|s_off rfl rfl<|s_off rfl rfl<|s_off rfl rfl<|s_off rfl rfl<|s_off rfl rfl<|s_q (.bool true) rfl trivial rfl<|s_mov (.bool true) rfl<|s_off rfl rfl<|s_off rfl rfl<|s_off rfl rfl<|s_offs rfl<|s_offs rfl<|s_offs rfl<|s_offs rfl<|s_offs rfl<|s_offs rfl<|s_offs rfl<|s_offs rfl<|s_offs rfl<|s_offsl rfl trivial<|s_offs rfl<|s_off rfl rfl<|s_q (.bool true) rfl trivial rfl<|w_done<|?_;obtain rfl:=os hb2;exact ⟨[],[],_,_,rfl,rfl,⟨.refl _,⟨.refl _,⟨.refl _,trivial⟩⟩⟩,(.refl _)⟩
     ·refine s_lit (s:=19) (b:=false) rfl (bf c149)<|s_on rfl<|s_mov (.lst 3 (d_1.map encGAtom)) rfl<|s_on rfl<|s_mov (.int .i64 (i_83:Int)) rfl<|s_on rfl<|s_do (o_iaddrn (enc:=encGAtom) rfl rfl hx126)<|s_on rfl<|s_q (.iptr (encGAtom x_131) 0) rfl trivial rfl<|s_on rfl<|s_q (.int .i64 x_131.Kind) rfl nle rfl<|s_on rfl<|s_mov (.lst 3 (d_1.map encGAtom)) rfl<|s_on rfl<|?_
      obtain ⟨x_150,ex151,hb2⟩:=ob hb2
      refine s_do (o_iaddr (enc:=encGAtom) rfl rfl (idx0 ex151) (idx1 ex151))<|s_on rfl<|s_q (.iptr (encGAtom x_150) 0) rfl trivial rfl<|s_on rfl<|s_q (.int .i64 x_150.Kind) rfl nle rfl<|s_on rfl<|s_q (.bool (x_131.Kind != x_150.Kind)) rfl rfl rfl<|s_q (.bool (x_131.Kind != x_150.Kind)) rfl trivial rfl<|s_mov (.bool (x_131.Kind != x_150.Kind)) rfl<|?_
      rcases oi hb2 with ⟨c152,hb2⟩ | ⟨c152,hb2⟩
      ·refine s_lit (s:=31) (b:=true) rfl c152<|s_off rfl rfl<|s_off rfl rfl<|s_off rfl rfl<|s_offs rfl<|s_offs rfl<|s_offs rfl<|s_offs rfl<|s_offs rfl<|s_offs rfl<|s_offs rfl<|s_offs rfl<|s_offs rfl<|s_offsl rfl trivial<|s_offs rfl<|s_off rfl rfl<|s_q (.bool true) rfl trivial rfl<|w_done<|?_;obtain rfl:=os hb2;exact ⟨[],[],_,_,rfl,rfl,⟨.refl _,⟨.refl _,⟨.refl _,trivial⟩⟩⟩,(.refl _)⟩
      ·refine s_lit (s:=31) (b:=false) rfl (bf c152)<|s_on rfl<|s_mov (.int .i64 (i_83:Int)) rfl<|s_on rfl<|s_q (.bool (decide ((i_83:Int) > 0))) rfl rfl rfl<|s_on rfl<|s_mov (.bool (decide ((i_83:Int) > 0))) rfl<|?_
       rcases oi hb2 with ⟨c153,hb2⟩ | ⟨c153,hb2⟩
       ·refine s_lit (s:=34) (b:=true) rfl c153<|s_on rfl<|s_mov (.lst 3 (d_1.map encGAtom)) rfl<|s_on rfl<|s_mov (.int .i64 (i_83:Int)) rfl<|s_on rfl<|s_q (.int .i64 (w64 ((i_83:Int) - 1))) rfl rfl rfl<|s_on rfl<|?_
        obtain ⟨x_154,ex155,hb2⟩:=ob hb2
        refine s_do (o_iaddr (enc:=encGAtom) rfl rfl (idx0 ex155) (idx1 ex155))<|s_on rfl<|s_q (encGAtom x_154) rfl nle rfl<|s_on rfl<|s_mov (.lst 3 (d_1.map encGAtom)) rfl<|s_on rfl<|s_mov (.int .i64 (i_83:Int)) rfl<|s_on rfl<|s_do (o_iaddrn (enc:=encGAtom) rfl rfl hx126)<|s_on rfl<|s_q (encGAtom x_131) rfl nle rfl<|s_onl rfl<|?_
        obtain ⟨r_156,er157,hb2⟩:=ob hb2
        refine s_dol (o_call (w_spec_l03Order _ _ _ er157) rfl (.refl _) rfl) a_same trivial<|s_on rfl<|s_q (.bool (decide (r_156 ≥ 0))) rfl rfl rfl<|s_on rfl<|s_q (.bool (decide (r_156 ≥ 0))) rfl trivial rfl<|s_q (.bool (decide (r_156 ≥ 0))) rfl trivial rfl<|w_done<|?_;obtain rfl:=os hb2;exact ⟨[],[],_,_,rfl,rfl,⟨.refl _,⟨.refl _,⟨.refl _,trivial⟩⟩⟩,(.refl _)⟩
       ·refine s_lit (s:=34) (b:=false) rfl (bf c153)<|s_off rfl rfl<|s_off rfl rfl<|s_off rfl rfl<|s_off rfl rfl<|s_off rfl rfl<|s_off rfl rfl<|s_off rfl rfl<|s_off rfl rfl<|s_off rfl rfl<|s_offl rfl rfl trivial<|s_off rfl rfl<|s_on rfl<|s_q (.bool false) rfl trivial rfl<|s_q (.bool false) rfl trivial rfl<|w_done<|?_;obtain rfl:=os hb2;exact ⟨[],[],_,_,rfl,rfl,⟨.refl _,⟨.refl _,⟨.refl _,trivial⟩⟩⟩,(.refl _)⟩
    ·rcases oi hc1 with ⟨c158,hc1⟩ | ⟨c158,hc1⟩
     ·refine w_condt rfl c158<|sr<|s_mov (.bool false) rfl<|dk<|w_ret<|?_;obtain rfl:=os hc1;obtain rfl:=os hf;exact r_flat ⟨trivial,trivial⟩ rfl (.refl _)
     ·refine w_condf rfl (bf c158)<|w_skip<|k_blk<|k_seq<|w_reg<|s_mov (.int .i64 (i_83:Int)) rfl<|s_q (.int .i64 (w64 ((i_83:Int) + 1))) rfl rfl rfl<|s_mov (.int .i64 (w64 ((i_83:Int) + 1))) rfl<|w_done<|?_;exact k_loopn ⟨(i_83 + 1),hc1⟩ (mul hlt125) ⟨[],[],_,_,rfl,rfl,⟨.refl _,⟨.of_eq (congrArg (AV.int _) (w64_incr hlt125 hl133)),trivial⟩⟩,(.refl _)⟩
  ·rintro ⟨_,rfl⟩
   refine sr<|s_mov (.lst 3 (d_1.map encGAtom)) rfl<|s_dof (o_len (enc:=encGAtom) rfl) fun hl159 => s_q (.bool (decide ((d_1.length:Int) ≤ 8))) rfl rfl rfl<|s_mov (.bool (decide ((d_1.length:Int) ≤ 8))) rfl<|dk<|w_ret<|?_;obtain rfl:=os hf;exact r_flat ⟨trivial,trivial⟩ rfl (.refl _)

/- spec.l04Fits -/
def c169:ACode :=
 (.seq (.reg (tq 2 (.box 8 (.t 0)) (tm 4 (.c (.int .i64 0)) .done)))
 (.seq (.seq (.reg (tm 6 (.t 1) (tq 7 (.len (.t 6)) (tq 8 (.bin .gtr (.t 7) (.c (.int .i64 0))) (tm 9 (.t 8) (tg 10 9 true (.mov (.t 1)) (tg 11 9 true (.iaddr 3 (.t 10) (.c (.int .i64 0))) (tg 12 9 true (.faddr 0 (.t 11)) (tg 13 9 true (.load 1 false (.t 12)) (tg 14 9 true (.faddr 1 (.t 2)) (tg 15 9 true (.load 1 false (.t 14)) (tg 16 9 true (.bin .neq (.t 13) (.t 15)) (tq 17 (.pick (.t 9) (.t 16) (.c (.bool false))) .done)))))))))))))
 (.cut (.cond (.t 17) (.seq (.reg (tm 4 (.c (.int .i64 9)) .done))
 .ret)
 .skip)))
 (.seq (.seq (.reg (tm 18 (.t 1) (tq 19 (.len (.t 18)) (tq 20 (.faddr 2 (.t 2)) (tq 21 (.load 1 false (.t 20)) (tq 22 (.faddr 3 (.t 2)) (tq 23 (.load 1 false (.t 22)) (tq 24 (.call 95 [(.t 19),(.t 21),(.t 23)]) (tq 25 (.not (.t 24)) .done)))))))))
 (.cond (.t 25) (.seq (.reg (tm 4 (.c (.int .i64 6)) .done))
 .ret)
 .skip))
 (.seq (.seq (.reg (tm 5 (.c (.int .i64 0)) .done))
 (.block 0 (.loop (.seq (.seq (.reg (tm 26 (.t 5) (tm 27 (.t 1) (tq 28 (.len (.t 27)) (tq 29 (.bin .lss (.t 26) (.t 28)) .done)))))
 (.cond (.t 29) .skip
 (.exit 0)))
 (.seq (.block 1 (.seq (.reg (tq 32 (.faddr 1 (.t 2)) (tq 33 (.load 1 false (.t 32)) (tq 34 (.bin .eql (.t 33) (.c (.int .i64 1))) (tm 35 (.t 34) (tg 36 35 true (.mov (.t 1)) (tg 37 35 true (.mov (.t 5)) (tg 38 35 true (.iaddr 3 (.t 36) (.t 37)) (tg 39 35 true (.faddr 1 (.t 38)) (tg 40 35 true (.load 1 false (.t 39)) (tg 41 35 true (.faddr 4 (.t 2)) (tg 42 35 true (.load 1 false (.t 41)) (tg 43 35 true (.faddr 5 (.t 2)) (tg 44 35 true (.load 1 false (.t 43)) (.l ⟨(some 45),(some (35,true)),.call 95 [(.t 40),(.t 42),(.t 44)]⟩ []
 (tg 46 35 true (.not (.t 45)) (tq 47 (.pick (.t 35) (.t 46) (.c (.bool false))) .done)) .non)))))))))))))))
 (.cut (.cond (.t 47) (.seq (.reg (tm 4 (.c (.int .i64 4)) .done))
 .ret)
 .skip))))
 (.reg (tm 30 (.t 5) (tq 31 (.bin .add (.t 30) (.c (.int .i64 1))) (tm 5 (.t 31) .done)))))))))
 (.cut (.seq (.reg (tm 4 (.c (.int .i64 0)) .done))
 .ret))))))
theorem fc169:fcomp Tryz.prog Tryz.f169 = some (c169.erase,[.mov (.t 4)],48):=by kernel_rfl
def spec_l04Fits_L1 (c_1:GColumn):List GAtom → Option (Fl Int Unit)
  | [] =>
    some (.go ())
  | x_73 :: xs =>
    ((if (c_1.Kind == 1) then
    (spec_l01In x_73.N c_1.Low c_1.High).bind fun r_82 =>
    some (!r_82)
    else
    some false:Option Bool)).bind fun s47_79 =>
    if s47_79 then
    some (.ret 4)
    else
    spec_l04Fits_L1 c_1 xs 

def spec_l04Fits (c_1:GColumn) (d_2:(List GAtom)):Option Int :=
    ((if (decide ((d_2.length:Int) > 0)) then
    (idx d_2 0).bind fun x_11 =>
    some (x_11.Kind != c_1.Kind)
    else
    some false:Option Bool)).bind fun s17_7 =>
    if s17_7 then
    some 9
    else
    (spec_l01In (d_2.length:Int) c_1.Min c_1.Max).bind fun r_15 =>
    if (!r_15) then
    some 6
    else
    (spec_l04Fits_L1 c_1 d_2 ).bind fun q => (match q with
    | .ret r => some r
    | .go _ =>
    some 0)
theorem w_spec_l04Fits (c_1:GColumn) (d_2:(List GAtom)) (r:Int) (hf:spec_l04Fits c_1 d_2 = some r):CallOK Tryz.prog 169 .flat [(encGColumn c_1),(.lst 3 (d_2.map encGAtom))] (.int .i64 r):=by
 refine CallOK.of_awp mixed Tryz.func169 fc169 nle ?_;rw [argT_eq];unfold spec_l04Fits at hf;unfold c169;refine (show awp Tryz.prog false 0 _ (ofL [(0,(encGColumn c_1)),(1,(.lst 3 (d_2.map encGAtom)))]) [] _ from ?_);refine sr<|s_do (o_box (j:=0) (c:=(.agg [(.str c_1.Name),(.int .i64 c_1.Kind),(.int .i64 c_1.Min),(.int .i64 c_1.Max),(.int .i64 c_1.Low),(.int .i64 c_1.High),(.str c_1.Ref),(.bool c_1.Strong)])) rfl trivial rfl rfl)<|s_mov (.int .i64 0) rfl<|dk<|awp_seq<|awp_seq<|?_
 obtain ⟨s17_7,hb1,hf⟩:=ob hf
 refine awp_cut ([(1,(.lst 3 (d_2.map encGAtom))),(2,(.ptr 0 0 0)),(17,(.bool s17_7))],[.box 8 (.agg [(.str c_1.Name),(.int .i64 c_1.Kind),(.int .i64 c_1.Min),(.int .i64 c_1.Max),(.int .i64 c_1.Low),(.int .i64 c_1.High),(.str c_1.Ref),(.bool c_1.Strong)])]) ?_ ?_
 ·refine w_reg ?_
  rcases oi hb1 with ⟨c10,hb1⟩ | ⟨c10,hb1⟩
  ·obtain ⟨x_11,ex12,hb1⟩:=ob hb1
   refine s_mov (.lst 3 (d_2.map encGAtom)) rfl<|s_dof (o_len (enc:=encGAtom) rfl) fun hl9 => s_q (.bool (decide ((d_2.length:Int) > 0))) rfl rfl rfl<|s_mov (.bool (decide ((d_2.length:Int) > 0))) rfl<|s_lit (s:=9) (b:=true) rfl c10<|s_on rfl<|s_mov (.lst 3 (d_2.map encGAtom)) rfl<|s_on rfl<|s_do (o_iaddr (enc:=encGAtom) rfl rfl (idx0 ex12) (idx1 ex12))<|s_on rfl<|s_q (.iptr (encGAtom x_11) 0) rfl trivial rfl<|s_on rfl<|s_q (.int .i64 x_11.Kind) rfl nle rfl<|s_on rfl<|s_q (.ptr 0 0 1) rfl trivial rfl<|s_on rfl<|s_q (.int .i64 c_1.Kind) rfl nle rfl<|s_on rfl<|s_q (.bool (x_11.Kind != c_1.Kind)) rfl rfl rfl<|s_q (.bool (x_11.Kind != c_1.Kind)) rfl trivial rfl<|?_
   refine w_done ?_;obtain rfl:=os hb1;exact ⟨[],[0],_,_,rfl,rfl,⟨.refl _,⟨.refl _,⟨.refl _,trivial⟩⟩⟩,(.refl _)⟩
  ·refine s_mov (.lst 3 (d_2.map encGAtom)) rfl<|s_dof (o_len (enc:=encGAtom) rfl) fun hl9 => s_q (.bool (decide ((d_2.length:Int) > 0))) rfl rfl rfl<|s_mov (.bool (decide ((d_2.length:Int) > 0))) rfl<|s_lit (s:=9) (b:=false) rfl (bf c10)<|s_off rfl rfl<|s_off rfl rfl<|s_off rfl rfl<|s_off rfl rfl<|s_off rfl rfl<|s_off rfl rfl<|s_off rfl rfl<|s_q (.bool false) rfl trivial rfl<|w_done<|?_;obtain rfl:=os hb1;exact ⟨[],[0],_,_,rfl,rfl,⟨.refl _,⟨.refl _,⟨.refl _,trivial⟩⟩⟩,(.refl _)⟩
 ·rcases oi hf with ⟨c13,hf⟩ | ⟨c13,hf⟩
  ·refine w_condt rfl c13<|sr<|s_mov (.int .i64 9) rfl<|dk<|w_ret<|?_;obtain rfl:=os hf;exact r_flat ⟨trivial,trivial⟩ rfl (.refl _)
  ·refine w_condf rfl (bf c13)<|w_skip<|k_seq<|awp_seq<|sr<|?_
   obtain ⟨r_15,er16,hf⟩:=ob hf
   refine s_mov (.lst 3 (d_2.map encGAtom)) rfl<|s_dof (o_len (enc:=encGAtom) rfl) fun hl14 => s_q (.ptr 0 0 2) rfl trivial rfl<|s_q (.int .i64 c_1.Min) rfl nle rfl<|s_q (.ptr 0 0 3) rfl trivial rfl<|s_q (.int .i64 c_1.Max) rfl nle rfl<|s_do (o_call (w_spec_l01In _ _ _ _ er16) rfl (.refl _) rfl)<|s_q (.bool (!r_15)) rfl trivial rfl<|dk<|?_
   rcases oi hf with ⟨c17,hf⟩ | ⟨c17,hf⟩
   ·refine w_condt rfl c17<|sr<|s_mov (.int .i64 6) rfl<|dk<|w_ret<|?_;obtain rfl:=os hf;exact r_flat ⟨trivial,trivial⟩ rfl (.refl _)
   ·refine w_condf rfl (bf c17)<|w_skip<|k_seq<|awp_seq<|sr<|s_mov (.int .i64 0) rfl<|dk<|?_
    obtain ⟨p66,hb1,hf⟩:=ob hf
    refine awp_cutx (X:={q:Unit // p66 = .go q}) (fun q => ([],[])) ?_ ?_
    ·refine awp_loop (X:={q:Nat // spec_l04Fits_L1 c_1 (d_2.drop q)  = some p66}) (fun q => ([(1,(.lst 3 (d_2.map encGAtom))),(2,(.ptr 0 0 0)),(5,(.int .i64 (q.1:Int)))],[.box 8 (.agg [(.str c_1.Name),(.int .i64 c_1.Kind),(.int .i64 c_1.Min),(.int .i64 c_1.Max),(.int .i64 c_1.Low),(.int .i64 c_1.High),(.str c_1.Ref),(.bool c_1.Strong)])])) (fun q => d_2.length - q.1) ⟨0,hb1⟩ ⟨[],[0],_,_,rfl,rfl,⟨.refl _,⟨.refl _,⟨.refl _,trivial⟩⟩⟩,(.refl _)⟩ ?_
     rintro ⟨i_49,hc1⟩
     have hc1:spec_l04Fits_L1 c_1 (d_2.drop i_49)  = some p66:=hc1
     refine (show awp Tryz.prog false 0 _ (ofL [(1,(.lst 3 (d_2.map encGAtom))),(2,(.ptr 0 0 0)),(5,(.int .i64 (i_49:Int)))]) [.box 8 (.agg [(.str c_1.Name),(.int .i64 c_1.Kind),(.int .i64 c_1.Min),(.int .i64 c_1.Max),(.int .i64 c_1.Low),(.int .i64 c_1.High),(.str c_1.Ref),(.bool c_1.Strong)])] _ from ?_)
     rcases dropc d_2 i_49 with ⟨hie69,hd72⟩ | ⟨hlt67,x_73,hx68,hd72⟩
     ·rw [hd72,spec_l04Fits_L1.eq_1] at hc1
      have hq71:=dlf hie69
      refine awp_seq<|sr<|s_mov (.int .i64 (i_49:Int)) rfl<|s_mov (.lst 3 (d_2.map encGAtom)) rfl<|s_dof (o_len (enc:=encGAtom) rfl) fun hl74 => s_q (.bool (decide ((i_49:Int) < (d_2.length:Int)))) rfl rfl rfl<|dk<|w_condf rfl hq71<|w_exit<|k_seqx<|k_loopx<|k_blkx<|?_;obtain rfl:=os hc1;exact k_cutn ⟨_,rfl⟩ ⟨[],[],_,_,rfl,rfl,trivial,(.refl _)⟩
     ·rw [hd72,spec_l04Fits_L1.eq_2] at hc1
      have hq71:=dlt hlt67
      refine awp_seq<|sr<|s_mov (.int .i64 (i_49:Int)) rfl<|s_mov (.lst 3 (d_2.map encGAtom)) rfl<|s_dof (o_len (enc:=encGAtom) rfl) fun hl75 => s_q (.bool (decide ((i_49:Int) < (d_2.length:Int)))) rfl rfl rfl<|dk<|w_condt rfl hq71<|w_skip<|k_seq<|awp_seq<|w_blk<|awp_seq<|?_
      obtain ⟨s47_79,hb2,hc1⟩:=ob hc1
      refine awp_cut ([(1,(.lst 3 (d_2.map encGAtom))),(2,(.ptr 0 0 0)),(5,(.int .i64 (i_49:Int))),(47,(.bool s47_79))],[.box 8 (.agg [(.str c_1.Name),(.int .i64 c_1.Kind),(.int .i64 c_1.Min),(.int .i64 c_1.Max),(.int .i64 c_1.Low),(.int .i64 c_1.High),(.str c_1.Ref),(.bool c_1.Strong)])]) ?_ ?_
      ·refine w_reg<|s_q (.ptr 0 0 1) rfl trivial rfl<|s_q (.int .i64 c_1.Kind) rfl nle rfl<|s_q (.bool (c_1.Kind == 1)) rfl rfl rfl<|s_mov (.bool (c_1.Kind == 1)) rfl<|?_
       rcases oi hb2 with ⟨c81,hb2⟩ | ⟨c81,hb2⟩
       ·refine s_lit (s:=35) (b:=true) rfl c81<|s_on rfl<|s_mov (.lst 3 (d_2.map encGAtom)) rfl<|s_on rfl<|s_mov (.int .i64 (i_49:Int)) rfl<|s_on rfl<|s_do (o_iaddrn (enc:=encGAtom) rfl rfl hx68)<|s_on rfl<|s_q (.iptr (encGAtom x_73) 1) rfl trivial rfl<|s_on rfl<|s_q (.int .i64 x_73.N) rfl nle rfl<|s_on rfl<|s_q (.ptr 0 0 4) rfl trivial rfl<|s_on rfl<|s_q (.int .i64 c_1.Low) rfl nle rfl<|s_on rfl<|s_q (.ptr 0 0 5) rfl trivial rfl<|s_on rfl<|s_q (.int .i64 c_1.High) rfl nle rfl<|s_onl rfl<|?_
        obtain ⟨r_82,er83,hb2⟩:=ob hb2
        refine s_dol (o_call (w_spec_l01In _ _ _ _ er83) rfl (.refl _) rfl) a_same trivial<|s_on rfl<|s_q (.bool (!r_82)) rfl trivial rfl<|s_q (.bool (!r_82)) rfl trivial rfl<|w_done<|?_;obtain rfl:=os hb2;exact ⟨[],[0],_,_,rfl,rfl,⟨.refl _,⟨.refl _,⟨.refl _,⟨.refl _,trivial⟩⟩⟩⟩,(.refl _)⟩
       ·refine s_lit (s:=35) (b:=false) rfl (bf c81)<|s_off rfl rfl<|s_off rfl rfl<|s_off rfl rfl<|s_off rfl rfl<|s_off rfl rfl<|s_off rfl rfl<|s_off rfl rfl<|s_off rfl rfl<|s_off rfl rfl<|s_offl rfl rfl trivial<|s_off rfl rfl<|s_q (.bool false) rfl trivial rfl<|w_done<|?_;obtain rfl:=os hb2;exact ⟨[],[0],_,_,rfl,rfl,⟨.refl _,⟨.refl _,⟨.refl _,⟨.refl _,trivial⟩⟩⟩⟩,(.refl _)⟩
      ·rcases oi hc1 with ⟨c84,hc1⟩ | ⟨c84,hc1⟩
       ·refine w_condt rfl c84<|sr<|s_mov (.int .i64 4) rfl<|dk<|w_ret<|?_;obtain rfl:=os hc1;obtain rfl:=os hf;exact r_flat ⟨trivial,trivial⟩ rfl (.refl _)
       ·refine w_condf rfl (bf c84)<|w_skip<|k_blk<|k_seq<|w_reg<|s_mov (.int .i64 (i_49:Int)) rfl<|s_q (.int .i64 (w64 ((i_49:Int) + 1))) rfl rfl rfl<|s_mov (.int .i64 (w64 ((i_49:Int) + 1))) rfl<|w_done<|?_;exact k_loopn ⟨(i_49 + 1),hc1⟩ (mul hlt67) ⟨[],[0],_,_,rfl,rfl,⟨.refl _,⟨.refl _,⟨.of_eq (congrArg (AV.int _) (w64_incr hlt67 hl75)),trivial⟩⟩⟩,(.refl _)⟩
    ·rintro ⟨_,rfl⟩
     refine sr<|s_mov (.int .i64 0) rfl<|dk<|w_ret<|?_;obtain rfl:=os hf;exact r_flat ⟨trivial,trivial⟩ rfl (.refl _)

/- spec.l05Row -/
def c120:ACode :=
 (.seq (.reg (tq 2 (.box 4 (.t 0)) (tq 3 (.box 2 (.t 1)) (tm 4 (.c (.bool false)) .done))))
 (.seq (.seq (.reg (tq 6 (.faddr 0 (.t 3)) (tq 7 (.load 1 false (.t 6)) (tq 8 (.call 95 [(.t 7),(.c (.int .i64 1)),(.c (.int .i64 1000000))]) (tq 9 (.not (.t 8)) (tm 10 (.t 9) (tg 11 10 false (.faddr 1 (.t 3)) (tg 12 10 false (.load 1 false (.t 11)) (tg 13 10 false (.len (.t 12)) (tg 14 10 false (.faddr 1 (.t 2)) (tg 15 10 false (.load 1 false (.t 14)) (tg 16 10 false (.len (.t 15)) (tg 17 10 false (.bin .neq (.t 13) (.t 16)) (tq 18 (.pick (.t 10) (.c (.bool true)) (.t 17)) .done))))))))))))))
 (.cut (.cond (.t 18) (.seq (.reg (tm 4 (.c (.bool false)) .done))
 .ret)
 .skip)))
 (.seq (.seq (.reg (tm 5 (.c (.int .i64 0)) .done))
 (.block 0 (.loop (.seq (.seq (.reg (tm 19 (.t 5) (tq 20 (.faddr 1 (.t 3)) (tq 21 (.load 1 false (.t 20)) (tq 22 (.len (.t 21)) (tq 23 (.bin .lss (.t 19) (.t 22)) .done))))))
 (.cond (.t 23) .skip
 (.exit 0)))
 (.seq (.block 1 (.seq (.reg (tq 26 (.faddr 1 (.t 3)) (tq 27 (.load 1 false (.t 26)) (tm 28 (.t 5) (tq 29 (.iaddr 1 (.t 27) (.t 28)) (tq 30 (.load 1 false (.t 29)) (.l ⟨(some 31),none,.call 143 [(.t 30)]⟩ []
 (tq 32 (.not (.t 31)) (tm 33 (.t 32) (tg 34 33 false (.faddr 1 (.t 2)) (tg 35 33 false (.load 1 false (.t 34)) (tg 36 33 false (.mov (.t 5)) (tg 37 33 false (.iaddr 8 (.t 35) (.t 36)) (tg 38 33 false (.load 8 true (.t 37)) (tg 39 33 false (.faddr 1 (.t 3)) (tg 40 33 false (.load 1 false (.t 39)) (tg 41 33 false (.mov (.t 5)) (tg 42 33 false (.iaddr 1 (.t 40) (.t 41)) (tg 43 33 false (.load 1 false (.t 42)) (.l ⟨(some 44),(some (33,false)),.call 169 [(.t 38),(.t 43)]⟩ []
 (tg 45 33 false (.bin .neq (.t 44) (.c (.int .i64 0))) (tq 46 (.pick (.t 33) (.c (.bool true)) (.t 45)) .done)) .non))))))))))))) .non)))))))
 (.cut (.cond (.t 46) (.seq (.reg (tm 4 (.c (.bool false)) .done))
 .ret)
 .skip))))
 (.reg (tm 24 (.t 5) (tq 25 (.bin .add (.t 24) (.c (.int .i64 1))) (tm 5 (.t 25) .done)))))))))
 (.cut (.seq (.reg (tm 4 (.c (.bool true)) .done))
 .ret)))))
theorem fc120:fcomp Tryz.prog Tryz.f120 = some (c120.erase,[.mov (.t 4)],47):=by kernel_rfl
def spec_l05Row_L1 (t_1:GTable):List (List GAtom) → Nat → Option (Fl Bool Unit)
  | [],i_69 =>
    some (.go ())
  | x_105 :: xs,i_69 =>
    (((spec_DatumOK x_105).bind fun r_117 =>
    if (!r_117) then
    some true
    else
    (idx t_1.Columns (i_69:Int)).bind fun x_120 =>
    (spec_l04Fits x_120 x_105).bind fun r_122 =>
    some (r_122 != 0):Option Bool)).bind fun s46_115 =>
    if s46_115 then
    some (.ret false)
    else
    spec_l05Row_L1 t_1 xs (i_69 + 1)

def spec_l05Row (t_1:GTable) (r_2:GRow):Option Bool :=
    (((spec_l01In r_2.Id 1 1000000).bind fun r_9 =>
    some (bif (!r_9) then true else ((r_2.Cells.length:Int) != (t_1.Columns.length:Int))):Option Bool)).bind fun s18_7 =>
    if s18_7 then
    some false
    else
    (spec_l05Row_L1 t_1 r_2.Cells 0).bind fun q => (match q with
    | .ret r => some r
    | .go _ =>
    some true)
theorem w_spec_l05Row (t_1:GTable) (r_2:GRow) (r:Bool) (hf:spec_l05Row t_1 r_2 = some r):CallOK Tryz.prog 120 .flat [(encGTable t_1),(encGRow r_2)] (.bool r):=by
 refine CallOK.of_awp mixed Tryz.func120 fc120 nle ?_;rw [argT_eq];unfold spec_l05Row at hf;unfold c120;refine (show awp Tryz.prog false 0 _ (ofL [(0,(encGTable t_1)),(1,(encGRow r_2))]) [] _ from ?_);refine sr<|s_do (o_box (j:=0) (c:=(.agg [(.str t_1.Name),(.lst 8 (t_1.Columns.map encGColumn)),(.lst 1 (t_1.Unique.map encI)),(.bool t_1.Root)])) rfl trivial rfl rfl)<|s_do (o_box (j:=1) (c:=(.agg [(.int .i64 r_2.Id),(.lst 1 (r_2.Cells.map (encL 3 encGAtom)))])) rfl trivial rfl rfl)<|s_mov (.bool false) rfl<|dk<|awp_seq<|awp_seq<|?_
 obtain ⟨s18_7,hb1,hf⟩:=ob hf
 refine awp_cut ([(2,(.ptr 0 0 0)),(3,(.ptr 1 0 0)),(18,(.bool s18_7))],[.box 4 (.agg [(.str t_1.Name),(.lst 8 (t_1.Columns.map encGColumn)),(.lst 1 (t_1.Unique.map encI)),(.bool t_1.Root)]),.box 2 (.agg [(.int .i64 r_2.Id),(.lst 1 (r_2.Cells.map (encL 3 encGAtom)))])]) ?_ ?_
 ·refine w_reg<|s_q (.ptr 1 0 0) rfl trivial rfl<|s_q (.int .i64 r_2.Id) rfl nle rfl<|?_
  obtain ⟨r_9,er10,hb1⟩:=ob hb1
  refine s_do (o_call (w_spec_l01In _ _ _ _ er10) rfl (.refl _) rfl)<|s_q (.bool (!r_9)) rfl trivial rfl<|s_mov (.bool (!r_9)) rfl<|?_;refine s_g (v:=(!r_9)) (.ptr 1 0 1) rfl (fun hv => by (try simp only [gs_on hv]);exact ⟨rfl,trivial,rfl⟩) ?_;refine s_g (v:=(!r_9)) (.lst 1 (r_2.Cells.map (encL 3 encGAtom))) rfl (fun hv => by (try simp only [gs_on hv]);exact ⟨rfl,nle,rfl⟩) ?_;refine s_g (v:=(!r_9)) (.int .i64 (r_2.Cells.length:Int)) rfl (fun hv => by (try simp only [gs_on hv]);exact ⟨rfl,trivial,lenV _ _⟩) ?_;refine s_g (v:=(!r_9)) (.ptr 0 0 1) rfl (fun hv => by (try simp only [gs_on hv]);exact ⟨rfl,trivial,rfl⟩) ?_;refine s_g (v:=(!r_9)) (.lst 8 (t_1.Columns.map encGColumn)) rfl (fun hv => by (try simp only [gs_on hv]);exact ⟨rfl,nle,rfl⟩) ?_
  refine s_g (v:=(!r_9)) (.int .i64 (t_1.Columns.length:Int)) rfl (fun hv => by (try simp only [gs_on hv]);exact ⟨rfl,trivial,lenV _ _⟩) ?_;refine s_g (v:=(!r_9)) (.bool ((r_2.Cells.length:Int) != (t_1.Columns.length:Int))) rfl (fun hv => by (try simp only [gs_on hv]);exact ⟨rfl,rfl,rfl⟩) ?_;refine s_pick (x:=true) (y:=((r_2.Cells.length:Int) != (t_1.Columns.length:Int))) rfl (fun hv => by (try simp only [gs_on hv]);rfl) (fun hv => by (try simp only [gs_on hv]);rfl) ?_;refine w_done ?_;obtain rfl:=os hb1;exact ⟨[],[0,1],_,_,rfl,rfl,⟨.refl _,⟨.refl _,⟨.refl _,trivial⟩⟩⟩,(.refl _)⟩
 ·rcases oi hf with ⟨c13,hf⟩ | ⟨c13,hf⟩
  ·refine w_condt rfl c13<|sr<|s_mov (.bool false) rfl<|dk<|w_ret<|?_;obtain rfl:=os hf;exact r_flat ⟨trivial,trivial⟩ rfl (.refl _)
  ·refine w_condf rfl (bf c13)<|w_skip<|k_seq<|awp_seq<|sr<|s_mov (.int .i64 0) rfl<|dk<|?_
   obtain ⟨p98,hb1,hf⟩:=ob hf
   refine awp_cutx (X:={q:Unit // p98 = .go q}) (fun q => ([],[])) ?_ ?_
   ·refine awp_loop (X:={q:Nat // spec_l05Row_L1 t_1 (r_2.Cells.drop q) q = some p98}) (fun q => ([(2,(.ptr 0 0 0)),(3,(.ptr 1 0 0)),(5,(.int .i64 (q.1:Int)))],[.box 4 (.agg [(.str t_1.Name),(.lst 8 (t_1.Columns.map encGColumn)),(.lst 1 (t_1.Unique.map encI)),(.bool t_1.Root)]),.box 2 (.agg [(.int .i64 r_2.Id),(.lst 1 (r_2.Cells.map (encL 3 encGAtom)))])])) (fun q => r_2.Cells.length - q.1) ⟨0,hb1⟩ ⟨[],[0,1],_,_,rfl,rfl,⟨.refl _,⟨.refl _,⟨.refl _,trivial⟩⟩⟩,(.refl _)⟩ ?_
    rintro ⟨i_69,hc1⟩
    have hc1:spec_l05Row_L1 t_1 (r_2.Cells.drop i_69) i_69 = some p98:=hc1
    refine (show awp Tryz.prog false 0 _ (ofL [(2,(.ptr 0 0 0)),(3,(.ptr 1 0 0)),(5,(.int .i64 (i_69:Int)))]) [.box 4 (.agg [(.str t_1.Name),(.lst 8 (t_1.Columns.map encGColumn)),(.lst 1 (t_1.Unique.map encI)),(.bool t_1.Root)]),.box 2 (.agg [(.int .i64 r_2.Id),(.lst 1 (r_2.Cells.map (encL 3 encGAtom)))])] _ from ?_)
    rcases dropc r_2.Cells i_69 with ⟨hie101,hd104⟩ | ⟨hlt99,x_105,hx100,hd104⟩
    ·rw [hd104,spec_l05Row_L1.eq_1] at hc1
     have hq103:=dlf hie101
     refine awp_seq<|sr<|s_mov (.int .i64 (i_69:Int)) rfl<|s_q (.ptr 1 0 1) rfl trivial rfl<|s_q (.lst 1 (r_2.Cells.map (encL 3 encGAtom))) rfl nle rfl<|s_dof (o_len (enc:=(encL 3 encGAtom)) rfl) fun hl106 => s_q (.bool (decide ((i_69:Int) < (r_2.Cells.length:Int)))) rfl rfl rfl<|dk<|w_condf rfl hq103<|w_exit<|k_seqx<|k_loopx<|k_blkx<|?_;obtain rfl:=os hc1;exact k_cutn ⟨_,rfl⟩ ⟨[],[],_,_,rfl,rfl,trivial,(.refl _)⟩
    ·rw [hd104,spec_l05Row_L1.eq_2] at hc1
     have hq103:=dlt hlt99
     refine awp_seq<|sr<|s_mov (.int .i64 (i_69:Int)) rfl<|s_q (.ptr 1 0 1) rfl trivial rfl<|s_q (.lst 1 (r_2.Cells.map (encL 3 encGAtom))) rfl nle rfl<|s_dof (o_len (enc:=(encL 3 encGAtom)) rfl) fun hl107 => s_q (.bool (decide ((i_69:Int) < (r_2.Cells.length:Int)))) rfl rfl rfl<|dk<|w_condt rfl hq103<|w_skip<|k_seq<|awp_seq<|w_blk<|awp_seq<|?_
     obtain ⟨s46_115,hb2,hc1⟩:=ob hc1
     refine awp_cut ([(2,(.ptr 0 0 0)),(3,(.ptr 1 0 0)),(5,(.int .i64 (i_69:Int))),(46,(.bool s46_115))],[.box 4 (.agg [(.str t_1.Name),(.lst 8 (t_1.Columns.map encGColumn)),(.lst 1 (t_1.Unique.map encI)),(.bool t_1.Root)]),.box 2 (.agg [(.int .i64 r_2.Id),(.lst 1 (r_2.Cells.map (encL 3 encGAtom)))])]) ?_ ?_
     ·refine w_reg<|s_q (.ptr 1 0 1) rfl trivial rfl<|s_q (.lst 1 (r_2.Cells.map (encL 3 encGAtom))) rfl nle rfl<|s_mov (.int .i64 (i_69:Int)) rfl<|s_do (o_iaddrn (enc:=(encL 3 encGAtom)) rfl rfl hx100)<|s_q (.lst 3 (x_105.map encGAtom)) rfl ⟨rfl,rfl⟩ rfl<|?_
      obtain ⟨r_117,er118,hb2⟩:=ob hb2
      refine s_dol (o_call (w_spec_DatumOK _ _ er118) rfl (.refl _) rfl) a_same trivial<|s_q (.bool (!r_117)) rfl trivial rfl<|s_mov (.bool (!r_117)) rfl<|?_
      rcases oi hb2 with ⟨c119,hb2⟩ | ⟨c119,hb2⟩
      ·refine s_lit (s:=33) (b:=true) rfl c119<|s_off rfl rfl<|s_off rfl rfl<|s_off rfl rfl<|s_off rfl rfl<|s_off rfl rfl<|s_off rfl rfl<|s_off rfl rfl<|s_off rfl rfl<|s_off rfl rfl<|s_off rfl rfl<|s_offl rfl rfl trivial<|s_off rfl rfl<|s_q (.bool true) rfl trivial rfl<|w_done<|?_;obtain rfl:=os hb2;exact ⟨[],[0,1],_,_,rfl,rfl,⟨.refl _,⟨.refl _,⟨.refl _,⟨.refl _,trivial⟩⟩⟩⟩,(.refl _)⟩
      ·refine s_lit (s:=33) (b:=false) rfl (bf c119)<|s_on rfl<|s_q (.ptr 0 0 1) rfl trivial rfl<|s_on rfl<|s_q (.lst 8 (t_1.Columns.map encGColumn)) rfl nle rfl<|s_on rfl<|s_mov (.int .i64 (i_69:Int)) rfl<|s_on rfl<|?_
       obtain ⟨x_120,ex121,hb2⟩:=ob hb2
       refine s_do (o_iaddr (enc:=encGColumn) rfl rfl (idx0 ex121) (idx1 ex121))<|s_on rfl<|s_q (encGColumn x_120) rfl nle rfl<|s_on rfl<|s_q (.ptr 1 0 1) rfl trivial rfl<|s_on rfl<|s_q (.lst 1 (r_2.Cells.map (encL 3 encGAtom))) rfl nle rfl<|s_on rfl<|s_mov (.int .i64 (i_69:Int)) rfl<|s_on rfl<|s_do (o_iaddrn (enc:=(encL 3 encGAtom)) rfl rfl hx100)<|s_on rfl<|s_q (.lst 3 (x_105.map encGAtom)) rfl ⟨rfl,rfl⟩ rfl<|s_onl rfl<|?_
       obtain ⟨r_122,er123,hb2⟩:=ob hb2
       refine s_dol (o_call (w_spec_l04Fits _ _ _ er123) rfl (.refl _) rfl) a_same trivial<|s_on rfl<|s_q (.bool (r_122 != 0)) rfl rfl rfl<|s_q (.bool (r_122 != 0)) rfl trivial rfl<|w_done<|?_;obtain rfl:=os hb2;exact ⟨[],[0,1],_,_,rfl,rfl,⟨.refl _,⟨.refl _,⟨.refl _,⟨.refl _,trivial⟩⟩⟩⟩,(.refl _)⟩
     ·rcases oi hc1 with ⟨c124,hc1⟩ | ⟨c124,hc1⟩
      ·refine w_condt rfl c124<|sr<|s_mov (.bool false) rfl<|dk<|w_ret<|?_;obtain rfl:=os hc1;obtain rfl:=os hf;exact r_flat ⟨trivial,trivial⟩ rfl (.refl _)
      ·refine w_condf rfl (bf c124)<|w_skip<|k_blk<|k_seq<|w_reg<|s_mov (.int .i64 (i_69:Int)) rfl<|s_q (.int .i64 (w64 ((i_69:Int) + 1))) rfl rfl rfl<|s_mov (.int .i64 (w64 ((i_69:Int) + 1))) rfl<|w_done<|?_;exact k_loopn ⟨(i_69 + 1),hc1⟩ (mul hlt99) ⟨[],[0,1],_,_,rfl,rfl,⟨.refl _,⟨.refl _,⟨.of_eq (congrArg (AV.int _) (w64_incr hlt99 hl107)),trivial⟩⟩⟩,(.refl _)⟩
   ·rintro ⟨_,rfl⟩
    refine sr<|s_mov (.bool true) rfl<|dk<|w_ret<|?_;obtain rfl:=os hf;exact r_flat ⟨trivial,trivial⟩ rfl (.refl _)

/- spec.l05Form -/
def c52:ACode :=
 (.seq (.reg (tq 2 (.box 1 (.t 0)) (tq 3 (.box 2 (.t 1)) (tm 4 (.c (.bool false)) .done))))
 (.seq (.seq (.reg (tq 8 (.faddr 0 (.t 3)) (tq 9 (.load 1 false (.t 8)) (tq 10 (.len (.t 9)) (tq 11 (.faddr 0 (.t 2)) (tq 12 (.load 1 false (.t 11)) (tq 13 (.len (.t 12)) (tq 14 (.bin .neq (.t 10) (.t 13)) (tm 15 (.t 14) (tg 16 15 false (.faddr 1 (.t 3)) (tg 17 15 false (.load 1 false (.t 16)) (tg 18 15 false (.call 95 [(.t 17),(.c (.int .i64 1)),(.c (.int .i64 1000000))]) (tg 19 15 false (.not (.t 18)) (tq 20 (.pick (.t 15) (.c (.bool true)) (.t 19)) .done))))))))))))))
 (.cut (.cond (.t 20) (.seq (.reg (tm 4 (.c (.bool false)) .done))
 .ret)
 .skip)))
 (.seq (.seq (.reg (tm 5 (.c (.int .i64 0)) .done))
 (.block 0 (.loop (.seq (.seq (.reg (tm 21 (.t 5) (tq 22 (.faddr 0 (.t 3)) (tq 23 (.load 1 false (.t 22)) (tq 24 (.len (.t 23)) (tq 25 (.bin .lss (.t 21) (.t 24)) .done))))))
 (.cond (.t 25) .skip
 (.exit 0)))
 (.seq (.block 1 (.seq (.seq (.reg (tq 28 (.faddr 0 (.t 3)) (tq 29 (.load 1 false (.t 28)) (tm 30 (.t 5) (tq 31 (.iaddr 1 (.t 29) (.t 30)) (tq 32 (.load 1 false (.t 31)) (tq 33 (.len (.t 32)) (tq 34 (.bin .gtr (.t 33) (.c (.int .i64 12))) .done))))))))
 (.cond (.t 34) (.seq (.reg (tm 4 (.c (.bool false)) .done))
 .ret)
 .skip))
 (.seq (.reg (tm 6 (.c (.int .i64 0)) .done))
 (.block 2 (.loop (.seq (.seq (.reg (tm 35 (.t 6) (tq 36 (.faddr 0 (.t 3)) (tq 37 (.load 1 false (.t 36)) (tm 38 (.t 5) (tq 39 (.iaddr 1 (.t 37) (.t 38)) (tq 40 (.load 1 false (.t 39)) (tq 41 (.len (.t 40)) (tq 42 (.bin .lss (.t 35) (.t 41)) .done)))))))))
 (.cond (.t 42) .skip
 (.exit 2)))
 (.seq (.block 3 (.seq (.reg (tq 45 (.faddr 0 (.t 3)) (tq 46 (.load 1 false (.t 45)) (tm 47 (.t 5) (tq 48 (.iaddr 1 (.t 46) (.t 47)) (tq 49 (.load 1 false (.t 48)) (tm 50 (.t 6) (tq 51 (.iaddr 2 (.t 49) (.t 50)) (tq 52 (.load 2 true (.t 51)) (tq 7 (.box 2 (.c (.agg [(.int .i64 0),.nil]))) (.q ⟨none,none,.store 2 (.t 7) (.t 52)⟩
 .done)))))))))))
 (.seq (.reg (tq 53 (.faddr 0 (.t 2)) (tq 54 (.load 1 false (.t 53)) (tm 55 (.t 5) (tq 56 (.iaddr 4 (.t 54) (.t 55)) (tq 57 (.load 4 true (.t 56)) (tq 58 (.load 2 true (.t 7)) (.l ⟨(some 59),none,.call 120 [(.t 57),(.t 58)]⟩ []
 (tq 60 (.not (.t 59)) (tm 61 (.t 60) (tg 62 61 false (.faddr 0 (.t 7)) (tg 63 61 false (.load 1 false (.t 62)) (tg 64 61 false (.faddr 1 (.t 3)) (tg 65 61 false (.load 1 false (.t 64)) (tg 66 61 false (.bin .geq (.t 63) (.t 65)) (tq 67 (.pick (.t 61) (.c (.bool true)) (.t 66)) (tm 68 (.t 67) (tg 69 68 false (.mov (.t 6)) (tg 70 68 false (.bin .gtr (.t 69) (.c (.int .i64 0))) (tg 71 68 false (.mov (.t 70)) (tg 72 71 true (.faddr 0 (.t 3)) (tg 73 71 true (.load 1 false (.t 72)) (tg 74 71 true (.mov (.t 5)) (tg 75 71 true (.iaddr 1 (.t 73) (.t 74)) (tg 76 71 true (.load 1 false (.t 75)) (tg 77 71 true (.mov (.t 6)) (tg 78 71 true (.bin .sub (.t 77) (.c (.int .i64 1))) (tg 79 71 true (.iaddr 2 (.t 76) (.t 78)) (tg 80 71 true (.faddr 0 (.t 79)) (tg 81 71 true (.load 1 false (.t 80)) (tg 82 71 true (.faddr 0 (.t 7)) (tg 83 71 true (.load 1 false (.t 82)) (tg 84 71 true (.bin .geq (.t 81) (.t 83)) (tg 85 68 false (.pick (.t 71) (.t 84) (.c (.bool false))) (tq 86 (.pick (.t 68) (.c (.bool true)) (.t 85)) .done))))))))))))))))))))))))))) .non))))))))
 (.cut (.cond (.t 86) (.seq (.reg (tm 4 (.c (.bool false)) .done))
 .ret)
 .skip)))))
 (.reg (tm 43 (.t 6) (tq 44 (.bin .add (.t 43) (.c (.int .i64 1))) (tm 6 (.t 44) .done)))))))))))
 (.cut (.reg (tm 26 (.t 5) (tq 27 (.bin .add (.t 26) (.c (.int .i64 1))) (tm 5 (.t 27) .done))))))))))
 (.cut (.seq (.reg (tm 4 (.c (.bool true)) .done))
 .ret)))))
theorem fc52:fcomp Tryz.prog Tryz.f52 = some (c52.erase,[.mov (.t 4)],87):=by kernel_rfl
def spec_l05Form_L2 (s_1:GSchema) (i_479:Nat) (x_2:GStore) (x_719:(List GRow)):List GRow → Nat → Option (Fl Bool Unit)
  | [],k_771 =>
    some (.go ())
  | x_803 :: xs,k_771 =>
    (((idx s_1.Tables (i_479:Int)).bind fun x_816 =>
    (spec_l05Row x_816 x_803).bind fun r_818 =>
    if (bif (!r_818) then true else (decide (x_803.Id ≥ x_2.Next))) then
    some true
    else
    if (decide ((k_771:Int) > 0)) then
    (idx x_719 (w64 ((k_771:Int) - 1))).bind fun x_822 =>
    some (decide (x_822.Id ≥ x_803.Id))
    else
    some false:Option Bool)).bind fun s86_814 =>
    if s86_814 then
    some (.ret false)
    else
    spec_l05Form_L2 s_1 i_479 x_2 x_719 xs (k_771 + 1)

def spec_l05Form_L1 (s_1:GSchema) (x_2:GStore):List (List GRow) → Nat → Option (Fl Bool Unit)
  | [],i_479 =>
    some (.go ())
  | x_719 :: xs,i_479 =>
    if (decide ((x_719.length:Int) > 12)) then
    some (.ret false)
    else
    (spec_l05Form_L2 s_1 i_479 x_2 x_719 x_719 0).bind fun q => (match q with
    | .ret r => some (.ret r)
    | .go _ =>
    spec_l05Form_L1 s_1 x_2 xs (i_479 + 1))

def spec_l05Form (s_1:GSchema) (x_2:GStore):Option Bool :=
    ((if ((x_2.Tables.length:Int) != (s_1.Tables.length:Int)) then
    some true
    else
    (spec_l01In x_2.Next 1 1000000).bind fun r_13 =>
    some (!r_13):Option Bool)).bind fun s20_8 =>
    if s20_8 then
    some false
    else
    (spec_l05Form_L1 s_1 x_2 x_2.Tables 0).bind fun q => (match q with
    | .ret r => some r
    | .go _ =>
    some true)
theorem w_spec_l05Form (s_1:GSchema) (x_2:GStore) (r:Bool) (hf:spec_l05Form s_1 x_2 = some r):CallOK Tryz.prog 52 .flat [(encGSchema s_1),(encGStore x_2)] (.bool r):=by
 refine CallOK.of_awp mixed Tryz.func52 fc52 nle ?_;rw [argT_eq];unfold spec_l05Form at hf;unfold c52;refine (show awp Tryz.prog false 0 _ (ofL [(0,(encGSchema s_1)),(1,(encGStore x_2))]) [] _ from ?_);refine sr<|s_do (o_box (j:=0) (c:=(.agg [(.lst 4 (s_1.Tables.map encGTable))])) rfl trivial rfl rfl)<|s_do (o_box (j:=1) (c:=(.agg [(.lst 1 (x_2.Tables.map (encL 2 encGRow))),(.int .i64 x_2.Next)])) rfl trivial rfl rfl)<|s_mov (.bool false) rfl<|dk<|awp_seq<|awp_seq<|?_
 obtain ⟨s20_8,hb1,hf⟩:=ob hf
 refine awp_cut ([(2,(.ptr 0 0 0)),(3,(.ptr 1 0 0)),(20,(.bool s20_8))],[.box 1 (.agg [(.lst 4 (s_1.Tables.map encGTable))]),.box 2 (.agg [(.lst 1 (x_2.Tables.map (encL 2 encGRow))),(.int .i64 x_2.Next)])]) ?_ ?_
 ·refine w_reg<|s_q (.ptr 1 0 0) rfl trivial rfl<|s_q (.lst 1 (x_2.Tables.map (encL 2 encGRow))) rfl nle rfl<|s_dof (o_len (enc:=(encL 2 encGRow)) rfl) fun hl10 => s_q (.ptr 0 0 0) rfl trivial rfl<|s_q (.lst 4 (s_1.Tables.map encGTable)) rfl nle rfl<|s_dof (o_len (enc:=encGTable) rfl) fun hl11 => s_q (.bool ((x_2.Tables.length:Int) != (s_1.Tables.length:Int))) rfl rfl rfl<|s_mov (.bool ((x_2.Tables.length:Int) != (s_1.Tables.length:Int))) rfl<|?_
  rcases oi hb1 with ⟨c12,hb1⟩ | ⟨c12,hb1⟩
  ·refine s_lit (s:=15) (b:=true) rfl c12<|s_off rfl rfl<|s_off rfl rfl<|s_off rfl rfl<|s_off rfl rfl<|s_q (.bool true) rfl trivial rfl<|w_done<|?_;obtain rfl:=os hb1;exact ⟨[],[0,1],_,_,rfl,rfl,⟨.refl _,⟨.refl _,⟨.refl _,trivial⟩⟩⟩,(.refl _)⟩
  ·refine s_lit (s:=15) (b:=false) rfl (bf c12)<|s_on rfl<|s_q (.ptr 1 0 1) rfl trivial rfl<|s_on rfl<|s_q (.int .i64 x_2.Next) rfl nle rfl<|s_on rfl<|?_
   obtain ⟨r_13,er14,hb1⟩:=ob hb1
   refine s_do (o_call (w_spec_l01In _ _ _ _ er14) rfl (.refl _) rfl)<|s_on rfl<|s_q (.bool (!r_13)) rfl trivial rfl<|s_q (.bool (!r_13)) rfl trivial rfl<|w_done<|?_;obtain rfl:=os hb1;exact ⟨[],[0,1],_,_,rfl,rfl,⟨.refl _,⟨.refl _,⟨.refl _,trivial⟩⟩⟩,(.refl _)⟩
 ·rcases oi hf with ⟨c15,hf⟩ | ⟨c15,hf⟩
  ·refine w_condt rfl c15<|sr<|s_mov (.bool false) rfl<|dk<|w_ret<|?_;obtain rfl:=os hf;exact r_flat ⟨trivial,trivial⟩ rfl (.refl _)
  ·refine w_condf rfl (bf c15)<|w_skip<|k_seq<|awp_seq<|sr<|s_mov (.int .i64 0) rfl<|dk<|?_
   obtain ⟨p712,hb1,hf⟩:=ob hf
   refine awp_cutx (X:={q:Unit // p712 = .go q}) (fun q => ([],[])) ?_ ?_
   ·refine awp_loop (X:={q:Nat // spec_l05Form_L1 s_1 x_2 (x_2.Tables.drop q) q = some p712}) (fun q => ([(2,(.ptr 0 0 0)),(3,(.ptr 1 0 0)),(5,(.int .i64 (q.1:Int)))],[.box 1 (.agg [(.lst 4 (s_1.Tables.map encGTable))]),.box 2 (.agg [(.lst 1 (x_2.Tables.map (encL 2 encGRow))),(.int .i64 x_2.Next)])])) (fun q => x_2.Tables.length - q.1) ⟨0,hb1⟩ ⟨[],[0,1],_,_,rfl,rfl,⟨.refl _,⟨.refl _,⟨.refl _,trivial⟩⟩⟩,(.refl _)⟩ ?_
    rintro ⟨i_479,hc1⟩
    have hc1:spec_l05Form_L1 s_1 x_2 (x_2.Tables.drop i_479) i_479 = some p712:=hc1
    refine (show awp Tryz.prog false 0 _ (ofL [(2,(.ptr 0 0 0)),(3,(.ptr 1 0 0)),(5,(.int .i64 (i_479:Int)))]) [.box 1 (.agg [(.lst 4 (s_1.Tables.map encGTable))]),.box 2 (.agg [(.lst 1 (x_2.Tables.map (encL 2 encGRow))),(.int .i64 x_2.Next)])] _ from ?_)
    rcases dropc x_2.Tables i_479 with ⟨hie715,hd718⟩ | ⟨hlt713,x_719,hx714,hd718⟩
    ·rw [hd718,spec_l05Form_L1.eq_1] at hc1
     have hq717:=dlf hie715
     refine awp_seq<|sr<|s_mov (.int .i64 (i_479:Int)) rfl<|s_q (.ptr 1 0 0) rfl trivial rfl<|s_q (.lst 1 (x_2.Tables.map (encL 2 encGRow))) rfl nle rfl<|s_dof (o_len (enc:=(encL 2 encGRow)) rfl) fun hl720 => s_q (.bool (decide ((i_479:Int) < (x_2.Tables.length:Int)))) rfl rfl rfl<|dk<|w_condf rfl hq717<|w_exit<|k_seqx<|k_loopx<|k_blkx<|?_;obtain rfl:=os hc1;exact k_cutn ⟨_,rfl⟩ ⟨[],[],_,_,rfl,rfl,trivial,(.refl _)⟩
    ·rw [hd718,spec_l05Form_L1.eq_2] at hc1
     have hq717:=dlt hlt713
     refine awp_seq<|sr<|s_mov (.int .i64 (i_479:Int)) rfl<|s_q (.ptr 1 0 0) rfl trivial rfl<|s_q (.lst 1 (x_2.Tables.map (encL 2 encGRow))) rfl nle rfl<|s_dof (o_len (enc:=(encL 2 encGRow)) rfl) fun hl721 => s_q (.bool (decide ((i_479:Int) < (x_2.Tables.length:Int)))) rfl rfl rfl<|dk<|w_condt rfl hq717<|w_skip<|k_seq<|awp_seq<|w_blk<|awp_seq<|sr<|s_q (.ptr 1 0 0) rfl trivial rfl<|s_q (.lst 1 (x_2.Tables.map (encL 2 encGRow))) rfl nle rfl<|s_mov (.int .i64 (i_479:Int)) rfl<|s_do (o_iaddrn (enc:=(encL 2 encGRow)) rfl rfl hx714)<|s_q (.lst 2 (x_719.map encGRow)) rfl ⟨rfl,rfl⟩ rfl<|s_dof (o_len (enc:=encGRow) rfl) fun hl722 => ?_
     refine s_q (.bool (decide ((x_719.length:Int) > 12))) rfl rfl rfl<|dk<|?_
     rcases oi hc1 with ⟨c723,hc1⟩ | ⟨c723,hc1⟩
     ·refine w_condt rfl c723<|sr<|s_mov (.bool false) rfl<|dk<|w_ret<|?_;obtain rfl:=os hc1;obtain rfl:=os hf;exact r_flat ⟨trivial,trivial⟩ rfl (.refl _)
     ·refine w_condf rfl (bf c723)<|w_skip<|k_seq<|sr<|s_mov (.int .i64 0) rfl<|dk<|?_
      obtain ⟨p796,hb2,hc1⟩:=ob hc1
      refine awp_cutxb (X:={q:Unit // p796 = .go q}) (fun q => ([(2,(.ptr 0 0 0)),(3,(.ptr 1 0 0)),(5,(.int .i64 (i_479:Int)))],[.box 1 (.agg [(.lst 4 (s_1.Tables.map encGTable))]),.box 2 (.agg [(.lst 1 (x_2.Tables.map (encL 2 encGRow))),(.int .i64 x_2.Next)])])) ?_ ?_
      ·refine awp_loop (X:={q:Nat // spec_l05Form_L2 s_1 i_479 x_2 x_719 (x_719.drop q) q = some p796}) (fun q => ([(2,(.ptr 0 0 0)),(3,(.ptr 1 0 0)),(5,(.int .i64 (i_479:Int))),(6,(.int .i64 (q.1:Int)))],[.box 1 (.agg [(.lst 4 (s_1.Tables.map encGTable))]),.box 2 (.agg [(.lst 1 (x_2.Tables.map (encL 2 encGRow))),(.int .i64 x_2.Next)])])) (fun q => x_719.length - q.1) ⟨0,hb2⟩ ⟨[],[0,1],_,_,rfl,rfl,⟨.refl _,⟨.refl _,⟨.refl _,⟨.refl _,trivial⟩⟩⟩⟩,(.refl _)⟩ ?_
       rintro ⟨k_771,hc2⟩
       have hc2:spec_l05Form_L2 s_1 i_479 x_2 x_719 (x_719.drop k_771) k_771 = some p796:=hc2
       refine (show awp Tryz.prog false 0 _ (ofL [(2,(.ptr 0 0 0)),(3,(.ptr 1 0 0)),(5,(.int .i64 (i_479:Int))),(6,(.int .i64 (k_771:Int)))]) [.box 1 (.agg [(.lst 4 (s_1.Tables.map encGTable))]),.box 2 (.agg [(.lst 1 (x_2.Tables.map (encL 2 encGRow))),(.int .i64 x_2.Next)])] _ from ?_)
       rcases dropc x_719 k_771 with ⟨hie799,hd802⟩ | ⟨hlt797,x_803,hx798,hd802⟩
       ·rw [hd802,spec_l05Form_L2.eq_1] at hc2
        have hq801:=dlf hie799
        refine awp_seq<|sr<|s_mov (.int .i64 (k_771:Int)) rfl<|s_q (.ptr 1 0 0) rfl trivial rfl<|s_q (.lst 1 (x_2.Tables.map (encL 2 encGRow))) rfl nle rfl<|s_mov (.int .i64 (i_479:Int)) rfl<|s_do (o_iaddrn (enc:=(encL 2 encGRow)) rfl rfl hx714)<|s_q (.lst 2 (x_719.map encGRow)) rfl ⟨rfl,rfl⟩ rfl<|s_dof (o_len (enc:=encGRow) rfl) fun hl804 => s_q (.bool (decide ((k_771:Int) < (x_719.length:Int)))) rfl rfl rfl<|dk<|w_condf rfl hq801<|w_exit<|k_seqx<|k_loopx<|k_blkx<|?_;refine k_blk ?_;obtain rfl:=os hc2;exact k_cutn ⟨_,rfl⟩ ⟨[],[0,1],_,_,rfl,rfl,⟨.refl _,⟨.refl _,⟨.refl _,trivial⟩⟩⟩,(.refl _)⟩
       ·rw [hd802,spec_l05Form_L2.eq_2] at hc2
        have hq801:=dlt hlt797
        refine awp_seq<|sr<|s_mov (.int .i64 (k_771:Int)) rfl<|s_q (.ptr 1 0 0) rfl trivial rfl<|s_q (.lst 1 (x_2.Tables.map (encL 2 encGRow))) rfl nle rfl<|s_mov (.int .i64 (i_479:Int)) rfl<|s_do (o_iaddrn (enc:=(encL 2 encGRow)) rfl rfl hx714)<|s_q (.lst 2 (x_719.map encGRow)) rfl ⟨rfl,rfl⟩ rfl<|s_dof (o_len (enc:=encGRow) rfl) fun hl805 => s_q (.bool (decide ((k_771:Int) < (x_719.length:Int)))) rfl rfl rfl<|dk<|w_condt rfl hq801<|w_skip<|k_seq<|awp_seq<|w_blk<|sr<|s_q (.ptr 1 0 0) rfl trivial rfl<|s_q (.lst 1 (x_2.Tables.map (encL 2 encGRow))) rfl nle rfl<|s_mov (.int .i64 (i_479:Int)) rfl<|s_do (o_iaddrn (enc:=(encL 2 encGRow)) rfl rfl hx714)<|?_
        refine s_q (.lst 2 (x_719.map encGRow)) rfl ⟨rfl,rfl⟩ rfl<|s_mov (.int .i64 (k_771:Int)) rfl<|s_do (o_iaddrn (enc:=encGRow) rfl rfl hx798)<|s_q (encGRow x_803) rfl nle rfl<|s_do (o_box (j:=2) (c:=(.agg [(.int .i64 0),.nil])) rfl trivial rfl rfl)<|s_do0 (o_storebox (v:=(.agg [(.int .i64 x_803.Id),(.lst 1 (x_803.Cells.map (encL 3 encGAtom)))])) (y':=(.agg [(.int .i64 x_803.Id),(.lst 1 (x_803.Cells.map (encL 3 encGAtom)))])) rfl rfl rfl trivial ⟨rfl,nle⟩ ⟨⟨rfl,trivial⟩,⟨⟨rfl,trivial⟩,trivial⟩⟩ rfl)<|dk<|awp_seq<|?_
        obtain ⟨s86_814,hb3,hc2⟩:=ob hc2
        refine awp_cut ([(2,(.ptr 0 0 0)),(3,(.ptr 1 0 0)),(5,(.int .i64 (i_479:Int))),(6,(.int .i64 (k_771:Int))),(86,(.bool s86_814))],[.box 1 (.agg [(.lst 4 (s_1.Tables.map encGTable))]),.box 2 (.agg [(.lst 1 (x_2.Tables.map (encL 2 encGRow))),(.int .i64 x_2.Next)])]) ?_ ?_
        ·refine w_reg<|s_q (.ptr 0 0 0) rfl trivial rfl<|s_q (.lst 4 (s_1.Tables.map encGTable)) rfl nle rfl<|s_mov (.int .i64 (i_479:Int)) rfl<|?_
         obtain ⟨x_816,ex817,hb3⟩:=ob hb3
         refine s_do (o_iaddr (enc:=encGTable) rfl rfl (idx0 ex817) (idx1 ex817))<|s_q (encGTable x_816) rfl nle rfl<|s_q (.agg [(.int .i64 x_803.Id),(.lst 1 (x_803.Cells.map (encL 3 encGAtom)))]) rfl nle rfl<|?_
         obtain ⟨r_818,er819,hb3⟩:=ob hb3
         refine s_dol (o_call (w_spec_l05Row _ _ _ er819) rfl (.refl _) rfl) a_same trivial<|s_q (.bool (!r_818)) rfl trivial rfl<|s_mov (.bool (!r_818)) rfl<|?_;refine s_g (v:=(!r_818)) (.ptr 2 0 0) rfl (fun hv => by (try simp only [gs_on hv]);exact ⟨rfl,trivial,rfl⟩) ?_;refine s_g (v:=(!r_818)) (.int .i64 x_803.Id) rfl (fun hv => by (try simp only [gs_on hv]);exact ⟨rfl,nle,rfl⟩) ?_;refine s_g (v:=(!r_818)) (.ptr 1 0 1) rfl (fun hv => by (try simp only [gs_on hv]);exact ⟨rfl,trivial,rfl⟩) ?_;refine s_g (v:=(!r_818)) (.int .i64 x_2.Next) rfl (fun hv => by (try simp only [gs_on hv]);exact ⟨rfl,nle,rfl⟩) ?_;refine s_g (v:=(!r_818)) (.bool (decide (x_803.Id ≥ x_2.Next))) rfl (fun hv => by (try simp only [gs_on hv]);exact ⟨rfl,rfl,rfl⟩) ?_
         refine s_pick (x:=true) (y:=(decide (x_803.Id ≥ x_2.Next))) rfl (fun hv => by (try simp only [gs_on hv]);rfl) (fun hv => by (try simp only [gs_on hv]);rfl) ?_;refine s_mov (.bool (bif (!r_818) then true else (decide (x_803.Id ≥ x_2.Next)))) rfl ?_
         rcases oi hb3 with ⟨c820,hb3⟩ | ⟨c820,hb3⟩
         ·refine s_lit (s:=68) (b:=true) rfl c820<|s_off rfl rfl<|s_off rfl rfl<|s_off rfl rfl<|s_offs rfl<|s_offs rfl<|s_offs rfl<|s_offs rfl<|s_offs rfl<|s_offs rfl<|s_offs rfl<|s_offs rfl<|s_offs rfl<|s_offs rfl<|s_offs rfl<|s_offs rfl<|s_offs rfl<|s_off rfl rfl<|s_q (.bool true) rfl trivial rfl<|w_done<|?_;obtain rfl:=os hb3;exact ⟨[],[0,1],_,_,rfl,rfl,⟨.refl _,⟨.refl _,⟨.refl _,⟨.refl _,⟨.refl _,trivial⟩⟩⟩⟩⟩,(.refl _)⟩
         ·refine s_lit (s:=68) (b:=false) rfl (bf c820)<|s_on rfl<|s_mov (.int .i64 (k_771:Int)) rfl<|s_on rfl<|s_q (.bool (decide ((k_771:Int) > 0))) rfl rfl rfl<|s_on rfl<|s_mov (.bool (decide ((k_771:Int) > 0))) rfl<|?_
          rcases oi hb3 with ⟨c821,hb3⟩ | ⟨c821,hb3⟩
          ·refine s_lit (s:=71) (b:=true) rfl c821<|s_on rfl<|s_q (.ptr 1 0 0) rfl trivial rfl<|s_on rfl<|s_q (.lst 1 (x_2.Tables.map (encL 2 encGRow))) rfl nle rfl<|s_on rfl<|s_mov (.int .i64 (i_479:Int)) rfl<|s_on rfl<|s_do (o_iaddrn (enc:=(encL 2 encGRow)) rfl rfl hx714)<|s_on rfl<|s_q (.lst 2 (x_719.map encGRow)) rfl ⟨rfl,rfl⟩ rfl<|s_on rfl<|s_mov (.int .i64 (k_771:Int)) rfl<|s_on rfl<|s_q (.int .i64 (w64 ((k_771:Int) - 1))) rfl rfl rfl<|s_on rfl<|?_
           obtain ⟨x_822,ex823,hb3⟩:=ob hb3
           refine s_do (o_iaddr (enc:=encGRow) rfl rfl (idx0 ex823) (idx1 ex823))<|s_on rfl<|s_q (.iptr (encGRow x_822) 0) rfl trivial rfl<|s_on rfl<|s_q (.int .i64 x_822.Id) rfl nle rfl<|s_on rfl<|s_q (.ptr 2 0 0) rfl trivial rfl<|s_on rfl<|s_q (.int .i64 x_803.Id) rfl nle rfl<|s_on rfl<|s_q (.bool (decide (x_822.Id ≥ x_803.Id))) rfl rfl rfl<|s_on rfl<|s_q (.bool (decide (x_822.Id ≥ x_803.Id))) rfl trivial rfl<|s_q (.bool (decide (x_822.Id ≥ x_803.Id))) rfl trivial rfl<|w_done<|?_;obtain rfl:=os hb3;exact ⟨[],[0,1],_,_,rfl,rfl,⟨.refl _,⟨.refl _,⟨.refl _,⟨.refl _,⟨.refl _,trivial⟩⟩⟩⟩⟩,(.refl _)⟩
          ·refine s_lit (s:=71) (b:=false) rfl (bf c821)<|s_off rfl rfl<|s_off rfl rfl<|s_off rfl rfl<|s_off rfl rfl<|s_off rfl rfl<|s_off rfl rfl<|s_off rfl rfl<|s_off rfl rfl<|s_off rfl rfl<|s_off rfl rfl<|s_off rfl rfl<|s_off rfl rfl<|s_off rfl rfl<|s_on rfl<|s_q (.bool false) rfl trivial rfl<|s_q (.bool false) rfl trivial rfl<|w_done<|?_;obtain rfl:=os hb3;exact ⟨[],[0,1],_,_,rfl,rfl,⟨.refl _,⟨.refl _,⟨.refl _,⟨.refl _,⟨.refl _,trivial⟩⟩⟩⟩⟩,(.refl _)⟩
        ·rcases oi hc2 with ⟨c824,hc2⟩ | ⟨c824,hc2⟩
         ·refine w_condt rfl c824<|sr<|s_mov (.bool false) rfl<|dk<|w_ret<|?_;obtain rfl:=os hc2;obtain rfl:=os hc1;obtain rfl:=os hf;exact r_flat ⟨trivial,trivial⟩ rfl (.refl _)
         ·refine w_condf rfl (bf c824)<|w_skip<|k_blk<|k_seq<|w_reg<|s_mov (.int .i64 (k_771:Int)) rfl<|s_q (.int .i64 (w64 ((k_771:Int) + 1))) rfl rfl rfl<|s_mov (.int .i64 (w64 ((k_771:Int) + 1))) rfl<|w_done<|?_;exact k_loopn ⟨(k_771 + 1),hc2⟩ (mul hlt797) ⟨[],[0,1],_,_,rfl,rfl,⟨.refl _,⟨.refl _,⟨.refl _,⟨.of_eq (congrArg (AV.int _) (w64_incr hlt797 hl805)),trivial⟩⟩⟩⟩,(.refl _)⟩
      ·rintro ⟨_,rfl⟩
       refine w_reg<|s_mov (.int .i64 (i_479:Int)) rfl<|s_q (.int .i64 (w64 ((i_479:Int) + 1))) rfl rfl rfl<|s_mov (.int .i64 (w64 ((i_479:Int) + 1))) rfl<|w_done<|?_;exact k_loopn ⟨(i_479 + 1),hc1⟩ (mul hlt713) ⟨[],[0,1],_,_,rfl,rfl,⟨.refl _,⟨.refl _,⟨.of_eq (congrArg (AV.int _) (w64_incr hlt713 hl721)),trivial⟩⟩⟩,(.refl _)⟩
   ·rintro ⟨_,rfl⟩
    refine sr<|s_mov (.bool true) rfl<|dk<|w_ret<|?_;obtain rfl:=os hf;exact r_flat ⟨trivial,trivial⟩ rfl (.refl _)

/- spec.l05Place -/
def c170:ACode :=
 (.seq (.reg (tm 4 (.c (.int .i64 0)) .done))
 (.seq (.seq (.reg (tm 5 (.c (.int .i64 0)) .done))
 (.block 0 (.loop (.seq (.seq (.reg (tm 6 (.t 5) (tm 7 (.t 0) (tq 8 (.len (.t 7)) (tq 9 (.bin .lss (.t 6) (.t 8)) .done)))))
 (.cond (.t 9) .skip
 (.exit 0)))
 (.seq (.block 1 (.seq (.reg (tm 12 (.t 0) (tm 13 (.t 5) (tq 14 (.iaddr 2 (.t 12) (.t 13)) (tq 15 (.faddr 0 (.t 14)) (tq 16 (.load 1 false (.t 15)) (tm 17 (.t 1) (tq 18 (.bin .eql (.t 16) (.t 17)) .done))))))))
 (.cond (.t 18) (.seq (.reg (tm 19 (.t 5) (tm 4 (.t 19) .done)))
 .ret)
 .skip)))
 (.reg (tm 10 (.t 5) (tq 11 (.bin .add (.t 10) (.c (.int .i64 1))) (tm 5 (.t 11) .done)))))))))
 (.cut (.seq (.reg (tq 4 (.mov (.c (.int .i64 (-1)))) .done))
 .ret))))
theorem fc170:fcomp Tryz.prog Tryz.f170 = some (c170.erase,[.mov (.t 4)],20):=by kernel_rfl
def spec_l05Place_L1 (id_2:Int):List GRow → Nat → Option (Fl Int Unit)
  | [],i_14 =>
    some (.go ())
  | x_28 :: xs,i_14 =>
    if (x_28.Id == id_2) then
    some (.ret (i_14:Int))
    else
    spec_l05Place_L1 id_2 xs (i_14 + 1)

def spec_l05Place (rows_1:(List GRow)) (id_2:Int):Option Int :=
    (spec_l05Place_L1 id_2 rows_1 0).bind fun q => (match q with
    | .ret r => some r
    | .go _ =>
    some (-1))
theorem w_spec_l05Place (rows_1:(List GRow)) (id_2:Int) (r:Int) (hf:spec_l05Place rows_1 id_2 = some r):CallOK Tryz.prog 170 .flat [(.lst 2 (rows_1.map encGRow)),(.int .i64 id_2)] (.int .i64 r):=by
 refine CallOK.of_awp mixed Tryz.func170 fc170 nle ?_;rw [argT_eq];unfold spec_l05Place at hf;unfold c170;refine (show awp Tryz.prog false 0 _ (ofL [(0,(.lst 2 (rows_1.map encGRow))),(1,(.int .i64 id_2))]) [] _ from ?_);refine sr<|s_mov (.int .i64 0) rfl<|dk<|awp_seq<|sr<|s_mov (.int .i64 0) rfl<|dk<|?_
 obtain ⟨p21,hb1,hf⟩:=ob hf
 refine awp_cutx (X:={q:Unit // p21 = .go q}) (fun q => ([],[])) ?_ ?_
 ·refine awp_loop (X:={q:Nat // spec_l05Place_L1 id_2 (rows_1.drop q) q = some p21}) (fun q => ([(0,(.lst 2 (rows_1.map encGRow))),(1,(.int .i64 id_2)),(5,(.int .i64 (q.1:Int)))],[])) (fun q => rows_1.length - q.1) ⟨0,hb1⟩ ⟨[],[],_,_,rfl,rfl,⟨.refl _,⟨.refl _,⟨.refl _,trivial⟩⟩⟩,(.refl _)⟩ ?_
  rintro ⟨i_14,hc1⟩
  have hc1:spec_l05Place_L1 id_2 (rows_1.drop i_14) i_14 = some p21:=hc1
  refine (show awp Tryz.prog false 0 _ (ofL [(0,(.lst 2 (rows_1.map encGRow))),(1,(.int .i64 id_2)),(5,(.int .i64 (i_14:Int)))]) [] _ from ?_)
  rcases dropc rows_1 i_14 with ⟨hie24,hd27⟩ | ⟨hlt22,x_28,hx23,hd27⟩
  ·rw [hd27,spec_l05Place_L1.eq_1] at hc1
   have hq26:=dlf hie24
   refine awp_seq<|sr<|s_mov (.int .i64 (i_14:Int)) rfl<|s_mov (.lst 2 (rows_1.map encGRow)) rfl<|s_dof (o_len (enc:=encGRow) rfl) fun hl29 => s_q (.bool (decide ((i_14:Int) < (rows_1.length:Int)))) rfl rfl rfl<|dk<|w_condf rfl hq26<|w_exit<|k_seqx<|k_loopx<|k_blkx<|?_;obtain rfl:=os hc1;exact k_cutn ⟨_,rfl⟩ ⟨[],[],_,_,rfl,rfl,trivial,(.refl _)⟩
  ·rw [hd27,spec_l05Place_L1.eq_2] at hc1
   have hq26:=dlt hlt22
   refine awp_seq<|sr<|s_mov (.int .i64 (i_14:Int)) rfl<|s_mov (.lst 2 (rows_1.map encGRow)) rfl<|s_dof (o_len (enc:=encGRow) rfl) fun hl30 => s_q (.bool (decide ((i_14:Int) < (rows_1.length:Int)))) rfl rfl rfl<|dk<|w_condt rfl hq26<|w_skip<|k_seq<|awp_seq<|w_blk<|sr<|s_mov (.lst 2 (rows_1.map encGRow)) rfl<|s_mov (.int .i64 (i_14:Int)) rfl<|s_do (o_iaddrn (enc:=encGRow) rfl rfl hx23)<|s_q (.iptr (encGRow x_28) 0) rfl trivial rfl<|s_q (.int .i64 x_28.Id) rfl nle rfl<|s_mov (.int .i64 id_2) rfl<|s_q (.bool (x_28.Id == id_2)) rfl rfl rfl<|dk<|?_
   rcases oi hc1 with ⟨c31,hc1⟩ | ⟨c31,hc1⟩
   ·refine w_condt rfl c31<|sr<|s_mov (.int .i64 (i_14:Int)) rfl<|s_mov (.int .i64 (i_14:Int)) rfl<|dk<|w_ret<|?_;obtain rfl:=os hc1;obtain rfl:=os hf;exact r_flat ⟨trivial,trivial⟩ rfl (.refl _)
   ·refine w_condf rfl (bf c31)<|w_skip<|k_blk<|k_seq<|w_reg<|s_mov (.int .i64 (i_14:Int)) rfl<|s_q (.int .i64 (w64 ((i_14:Int) + 1))) rfl rfl rfl<|s_mov (.int .i64 (w64 ((i_14:Int) + 1))) rfl<|w_done<|?_;exact k_loopn ⟨(i_14 + 1),hc1⟩ (mul hlt22) ⟨[],[],_,_,rfl,rfl,⟨.refl _,⟨.refl _,⟨.of_eq (congrArg (AV.int _) (w64_incr hlt22 hl30)),trivial⟩⟩⟩,(.refl _)⟩
 ·rintro ⟨_,rfl⟩
  refine sr<|s_mov (.int .i64 (-1)) rfl<|dk<|w_ret<|?_;obtain rfl:=os hf;exact r_flat ⟨trivial,trivial⟩ rfl (.refl _)

/- spec.l05Refs -/
def c121:ACode :=
 (.seq (.reg (tq 2 (.box 1 (.t 0)) (tq 3 (.box 2 (.t 1)) (tm 4 (.c (.bool false)) .done))))
 (.seq (.seq (.reg (tm 5 (.c (.int .i64 0)) .done))
 (.block 0 (.loop (.seq (.seq (.reg (tm 12 (.t 5) (tq 13 (.faddr 0 (.t 3)) (tq 14 (.load 1 false (.t 13)) (tq 15 (.len (.t 14)) (tq 16 (.bin .lss (.t 12) (.t 15)) .done))))))
 (.cond (.t 16) .skip
 (.exit 0)))
 (.seq (.block 1 (.seq (.reg (tm 6 (.c (.int .i64 0)) .done))
 (.block 2 (.loop (.seq (.seq (.reg (tm 19 (.t 6) (tq 20 (.faddr 0 (.t 2)) (tq 21 (.load 1 false (.t 20)) (tm 22 (.t 5) (tq 23 (.iaddr 4 (.t 21) (.t 22)) (tq 24 (.faddr 1 (.t 23)) (tq 25 (.load 1 false (.t 24)) (tq 26 (.len (.t 25)) (tq 27 (.bin .lss (.t 19) (.t 26)) .done))))))))))
 (.cond (.t 27) .skip
 (.exit 2)))
 (.seq (.block 3 (.seq (.reg (tq 30 (.faddr 0 (.t 2)) (tq 31 (.load 1 false (.t 30)) (tm 32 (.t 5) (tq 33 (.iaddr 4 (.t 31) (.t 32)) (tq 34 (.faddr 1 (.t 33)) (tq 35 (.load 1 false (.t 34)) (tm 36 (.t 6) (tq 37 (.iaddr 8 (.t 35) (.t 36)) (tq 38 (.load 8 true (.t 37)) (tq 7 (.box 8 (.c (.agg [(.str []),(.int .i64 0),(.int .i64 0),(.int .i64 0),(.int .i64 0),(.int .i64 0),(.str []),(.bool false)]))) (.q ⟨none,none,.store 8 (.t 7) (.t 38)⟩
 .done))))))))))))
 (.seq (.seq (.reg (tq 39 (.faddr 1 (.t 7)) (tq 40 (.load 1 false (.t 39)) (tq 41 (.bin .neq (.t 40) (.c (.int .i64 4))) .done))))
 (.cond (.t 41) (.exit 3)
 .skip))
 (.seq (.reg (tq 42 (.faddr 0 (.t 3)) (tq 43 (.load 1 false (.t 42)) (tq 44 (.load 1 true (.t 2)) (tq 45 (.faddr 6 (.t 7)) (tq 46 (.load 1 false (.t 45)) (.l ⟨(some 47),none,.call 96 [(.t 44),(.t 46)]⟩ [⟨(some 43),none,.load 1 false (.t 42)⟩,⟨(some 42),none,.faddr 0 (.t 3)⟩]
 (tq 48 (.iaddr 1 (.t 43) (.t 47)) (tq 49 (.load 1 false (.t 48)) (tm 8 (.t 49) .done))) .non)))))))
 (.seq (.reg (tm 9 (.c (.int .i64 0)) .done))
 (.block 4 (.loop (.seq (.seq (.reg (tm 50 (.t 9) (tq 51 (.faddr 0 (.t 3)) (tq 52 (.load 1 false (.t 51)) (tm 53 (.t 5) (tq 54 (.iaddr 1 (.t 52) (.t 53)) (tq 55 (.load 1 false (.t 54)) (tq 56 (.len (.t 55)) (tq 57 (.bin .lss (.t 50) (.t 56)) .done)))))))))
 (.cond (.t 57) .skip
 (.exit 4)))
 (.seq (.block 5 (.seq (.reg (tq 60 (.faddr 0 (.t 3)) (tq 61 (.load 1 false (.t 60)) (tm 62 (.t 5) (tq 63 (.iaddr 1 (.t 61) (.t 62)) (tq 64 (.load 1 false (.t 63)) (tm 65 (.t 9) (tq 66 (.iaddr 2 (.t 64) (.t 65)) (tq 67 (.faddr 1 (.t 66)) (tq 68 (.load 1 false (.t 67)) (tm 69 (.t 6) (tq 70 (.iaddr 1 (.t 68) (.t 69)) (tq 71 (.load 1 false (.t 70)) (tm 10 (.t 71) .done))))))))))))))
 (.seq (.reg (tm 11 (.c (.int .i64 0)) .done))
 (.block 6 (.loop (.seq (.seq (.reg (tm 72 (.t 11) (tm 73 (.t 10) (tq 74 (.len (.t 73)) (tq 75 (.bin .lss (.t 72) (.t 74)) .done)))))
 (.cond (.t 75) .skip
 (.exit 6)))
 (.seq (.block 7 (.seq (.reg (tm 78 (.t 8) (tm 79 (.t 10) (tm 80 (.t 11) (tq 81 (.iaddr 3 (.t 79) (.t 80)) (tq 82 (.faddr 1 (.t 81)) (tq 83 (.load 1 false (.t 82)) (tq 84 (.call 170 [(.t 78),(.t 83)]) (tq 85 (.bin .lss (.t 84) (.c (.int .i64 0))) .done)))))))))
 (.cond (.t 85) (.seq (.reg (tm 4 (.c (.bool false)) .done))
 .ret)
 .skip)))
 (.reg (tm 76 (.t 11) (tq 77 (.bin .add (.t 76) (.c (.int .i64 1))) (tm 11 (.t 77) .done)))))))))))
 (.cut (.reg (tm 58 (.t 9) (tq 59 (.bin .add (.t 58) (.c (.int .i64 1))) (tm 9 (.t 59) .done))))))))))))))
 (.cut (.reg (tm 28 (.t 6) (tq 29 (.bin .add (.t 28) (.c (.int .i64 1))) (tm 6 (.t 29) .done)))))))))))
 (.cut (.reg (tm 17 (.t 5) (tq 18 (.bin .add (.t 17) (.c (.int .i64 1))) (tm 5 (.t 18) .done))))))))))
 (.cut (.seq (.reg (tm 4 (.c (.bool true)) .done))
 .ret))))
theorem fc121:fcomp Tryz.prog Tryz.f121 = some (c121.erase,[.mov (.t 4)],86):=by kernel_rfl
def spec_l05Refs_L4 (x_8579:(List GRow)):List GAtom → Option (Fl Bool Unit)
  | [] =>
    some (.go ())
  | x_8756 :: xs =>
    (spec_l05Place x_8579 x_8756.N).bind fun r_8759 =>
    if (decide (r_8759 < 0)) then
    some (.ret false)
    else
    spec_l05Refs_L4 x_8579 xs 

def spec_l05Refs_L3 (c_8372:Int) (x_8579:(List GRow)):List GRow → Option (Fl Bool Unit)
  | [] =>
    some (.go ())
  | x_8720 :: xs =>
    (idx x_8720.Cells c_8372).bind fun x_8723 =>
    (spec_l05Refs_L4 x_8579 x_8723 ).bind fun q => (match q with
    | .ret r => some (.ret r)
    | .go _ =>
    spec_l05Refs_L3 c_8372 x_8579 xs )

def spec_l05Refs_L2 (s_1:GSchema) (i_4924:Nat) (x_2:GStore) (x_7393:(List GRow)):Nat → Int → Option (Fl Bool Unit)
  | 0,_ => none
  | k + 1,c_8372 =>
    (idx s_1.Tables (i_4924:Int)).bind fun x_8568 =>
    if (decide (c_8372 < (x_8568.Columns.length:Int))) then
    (idx s_1.Tables (i_4924:Int)).bind fun x_8572 =>
    (idx x_8572.Columns c_8372).bind fun x_8574 =>
    if (x_8574.Kind != 4) then
    spec_l05Refs_L2 s_1 i_4924 x_2 x_7393 k (w64 (c_8372 + 1))
    else
    (spec_l04Find s_1 x_8574.Ref).bind fun r_8577 =>
    (idx x_2.Tables r_8577).bind fun x_8579 =>
    (spec_l05Refs_L3 c_8372 x_8579 x_7393 ).bind fun q => (match q with
    | .ret r => some (.ret r)
    | .go _ =>
    spec_l05Refs_L2 s_1 i_4924 x_2 x_7393 k (w64 (c_8372 + 1)))
    else
    some (.go ())

def spec_l05Refs_L1 (s_1:GSchema) (x_2:GStore):List (List GRow) → Nat → Option (Fl Bool Unit)
  | [],i_4924 =>
    some (.go ())
  | x_7393 :: xs,i_4924 =>
    (spec_l05Refs_L2 s_1 i_4924 x_2 x_7393 FUEL 0).bind fun q => (match q with
    | .ret r => some (.ret r)
    | .go _ =>
    spec_l05Refs_L1 s_1 x_2 xs (i_4924 + 1))

def spec_l05Refs (s_1:GSchema) (x_2:GStore):Option Bool :=
    (spec_l05Refs_L1 s_1 x_2 x_2.Tables 0).bind fun q => (match q with
    | .ret r => some r
    | .go _ =>
    some true)
theorem w_spec_l05Refs (s_1:GSchema) (x_2:GStore) (r:Bool) (hf:spec_l05Refs s_1 x_2 = some r):CallOK Tryz.prog 121 .flat [(encGSchema s_1),(encGStore x_2)] (.bool r):=by
 refine CallOK.of_awp mixed Tryz.func121 fc121 nle ?_;rw [argT_eq];unfold spec_l05Refs at hf;unfold c121;refine (show awp Tryz.prog false 0 _ (ofL [(0,(encGSchema s_1)),(1,(encGStore x_2))]) [] _ from ?_);refine sr<|s_do (o_box (j:=0) (c:=(.agg [(.lst 4 (s_1.Tables.map encGTable))])) rfl trivial rfl rfl)<|s_do (o_box (j:=1) (c:=(.agg [(.lst 1 (x_2.Tables.map (encL 2 encGRow))),(.int .i64 x_2.Next)])) rfl trivial rfl rfl)<|s_mov (.bool false) rfl<|dk<|awp_seq<|sr<|s_mov (.int .i64 0) rfl<|dk<|?_
 obtain ⟨p7386,hb1,hf⟩:=ob hf
 refine awp_cutx (X:={q:Unit // p7386 = .go q}) (fun q => ([],[])) ?_ ?_
 ·refine awp_loop (X:={q:Nat // spec_l05Refs_L1 s_1 x_2 (x_2.Tables.drop q) q = some p7386}) (fun q => ([(2,(.ptr 0 0 0)),(3,(.ptr 1 0 0)),(5,(.int .i64 (q.1:Int)))],[.box 1 (.agg [(.lst 4 (s_1.Tables.map encGTable))]),.box 2 (.agg [(.lst 1 (x_2.Tables.map (encL 2 encGRow))),(.int .i64 x_2.Next)])])) (fun q => x_2.Tables.length - q.1) ⟨0,hb1⟩ ⟨[],[0,1],_,_,rfl,rfl,⟨.refl _,⟨.refl _,⟨.refl _,trivial⟩⟩⟩,(.refl _)⟩ ?_
  rintro ⟨i_4924,hc1⟩
  have hc1:spec_l05Refs_L1 s_1 x_2 (x_2.Tables.drop i_4924) i_4924 = some p7386:=hc1
  refine (show awp Tryz.prog false 0 _ (ofL [(2,(.ptr 0 0 0)),(3,(.ptr 1 0 0)),(5,(.int .i64 (i_4924:Int)))]) [.box 1 (.agg [(.lst 4 (s_1.Tables.map encGTable))]),.box 2 (.agg [(.lst 1 (x_2.Tables.map (encL 2 encGRow))),(.int .i64 x_2.Next)])] _ from ?_)
  rcases dropc x_2.Tables i_4924 with ⟨hie7389,hd7392⟩ | ⟨hlt7387,x_7393,hx7388,hd7392⟩
  ·rw [hd7392,spec_l05Refs_L1.eq_1] at hc1
   have hq7391:=dlf hie7389
   refine awp_seq<|sr<|s_mov (.int .i64 (i_4924:Int)) rfl<|s_q (.ptr 1 0 0) rfl trivial rfl<|s_q (.lst 1 (x_2.Tables.map (encL 2 encGRow))) rfl nle rfl<|s_dof (o_len (enc:=(encL 2 encGRow)) rfl) fun hl7394 => s_q (.bool (decide ((i_4924:Int) < (x_2.Tables.length:Int)))) rfl rfl rfl<|dk<|w_condf rfl hq7391<|w_exit<|k_seqx<|k_loopx<|k_blkx<|?_;obtain rfl:=os hc1;exact k_cutn ⟨_,rfl⟩ ⟨[],[],_,_,rfl,rfl,trivial,(.refl _)⟩
  ·rw [hd7392,spec_l05Refs_L1.eq_2] at hc1
   have hq7391:=dlt hlt7387
   refine awp_seq<|sr<|s_mov (.int .i64 (i_4924:Int)) rfl<|s_q (.ptr 1 0 0) rfl trivial rfl<|s_q (.lst 1 (x_2.Tables.map (encL 2 encGRow))) rfl nle rfl<|s_dof (o_len (enc:=(encL 2 encGRow)) rfl) fun hl7395 => s_q (.bool (decide ((i_4924:Int) < (x_2.Tables.length:Int)))) rfl rfl rfl<|dk<|w_condt rfl hq7391<|w_skip<|k_seq<|awp_seq<|w_blk<|sr<|s_mov (.int .i64 0) rfl<|dk<|?_
   obtain ⟨p8567,hb2,hc1⟩:=ob hc1
   refine awp_cutxb (X:={q:Unit // p8567 = .go q}) (fun q => ([(2,(.ptr 0 0 0)),(3,(.ptr 1 0 0)),(5,(.int .i64 (i_4924:Int)))],[.box 1 (.agg [(.lst 4 (s_1.Tables.map encGTable))]),.box 2 (.agg [(.lst 1 (x_2.Tables.map (encL 2 encGRow))),(.int .i64 x_2.Next)])])) ?_ ?_
   ·refine awp_loop (X:={q:(Nat × Int) // spec_l05Refs_L2 s_1 i_4924 x_2 x_7393 q.1 q.2 = some p8567}) (fun q => ([(2,(.ptr 0 0 0)),(3,(.ptr 1 0 0)),(5,(.int .i64 (i_4924:Int))),(6,(.int .i64 q.1.2))],[.box 1 (.agg [(.lst 4 (s_1.Tables.map encGTable))]),.box 2 (.agg [(.lst 1 (x_2.Tables.map (encL 2 encGRow))),(.int .i64 x_2.Next)])])) (fun q => q.1.1) ⟨(FUEL,0),hb2⟩ ⟨[],[0,1],_,_,rfl,rfl,⟨.refl _,⟨.refl _,⟨.refl _,⟨.refl _,trivial⟩⟩⟩⟩,(.refl _)⟩ ?_
    rintro ⟨⟨k,c_8372⟩,hc2⟩
    have hc2:spec_l05Refs_L2 s_1 i_4924 x_2 x_7393 k c_8372 = some p8567:=hc2
    refine (show awp Tryz.prog false 0 _ (ofL [(2,(.ptr 0 0 0)),(3,(.ptr 1 0 0)),(5,(.int .i64 (i_4924:Int))),(6,(.int .i64 c_8372))]) [.box 1 (.agg [(.lst 4 (s_1.Tables.map encGTable))]),.box 2 (.agg [(.lst 1 (x_2.Tables.map (encL 2 encGRow))),(.int .i64 x_2.Next)])] _ from ?_)
    rcases k with _ | k
    ·rw [spec_l05Refs_L2.eq_1] at hc2
     cases hc2
    ·rw [spec_l05Refs_L2.eq_2] at hc2;refine awp_seq<|sr<|?_
     obtain ⟨x_8568,ex8569,hc2⟩:=ob hc2
     refine s_mov (.int .i64 c_8372) rfl<|s_q (.ptr 0 0 0) rfl trivial rfl<|s_q (.lst 4 (s_1.Tables.map encGTable)) rfl nle rfl<|s_mov (.int .i64 (i_4924:Int)) rfl<|s_do (o_iaddr (enc:=encGTable) rfl rfl (idx0 ex8569) (idx1 ex8569))<|s_q (.iptr (encGTable x_8568) 1) rfl trivial rfl<|s_q (.lst 8 (x_8568.Columns.map encGColumn)) rfl nle rfl<|s_dof (o_len (enc:=encGColumn) rfl) fun hl8570 => s_q (.bool (decide (c_8372 < (x_8568.Columns.length:Int)))) rfl rfl rfl<|dk<|?_
     rcases oi hc2 with ⟨c8571,hc2⟩ | ⟨c8571,hc2⟩
     ·refine w_condt rfl c8571<|w_skip<|k_seq<|awp_seq<|w_blk<|sr<|?_
      obtain ⟨x_8572,ex8573,hc2⟩:=ob hc2
      obtain ⟨x_8574,ex8575,hc2⟩:=ob hc2
      refine s_q (.ptr 0 0 0) rfl trivial rfl<|s_q (.lst 4 (s_1.Tables.map encGTable)) rfl nle rfl<|s_mov (.int .i64 (i_4924:Int)) rfl<|s_do (o_iaddr (enc:=encGTable) rfl rfl (idx0 ex8573) (idx1 ex8573))<|s_q (.iptr (encGTable x_8572) 1) rfl trivial rfl<|s_q (.lst 8 (x_8572.Columns.map encGColumn)) rfl nle rfl<|s_mov (.int .i64 c_8372) rfl<|s_do (o_iaddr (enc:=encGColumn) rfl rfl (idx0 ex8575) (idx1 ex8575))<|s_q (encGColumn x_8574) rfl nle rfl<|s_do (o_box (j:=2) (c:=(.agg [(.str []),(.int .i64 0),(.int .i64 0),(.int .i64 0),(.int .i64 0),(.int .i64 0),(.str []),(.bool false)])) rfl trivial rfl rfl)<|s_do0 (o_storebox (v:=(.agg [(.str x_8574.Name),(.int .i64 x_8574.Kind),(.int .i64 x_8574.Min),(.int .i64 x_8574.Max),(.int .i64 x_8574.Low),(.int .i64 x_8574.High),(.str x_8574.Ref),(.bool x_8574.Strong)])) (y':=(.agg [(.str x_8574.Name),(.int .i64 x_8574.Kind),(.int .i64 x_8574.Min),(.int .i64 x_8574.Max),(.int .i64 x_8574.Low),(.int .i64 x_8574.High),(.str x_8574.Ref),(.bool x_8574.Strong)])) rfl rfl rfl trivial ⟨rfl,nle⟩ ⟨⟨rfl,trivial⟩,⟨⟨rfl,trivial⟩,⟨⟨rfl,trivial⟩,⟨⟨rfl,trivial⟩,⟨⟨rfl,trivial⟩,⟨⟨rfl,trivial⟩,⟨⟨rfl,trivial⟩,⟨⟨rfl,trivial⟩,trivial⟩⟩⟩⟩⟩⟩⟩⟩ rfl)<|?_
      refine dk<|awp_seq<|sr<|s_q (.ptr 2 0 1) rfl trivial rfl<|s_q (.int .i64 x_8574.Kind) rfl nle rfl<|s_q (.bool (x_8574.Kind != 4)) rfl rfl rfl<|dk<|?_
      rcases oi hc2 with ⟨c8576,hc2⟩ | ⟨c8576,hc2⟩
      ·refine w_condt rfl c8576<|w_exit<|k_seqx<|k_blkx<|?_;refine k_seq<|w_cut ([(2,(.ptr 0 0 0)),(3,(.ptr 1 0 0)),(5,(.int .i64 (i_4924:Int))),(6,(.int .i64 c_8372))],[.box 1 (.agg [(.lst 4 (s_1.Tables.map encGTable))]),.box 2 (.agg [(.lst 1 (x_2.Tables.map (encL 2 encGRow))),(.int .i64 x_2.Next)])]) ⟨[],[0,1],_,_,rfl,rfl,⟨.refl _,⟨.refl _,⟨.refl _,⟨.refl _,trivial⟩⟩⟩⟩,(.refl _)⟩<|w_reg<|s_mov (.int .i64 c_8372) rfl<|s_q (.int .i64 (w64 (c_8372 + 1))) rfl rfl rfl<|s_mov (.int .i64 (w64 (c_8372 + 1))) rfl<|w_done<|?_;exact k_loopn ⟨(k,w64 (c_8372 + 1)),hc2⟩ (Nat.lt_succ_self _) ⟨[],[0,1],_,_,rfl,rfl,⟨.refl _,⟨.refl _,⟨.refl _,⟨.refl _,trivial⟩⟩⟩⟩,(.refl _)⟩
      ·refine w_condf rfl (bf c8576)<|w_skip<|k_seq<|sr<|?_
       obtain ⟨r_8577,er8578,hc2⟩:=ob hc2
       obtain ⟨x_8579,ex8580,hc2⟩:=ob hc2
       refine s_q (.ptr 1 0 0) rfl trivial rfl<|s_q (.lst 1 (x_2.Tables.map (encL 2 encGRow))) rfl nle rfl<|s_q (.agg [(.lst 4 (s_1.Tables.map encGTable))]) rfl nle rfl<|s_q (.ptr 2 0 6) rfl trivial rfl<|s_q (.str x_8574.Ref) rfl nle rfl<|s_dol (o_call (w_spec_l04Find _ _ _ er8578) rfl (.refl _) rfl) a_same trivial<|s_do (o_iaddr (enc:=(encL 2 encGRow)) rfl rfl (idx0 ex8580) (idx1 ex8580))<|s_q (.lst 2 (x_8579.map encGRow)) rfl ⟨rfl,rfl⟩ rfl<|s_mov (.lst 2 (x_8579.map encGRow)) rfl<|dk<|sr<|s_mov (.int .i64 0) rfl<|dk<|?_
       obtain ⟨p8713,hb3,hc2⟩:=ob hc2
       refine awp_cutxb (X:={q:Unit // p8713 = .go q}) (fun q => ([(2,(.ptr 0 0 0)),(3,(.ptr 1 0 0)),(5,(.int .i64 (i_4924:Int))),(6,(.int .i64 c_8372))],[.box 1 (.agg [(.lst 4 (s_1.Tables.map encGTable))]),.box 2 (.agg [(.lst 1 (x_2.Tables.map (encL 2 encGRow))),(.int .i64 x_2.Next)])])) ?_ ?_
       ·refine awp_loop (X:={q:Nat // spec_l05Refs_L3 c_8372 x_8579 (x_7393.drop q)  = some p8713}) (fun q => ([(2,(.ptr 0 0 0)),(3,(.ptr 1 0 0)),(5,(.int .i64 (i_4924:Int))),(6,(.int .i64 c_8372)),(8,(.lst 2 (x_8579.map encGRow))),(9,(.int .i64 (q.1:Int)))],[.box 1 (.agg [(.lst 4 (s_1.Tables.map encGTable))]),.box 2 (.agg [(.lst 1 (x_2.Tables.map (encL 2 encGRow))),(.int .i64 x_2.Next)])])) (fun q => x_7393.length - q.1) ⟨0,hb3⟩ ⟨[],[0,1],_,_,rfl,rfl,⟨.refl _,⟨.refl _,⟨.refl _,⟨.refl _,⟨.refl _,⟨.refl _,trivial⟩⟩⟩⟩⟩⟩,(.refl _)⟩ ?_
        rintro ⟨k_8668,hc3⟩
        have hc3:spec_l05Refs_L3 c_8372 x_8579 (x_7393.drop k_8668)  = some p8713:=hc3
        refine (show awp Tryz.prog false 0 _ (ofL [(2,(.ptr 0 0 0)),(3,(.ptr 1 0 0)),(5,(.int .i64 (i_4924:Int))),(6,(.int .i64 c_8372)),(8,(.lst 2 (x_8579.map encGRow))),(9,(.int .i64 (k_8668:Int)))]) [.box 1 (.agg [(.lst 4 (s_1.Tables.map encGTable))]),.box 2 (.agg [(.lst 1 (x_2.Tables.map (encL 2 encGRow))),(.int .i64 x_2.Next)])] _ from ?_)
        rcases dropc x_7393 k_8668 with ⟨hie8716,hd8719⟩ | ⟨hlt8714,x_8720,hx8715,hd8719⟩
        ·rw [hd8719,spec_l05Refs_L3.eq_1] at hc3
         have hq8718:=dlf hie8716
         refine awp_seq<|sr<|s_mov (.int .i64 (k_8668:Int)) rfl<|s_q (.ptr 1 0 0) rfl trivial rfl<|s_q (.lst 1 (x_2.Tables.map (encL 2 encGRow))) rfl nle rfl<|s_mov (.int .i64 (i_4924:Int)) rfl<|s_do (o_iaddrn (enc:=(encL 2 encGRow)) rfl rfl hx7388)<|s_q (.lst 2 (x_7393.map encGRow)) rfl ⟨rfl,rfl⟩ rfl<|s_dof (o_len (enc:=encGRow) rfl) fun hl8721 => s_q (.bool (decide ((k_8668:Int) < (x_7393.length:Int)))) rfl rfl rfl<|dk<|w_condf rfl hq8718<|w_exit<|k_seqx<|k_loopx<|k_blkx<|?_;refine k_blk ?_;obtain rfl:=os hc3;exact k_cutn ⟨_,rfl⟩ ⟨[],[0,1],_,_,rfl,rfl,⟨.refl _,⟨.refl _,⟨.refl _,⟨.refl _,trivial⟩⟩⟩⟩,(.refl _)⟩
        ·rw [hd8719,spec_l05Refs_L3.eq_2] at hc3
         have hq8718:=dlt hlt8714
         refine awp_seq<|sr<|s_mov (.int .i64 (k_8668:Int)) rfl<|s_q (.ptr 1 0 0) rfl trivial rfl<|s_q (.lst 1 (x_2.Tables.map (encL 2 encGRow))) rfl nle rfl<|s_mov (.int .i64 (i_4924:Int)) rfl<|s_do (o_iaddrn (enc:=(encL 2 encGRow)) rfl rfl hx7388)<|s_q (.lst 2 (x_7393.map encGRow)) rfl ⟨rfl,rfl⟩ rfl<|s_dof (o_len (enc:=encGRow) rfl) fun hl8722 => s_q (.bool (decide ((k_8668:Int) < (x_7393.length:Int)))) rfl rfl rfl<|dk<|w_condt rfl hq8718<|w_skip<|k_seq<|awp_seq<|w_blk<|sr<|s_q (.ptr 1 0 0) rfl trivial rfl<|s_q (.lst 1 (x_2.Tables.map (encL 2 encGRow))) rfl nle rfl<|s_mov (.int .i64 (i_4924:Int)) rfl<|s_do (o_iaddrn (enc:=(encL 2 encGRow)) rfl rfl hx7388)<|?_
         refine s_q (.lst 2 (x_7393.map encGRow)) rfl ⟨rfl,rfl⟩ rfl<|s_mov (.int .i64 (k_8668:Int)) rfl<|s_do (o_iaddrn (enc:=encGRow) rfl rfl hx8715)<|s_q (.iptr (encGRow x_8720) 1) rfl trivial rfl<|s_q (.lst 1 (x_8720.Cells.map (encL 3 encGAtom))) rfl nle rfl<|s_mov (.int .i64 c_8372) rfl<|?_
         obtain ⟨x_8723,ex8724,hc3⟩:=ob hc3
         refine s_do (o_iaddr (enc:=(encL 3 encGAtom)) rfl rfl (idx0 ex8724) (idx1 ex8724))<|s_q (.lst 3 (x_8723.map encGAtom)) rfl ⟨rfl,rfl⟩ rfl<|s_mov (.lst 3 (x_8723.map encGAtom)) rfl<|dk<|sr<|s_mov (.int .i64 0) rfl<|dk<|?_
         obtain ⟨p8749,hb4,hc3⟩:=ob hc3
         refine awp_cutxb (X:={q:Unit // p8749 = .go q}) (fun q => ([(2,(.ptr 0 0 0)),(3,(.ptr 1 0 0)),(5,(.int .i64 (i_4924:Int))),(6,(.int .i64 c_8372)),(8,(.lst 2 (x_8579.map encGRow))),(9,(.int .i64 (k_8668:Int)))],[.box 1 (.agg [(.lst 4 (s_1.Tables.map encGTable))]),.box 2 (.agg [(.lst 1 (x_2.Tables.map (encL 2 encGRow))),(.int .i64 x_2.Next)])])) ?_ ?_
         ·refine awp_loop (X:={q:Nat // spec_l05Refs_L4 x_8579 (x_8723.drop q)  = some p8749}) (fun q => ([(2,(.ptr 0 0 0)),(3,(.ptr 1 0 0)),(5,(.int .i64 (i_4924:Int))),(6,(.int .i64 c_8372)),(8,(.lst 2 (x_8579.map encGRow))),(9,(.int .i64 (k_8668:Int))),(10,(.lst 3 (x_8723.map encGAtom))),(11,(.int .i64 (q.1:Int)))],[.box 1 (.agg [(.lst 4 (s_1.Tables.map encGTable))]),.box 2 (.agg [(.lst 1 (x_2.Tables.map (encL 2 encGRow))),(.int .i64 x_2.Next)])])) (fun q => x_8723.length - q.1) ⟨0,hb4⟩ ⟨[],[0,1],_,_,rfl,rfl,⟨.refl _,⟨.refl _,⟨.refl _,⟨.refl _,⟨.refl _,⟨.refl _,⟨.refl _,⟨.refl _,trivial⟩⟩⟩⟩⟩⟩⟩⟩,(.refl _)⟩ ?_
          rintro ⟨n_8740,hc4⟩
          have hc4:spec_l05Refs_L4 x_8579 (x_8723.drop n_8740)  = some p8749:=hc4
          refine (show awp Tryz.prog false 0 _ (ofL [(2,(.ptr 0 0 0)),(3,(.ptr 1 0 0)),(5,(.int .i64 (i_4924:Int))),(6,(.int .i64 c_8372)),(8,(.lst 2 (x_8579.map encGRow))),(9,(.int .i64 (k_8668:Int))),(10,(.lst 3 (x_8723.map encGAtom))),(11,(.int .i64 (n_8740:Int)))]) [.box 1 (.agg [(.lst 4 (s_1.Tables.map encGTable))]),.box 2 (.agg [(.lst 1 (x_2.Tables.map (encL 2 encGRow))),(.int .i64 x_2.Next)])] _ from ?_)
          rcases dropc x_8723 n_8740 with ⟨hie8752,hd8755⟩ | ⟨hlt8750,x_8756,hx8751,hd8755⟩
          ·rw [hd8755,spec_l05Refs_L4.eq_1] at hc4
           have hq8754:=dlf hie8752
           refine awp_seq<|sr<|s_mov (.int .i64 (n_8740:Int)) rfl<|s_mov (.lst 3 (x_8723.map encGAtom)) rfl<|s_dof (o_len (enc:=encGAtom) rfl) fun hl8757 => s_q (.bool (decide ((n_8740:Int) < (x_8723.length:Int)))) rfl rfl rfl<|dk<|w_condf rfl hq8754<|w_exit<|k_seqx<|k_loopx<|k_blkx<|?_;refine k_blk ?_;obtain rfl:=os hc4;exact k_cutn ⟨_,rfl⟩ ⟨[],[0,1],_,_,rfl,rfl,⟨.refl _,⟨.refl _,⟨.refl _,⟨.refl _,⟨.refl _,⟨.refl _,trivial⟩⟩⟩⟩⟩⟩,(.refl _)⟩
          ·rw [hd8755,spec_l05Refs_L4.eq_2] at hc4
           have hq8754:=dlt hlt8750
           refine awp_seq<|sr<|s_mov (.int .i64 (n_8740:Int)) rfl<|s_mov (.lst 3 (x_8723.map encGAtom)) rfl<|s_dof (o_len (enc:=encGAtom) rfl) fun hl8758 => s_q (.bool (decide ((n_8740:Int) < (x_8723.length:Int)))) rfl rfl rfl<|dk<|w_condt rfl hq8754<|w_skip<|k_seq<|awp_seq<|w_blk<|sr<|?_
           obtain ⟨r_8759,er8760,hc4⟩:=ob hc4
           refine s_mov (.lst 2 (x_8579.map encGRow)) rfl<|s_mov (.lst 3 (x_8723.map encGAtom)) rfl<|s_mov (.int .i64 (n_8740:Int)) rfl<|s_do (o_iaddrn (enc:=encGAtom) rfl rfl hx8751)<|s_q (.iptr (encGAtom x_8756) 1) rfl trivial rfl<|s_q (.int .i64 x_8756.N) rfl nle rfl<|s_do (o_call (w_spec_l05Place _ _ _ er8760) rfl (.refl _) rfl)<|s_q (.bool (decide (r_8759 < 0))) rfl rfl rfl<|dk<|?_
           rcases oi hc4 with ⟨c8761,hc4⟩ | ⟨c8761,hc4⟩
           ·refine w_condt rfl c8761<|sr<|s_mov (.bool false) rfl<|dk<|w_ret<|?_;obtain rfl:=os hc4;obtain rfl:=os hc3;obtain rfl:=os hc2;obtain rfl:=os hc1;obtain rfl:=os hf;exact r_flat ⟨trivial,trivial⟩ rfl (.refl _)
           ·refine w_condf rfl (bf c8761)<|w_skip<|k_blk<|k_seq<|w_reg<|s_mov (.int .i64 (n_8740:Int)) rfl<|s_q (.int .i64 (w64 ((n_8740:Int) + 1))) rfl rfl rfl<|s_mov (.int .i64 (w64 ((n_8740:Int) + 1))) rfl<|w_done<|?_;exact k_loopn ⟨(n_8740 + 1),hc4⟩ (mul hlt8750) ⟨[],[0,1],_,_,rfl,rfl,⟨.refl _,⟨.refl _,⟨.refl _,⟨.refl _,⟨.refl _,⟨.refl _,⟨.refl _,⟨.of_eq (congrArg (AV.int _) (w64_incr hlt8750 hl8758)),trivial⟩⟩⟩⟩⟩⟩⟩⟩,(.refl _)⟩
         ·rintro ⟨_,rfl⟩
          refine w_reg<|s_mov (.int .i64 (k_8668:Int)) rfl<|s_q (.int .i64 (w64 ((k_8668:Int) + 1))) rfl rfl rfl<|s_mov (.int .i64 (w64 ((k_8668:Int) + 1))) rfl<|w_done<|?_;exact k_loopn ⟨(k_8668 + 1),hc3⟩ (mul hlt8714) ⟨[],[0,1],_,_,rfl,rfl,⟨.refl _,⟨.refl _,⟨.refl _,⟨.refl _,⟨.refl _,⟨.of_eq (congrArg (AV.int _) (w64_incr hlt8714 hl8722)),trivial⟩⟩⟩⟩⟩⟩,(.refl _)⟩
       ·rintro ⟨_,rfl⟩
        refine w_reg<|s_mov (.int .i64 c_8372) rfl<|s_q (.int .i64 (w64 (c_8372 + 1))) rfl rfl rfl<|s_mov (.int .i64 (w64 (c_8372 + 1))) rfl<|w_done<|?_;exact k_loopn ⟨(k,w64 (c_8372 + 1)),hc2⟩ (Nat.lt_succ_self _) ⟨[],[0,1],_,_,rfl,rfl,⟨.refl _,⟨.refl _,⟨.refl _,⟨.refl _,trivial⟩⟩⟩⟩,(.refl _)⟩
     ·refine w_condf rfl (bf c8571)<|w_exit<|k_seqx<|k_loopx<|k_blkx<|?_;refine k_blk ?_;obtain rfl:=os hc2;exact k_cutn ⟨_,rfl⟩ ⟨[],[0,1],_,_,rfl,rfl,⟨.refl _,⟨.refl _,⟨.refl _,trivial⟩⟩⟩,(.refl _)⟩
   ·rintro ⟨_,rfl⟩
    refine w_reg<|s_mov (.int .i64 (i_4924:Int)) rfl<|s_q (.int .i64 (w64 ((i_4924:Int) + 1))) rfl rfl rfl<|s_mov (.int .i64 (w64 ((i_4924:Int) + 1))) rfl<|w_done<|?_;exact k_loopn ⟨(i_4924 + 1),hc1⟩ (mul hlt7387) ⟨[],[0,1],_,_,rfl,rfl,⟨.refl _,⟨.refl _,⟨.of_eq (congrArg (AV.int _) (w64_incr hlt7387 hl7395)),trivial⟩⟩⟩,(.refl _)⟩
 ·rintro ⟨_,rfl⟩
  refine sr<|s_mov (.bool true) rfl<|dk<|w_ret<|?_;obtain rfl:=os hf;exact r_flat ⟨trivial,trivial⟩ rfl (.refl _)

/- spec.l03Same -/
def c171:ACode :=
 (.seq (.reg (tm 4 (.c (.bool false)) .done))
 (.seq (.seq (.reg (tm 6 (.t 0) (tq 7 (.len (.t 6)) (tm 8 (.t 1) (tq 9 (.len (.t 8)) (tq 10 (.bin .neq (.t 7) (.t 9)) .done))))))
 (.cond (.t 10) (.seq (.reg (tm 4 (.c (.bool false)) .done))
 .ret)
 .skip))
 (.seq (.seq (.reg (tm 5 (.c (.int .i64 0)) .done))
 (.block 0 (.loop (.seq (.seq (.reg (tm 11 (.t 5) (tm 12 (.t 0) (tq 13 (.len (.t 12)) (tq 14 (.bin .lss (.t 11) (.t 13)) .done)))))
 (.cond (.t 14) .skip
 (.exit 0)))
 (.seq (.block 1 (.seq (.reg (tm 17 (.t 0) (tm 18 (.t 5) (tq 19 (.iaddr 3 (.t 17) (.t 18)) (tq 20 (.load 3 true (.t 19)) (tm 21 (.t 1) (tm 22 (.t 5) (tq 23 (.iaddr 3 (.t 21) (.t 22)) (tq 24 (.load 3 true (.t 23)) (tq 25 (.eqs true [0,0,2] (.t 20) (.t 24)) .done))))))))))
 (.cond (.t 25) (.seq (.reg (tm 4 (.c (.bool false)) .done))
 .ret)
 .skip)))
 (.reg (tm 15 (.t 5) (tq 16 (.bin .add (.t 15) (.c (.int .i64 1))) (tm 5 (.t 16) .done)))))))))
 (.cut (.seq (.reg (tm 4 (.c (.bool true)) .done))
 .ret)))))
theorem fc171:fcomp Tryz.prog Tryz.f171 = some (c171.erase,[.mov (.t 4)],26):=by kernel_rfl
def spec_l03Same_L1 (b_2:(List GAtom)):List GAtom → Nat → Option (Fl Bool Unit)
  | [],i_21 =>
    some (.go ())
  | x_37 :: xs,i_21 =>
    (idx b_2 (i_21:Int)).bind fun x_40 =>
    if (!(x_37.Kind == x_40.Kind && (x_37.N == x_40.N && (x_37.T == x_40.T && true)))) then
    some (.ret false)
    else
    spec_l03Same_L1 b_2 xs (i_21 + 1)

def spec_l03Same (a_1:(List GAtom)) (b_2:(List GAtom)):Option Bool :=
    if ((a_1.length:Int) != (b_2.length:Int)) then
    some false
    else
    (spec_l03Same_L1 b_2 a_1 0).bind fun q => (match q with
    | .ret r => some r
    | .go _ =>
    some true)
theorem w_spec_l03Same (a_1:(List GAtom)) (b_2:(List GAtom)) (r:Bool) (hf:spec_l03Same a_1 b_2 = some r):CallOK Tryz.prog 171 .flat [(.lst 3 (a_1.map encGAtom)),(.lst 3 (b_2.map encGAtom))] (.bool r):=by
 refine CallOK.of_awp mixed Tryz.func171 fc171 nle ?_;rw [argT_eq];unfold spec_l03Same at hf;unfold c171;refine (show awp Tryz.prog false 0 _ (ofL [(0,(.lst 3 (a_1.map encGAtom))),(1,(.lst 3 (b_2.map encGAtom)))]) [] _ from ?_);refine sr<|s_mov (.bool false) rfl<|dk<|awp_seq<|sr<|s_mov (.lst 3 (a_1.map encGAtom)) rfl<|s_dof (o_len (enc:=encGAtom) rfl) fun hl3 => s_mov (.lst 3 (b_2.map encGAtom)) rfl<|s_dof (o_len (enc:=encGAtom) rfl) fun hl4 => s_q (.bool ((a_1.length:Int) != (b_2.length:Int))) rfl rfl rfl<|dk<|?_
 rcases oi hf with ⟨c5,hf⟩ | ⟨c5,hf⟩
 ·refine w_condt rfl c5<|sr<|s_mov (.bool false) rfl<|dk<|w_ret<|?_;obtain rfl:=os hf;exact r_flat ⟨trivial,trivial⟩ rfl (.refl _)
 ·refine w_condf rfl (bf c5)<|w_skip<|k_seq<|awp_seq<|sr<|s_mov (.int .i64 0) rfl<|dk<|?_
  obtain ⟨p30,hb1,hf⟩:=ob hf
  refine awp_cutx (X:={q:Unit // p30 = .go q}) (fun q => ([],[])) ?_ ?_
  ·refine awp_loop (X:={q:Nat // spec_l03Same_L1 b_2 (a_1.drop q) q = some p30}) (fun q => ([(0,(.lst 3 (a_1.map encGAtom))),(1,(.lst 3 (b_2.map encGAtom))),(5,(.int .i64 (q.1:Int)))],[])) (fun q => a_1.length - q.1) ⟨0,hb1⟩ ⟨[],[],_,_,rfl,rfl,⟨.refl _,⟨.refl _,⟨.refl _,trivial⟩⟩⟩,(.refl _)⟩ ?_
   rintro ⟨i_21,hc1⟩
   have hc1:spec_l03Same_L1 b_2 (a_1.drop i_21) i_21 = some p30:=hc1
   refine (show awp Tryz.prog false 0 _ (ofL [(0,(.lst 3 (a_1.map encGAtom))),(1,(.lst 3 (b_2.map encGAtom))),(5,(.int .i64 (i_21:Int)))]) [] _ from ?_)
   rcases dropc a_1 i_21 with ⟨hie33,hd36⟩ | ⟨hlt31,x_37,hx32,hd36⟩
   ·rw [hd36,spec_l03Same_L1.eq_1] at hc1
    have hq35:=dlf hie33
    refine awp_seq<|sr<|s_mov (.int .i64 (i_21:Int)) rfl<|s_mov (.lst 3 (a_1.map encGAtom)) rfl<|s_dof (o_len (enc:=encGAtom) rfl) fun hl38 => s_q (.bool (decide ((i_21:Int) < (a_1.length:Int)))) rfl rfl rfl<|dk<|w_condf rfl hq35<|w_exit<|k_seqx<|k_loopx<|k_blkx<|?_;obtain rfl:=os hc1;exact k_cutn ⟨_,rfl⟩ ⟨[],[],_,_,rfl,rfl,trivial,(.refl _)⟩
   ·rw [hd36,spec_l03Same_L1.eq_2] at hc1
    have hq35:=dlt hlt31
    refine awp_seq<|sr<|s_mov (.int .i64 (i_21:Int)) rfl<|s_mov (.lst 3 (a_1.map encGAtom)) rfl<|s_dof (o_len (enc:=encGAtom) rfl) fun hl39 => s_q (.bool (decide ((i_21:Int) < (a_1.length:Int)))) rfl rfl rfl<|dk<|w_condt rfl hq35<|w_skip<|k_seq<|awp_seq<|w_blk<|sr<|?_
    obtain ⟨x_40,ex41,hc1⟩:=ob hc1
    refine s_mov (.lst 3 (a_1.map encGAtom)) rfl<|s_mov (.int .i64 (i_21:Int)) rfl<|s_do (o_iaddrn (enc:=encGAtom) rfl rfl hx32)<|s_q (encGAtom x_37) rfl nle rfl<|s_mov (.lst 3 (b_2.map encGAtom)) rfl<|s_mov (.int .i64 (i_21:Int)) rfl<|s_do (o_iaddr (enc:=encGAtom) rfl rfl (idx0 ex41) (idx1 ex41))<|s_q (encGAtom x_40) rfl nle rfl<|s_q (.bool (!(x_37.Kind == x_40.Kind && (x_37.N == x_40.N && (x_37.T == x_40.T && true))))) rfl ⟨⟨rfl,rfl⟩,⟨⟨rfl,rfl⟩,⟨rfl,trivial⟩⟩⟩ rfl<|dk<|?_
    rcases oi hc1 with ⟨c42,hc1⟩ | ⟨c42,hc1⟩
    ·refine w_condt rfl c42<|sr<|s_mov (.bool false) rfl<|dk<|w_ret<|?_;obtain rfl:=os hc1;obtain rfl:=os hf;exact r_flat ⟨trivial,trivial⟩ rfl (.refl _)
    ·refine w_condf rfl (bf c42)<|w_skip<|k_blk<|k_seq<|w_reg<|s_mov (.int .i64 (i_21:Int)) rfl<|s_q (.int .i64 (w64 ((i_21:Int) + 1))) rfl rfl rfl<|s_mov (.int .i64 (w64 ((i_21:Int) + 1))) rfl<|w_done<|?_;exact k_loopn ⟨(i_21 + 1),hc1⟩ (mul hlt31) ⟨[],[],_,_,rfl,rfl,⟨.refl _,⟨.refl _,⟨.of_eq (congrArg (AV.int _) (w64_incr hlt31 hl39)),trivial⟩⟩⟩,(.refl _)⟩
  ·rintro ⟨_,rfl⟩
   refine sr<|s_mov (.bool true) rfl<|dk<|w_ret<|?_;obtain rfl:=os hf;exact r_flat ⟨trivial,trivial⟩ rfl (.refl _)

/- spec.l05Unique -/
def c122:ACode :=
 (.seq (.reg (tq 2 (.box 1 (.t 0)) (tq 3 (.box 2 (.t 1)) (tm 4 (.c (.bool false)) .done))))
 (.seq (.seq (.reg (tm 5 (.c (.int .i64 0)) .done))
 (.block 0 (.loop (.seq (.seq (.reg (tm 11 (.t 5) (tq 12 (.faddr 0 (.t 3)) (tq 13 (.load 1 false (.t 12)) (tq 14 (.len (.t 13)) (tq 15 (.bin .lss (.t 11) (.t 14)) .done))))))
 (.cond (.t 15) .skip
 (.exit 0)))
 (.seq (.block 1 (.seq (.reg (tq 18 (.faddr 0 (.t 2)) (tq 19 (.load 1 false (.t 18)) (tm 20 (.t 5) (tq 21 (.iaddr 4 (.t 19) (.t 20)) (tq 22 (.faddr 2 (.t 21)) (tq 23 (.load 1 false (.t 22)) (tm 6 (.t 23) .done))))))))
 (.seq (.reg (tm 7 (.c (.int .i64 0)) .done))
 (.block 2 (.loop (.seq (.seq (.reg (tm 24 (.t 7) (tq 25 (.faddr 0 (.t 3)) (tq 26 (.load 1 false (.t 25)) (tm 27 (.t 5) (tq 28 (.iaddr 1 (.t 26) (.t 27)) (tq 29 (.load 1 false (.t 28)) (tq 30 (.len (.t 29)) (tq 31 (.bin .lss (.t 24) (.t 30)) (tm 32 (.t 31) (tg 33 32 true (.mov (.t 6)) (tg 34 32 true (.len (.t 33)) (tg 35 32 true (.bin .gtr (.t 34) (.c (.int .i64 0))) (tq 36 (.pick (.t 32) (.t 35) (.c (.bool false))) .done))))))))))))))
 (.cut (.cond (.t 36) .skip
 (.exit 2))))
 (.seq (.block 3 (.seq (.reg (tm 8 (.c (.int .i64 0)) .done))
 (.block 4 (.loop (.seq (.seq (.reg (tm 39 (.t 8) (tm 40 (.t 7) (tq 41 (.bin .lss (.t 39) (.t 40)) .done))))
 (.cond (.t 41) .skip
 (.exit 4)))
 (.seq (.block 5 (.seq (.reg (tm 9 (.c (.bool true)) .done))
 (.seq (.seq (.reg (tm 10 (.c (.int .i64 0)) .done))
 (.block 6 (.loop (.seq (.seq (.reg (tm 44 (.t 10) (tm 45 (.t 6) (tq 46 (.len (.t 45)) (tq 47 (.bin .lss (.t 44) (.t 46)) .done)))))
 (.cond (.t 47) .skip
 (.exit 6)))
 (.seq (.block 7 (.reg (tm 50 (.t 9) (tm 51 (.t 50) (tg 52 51 true (.faddr 0 (.t 3)) (tg 53 51 true (.load 1 false (.t 52)) (tg 54 51 true (.mov (.t 5)) (tg 55 51 true (.iaddr 1 (.t 53) (.t 54)) (tg 56 51 true (.load 1 false (.t 55)) (tg 57 51 true (.mov (.t 7)) (tg 58 51 true (.iaddr 2 (.t 56) (.t 57)) (tg 59 51 true (.faddr 1 (.t 58)) (tg 60 51 true (.load 1 false (.t 59)) (tg 61 51 true (.mov (.t 6)) (tg 62 51 true (.mov (.t 10)) (tg 63 51 true (.iaddr 1 (.t 61) (.t 62)) (tg 64 51 true (.load 1 false (.t 63)) (tg 65 51 true (.iaddr 1 (.t 60) (.t 64)) (tg 66 51 true (.load 1 false (.t 65)) (tg 67 51 true (.faddr 0 (.t 3)) (tg 68 51 true (.load 1 false (.t 67)) (tg 69 51 true (.mov (.t 5)) (tg 70 51 true (.iaddr 1 (.t 68) (.t 69)) (tg 71 51 true (.load 1 false (.t 70)) (tg 72 51 true (.mov (.t 8)) (tg 73 51 true (.iaddr 2 (.t 71) (.t 72)) (tg 74 51 true (.faddr 1 (.t 73)) (tg 75 51 true (.load 1 false (.t 74)) (tg 76 51 true (.mov (.t 6)) (tg 77 51 true (.mov (.t 10)) (tg 78 51 true (.iaddr 1 (.t 76) (.t 77)) (tg 79 51 true (.load 1 false (.t 78)) (tg 80 51 true (.iaddr 1 (.t 75) (.t 79)) (tg 81 51 true (.load 1 false (.t 80)) (.l ⟨(some 82),(some (51,true)),.call 171 [(.t 66),(.t 81)]⟩ []
 (tq 83 (.pick (.t 51) (.t 82) (.c (.bool false))) (.l ⟨(some 9),none,.mov (.t 83)⟩ []
 .done .non)) .non)))))))))))))))))))))))))))))))))))
 (.reg (tm 48 (.t 10) (tq 49 (.bin .add (.t 48) (.c (.int .i64 1))) (tm 10 (.t 49) .done)))))))))
 (.cut (.seq (.reg (tm 84 (.t 9) .done))
 (.cond (.t 84) (.seq (.reg (tm 4 (.c (.bool false)) .done))
 .ret)
 .skip))))))
 (.reg (tm 42 (.t 8) (tq 43 (.bin .add (.t 42) (.c (.int .i64 1))) (tm 8 (.t 43) .done))))))))))
 (.cut (.reg (tm 37 (.t 7) (tq 38 (.bin .add (.t 37) (.c (.int .i64 1))) (tm 7 (.t 38) .done))))))))))))
 (.cut (.reg (tm 16 (.t 5) (tq 17 (.bin .add (.t 16) (.c (.int .i64 1))) (tm 5 (.t 17) .done))))))))))
 (.cut (.seq (.reg (tm 4 (.c (.bool true)) .done))
 .ret))))
theorem fc122:fcomp Tryz.prog Tryz.f122 = some (c122.erase,[.mov (.t 4)],85):=by kernel_rfl
def spec_l05Unique_L4 (x_8206:(List GRow)) (k_9340:Int) (j_10310:Int):List Int → Bool → Option Bool
  | [],same_10427 =>
    some same_10427
  | x_10455 :: xs,same_10427 =>
    if same_10427 then
    (idx x_8206 k_9340).bind fun x_10459 =>
    (idx x_10459.Cells x_10455).bind fun x_10461 =>
    (idx x_8206 j_10310).bind fun x_10463 =>
    (idx x_10463.Cells x_10455).bind fun x_10465 =>
    (spec_l03Same x_10461 x_10465).bind fun r_10467 =>
    spec_l05Unique_L4 x_8206 k_9340 j_10310 xs r_10467 
    else
    spec_l05Unique_L4 x_8206 k_9340 j_10310 xs false 

def spec_l05Unique_L3 (k_9340:Int) (x_8206:(List GRow)) (x_8209:GTable):Nat → Int → Option (Fl Bool Unit)
  | 0,_ => none
  | k + 1,j_10310 =>
    if (decide (j_10310 < k_9340)) then
    (spec_l05Unique_L4 x_8206 k_9340 j_10310 x_8209.Unique true).bind fun same_10447 =>
    if same_10447 then
    some (.ret false)
    else
    spec_l05Unique_L3 k_9340 x_8206 x_8209 k (w64 (j_10310 + 1))
    else
    some (.go ())

def spec_l05Unique_L2 (x_8206:(List GRow)) (x_8209:GTable):Nat → Int → Option (Fl Bool Unit)
  | 0,_ => none
  | k + 1,k_9340 =>
    ((some ():Option Unit)).bind fun _ =>
    if (bif (decide (k_9340 < (x_8206.length:Int))) then (decide ((x_8209.Unique.length:Int) > 0)) else false) then
    (spec_l05Unique_L3 k_9340 x_8206 x_8209 FUEL 0).bind fun q => (match q with
    | .ret r => some (.ret r)
    | .go _ =>
    spec_l05Unique_L2 x_8206 x_8209 k (w64 (k_9340 + 1)))
    else
    some (.go ())

def spec_l05Unique_L1 (s_1:GSchema):List (List GRow) → Nat → Option (Fl Bool Unit)
  | [],i_5466 =>
    some (.go ())
  | x_8206 :: xs,i_5466 =>
    (idx s_1.Tables (i_5466:Int)).bind fun x_8209 =>
    (spec_l05Unique_L2 x_8206 x_8209 FUEL 0).bind fun q => (match q with
    | .ret r => some (.ret r)
    | .go _ =>
    spec_l05Unique_L1 s_1 xs (i_5466 + 1))

def spec_l05Unique (s_1:GSchema) (x_2:GStore):Option Bool :=
    (spec_l05Unique_L1 s_1 x_2.Tables 0).bind fun q => (match q with
    | .ret r => some r
    | .go _ =>
    some true)
theorem w_spec_l05Unique (s_1:GSchema) (x_2:GStore) (r:Bool) (hf:spec_l05Unique s_1 x_2 = some r):CallOK Tryz.prog 122 .flat [(encGSchema s_1),(encGStore x_2)] (.bool r):=by
 refine CallOK.of_awp mixed Tryz.func122 fc122 nle ?_;rw [argT_eq];unfold spec_l05Unique at hf;unfold c122;refine (show awp Tryz.prog false 0 _ (ofL [(0,(encGSchema s_1)),(1,(encGStore x_2))]) [] _ from ?_);refine sr<|s_do (o_box (j:=0) (c:=(.agg [(.lst 4 (s_1.Tables.map encGTable))])) rfl trivial rfl rfl)<|s_do (o_box (j:=1) (c:=(.agg [(.lst 1 (x_2.Tables.map (encL 2 encGRow))),(.int .i64 x_2.Next)])) rfl trivial rfl rfl)<|s_mov (.bool false) rfl<|dk<|awp_seq<|sr<|s_mov (.int .i64 0) rfl<|dk<|?_
 obtain ⟨p8199,hb1,hf⟩:=ob hf
 refine awp_cutx (X:={q:Unit // p8199 = .go q}) (fun q => ([],[])) ?_ ?_
 ·refine awp_loop (X:={q:Nat // spec_l05Unique_L1 s_1 (x_2.Tables.drop q) q = some p8199}) (fun q => ([(2,(.ptr 0 0 0)),(3,(.ptr 1 0 0)),(5,(.int .i64 (q.1:Int)))],[.box 1 (.agg [(.lst 4 (s_1.Tables.map encGTable))]),.box 2 (.agg [(.lst 1 (x_2.Tables.map (encL 2 encGRow))),(.int .i64 x_2.Next)])])) (fun q => x_2.Tables.length - q.1) ⟨0,hb1⟩ ⟨[],[0,1],_,_,rfl,rfl,⟨.refl _,⟨.refl _,⟨.refl _,trivial⟩⟩⟩,(.refl _)⟩ ?_
  rintro ⟨i_5466,hc1⟩
  have hc1:spec_l05Unique_L1 s_1 (x_2.Tables.drop i_5466) i_5466 = some p8199:=hc1
  refine (show awp Tryz.prog false 0 _ (ofL [(2,(.ptr 0 0 0)),(3,(.ptr 1 0 0)),(5,(.int .i64 (i_5466:Int)))]) [.box 1 (.agg [(.lst 4 (s_1.Tables.map encGTable))]),.box 2 (.agg [(.lst 1 (x_2.Tables.map (encL 2 encGRow))),(.int .i64 x_2.Next)])] _ from ?_)
  rcases dropc x_2.Tables i_5466 with ⟨hie8202,hd8205⟩ | ⟨hlt8200,x_8206,hx8201,hd8205⟩
  ·rw [hd8205,spec_l05Unique_L1.eq_1] at hc1
   have hq8204:=dlf hie8202
   refine awp_seq<|sr<|s_mov (.int .i64 (i_5466:Int)) rfl<|s_q (.ptr 1 0 0) rfl trivial rfl<|s_q (.lst 1 (x_2.Tables.map (encL 2 encGRow))) rfl nle rfl<|s_dof (o_len (enc:=(encL 2 encGRow)) rfl) fun hl8207 => s_q (.bool (decide ((i_5466:Int) < (x_2.Tables.length:Int)))) rfl rfl rfl<|dk<|w_condf rfl hq8204<|w_exit<|k_seqx<|k_loopx<|k_blkx<|?_;obtain rfl:=os hc1;exact k_cutn ⟨_,rfl⟩ ⟨[],[],_,_,rfl,rfl,trivial,(.refl _)⟩
  ·rw [hd8205,spec_l05Unique_L1.eq_2] at hc1
   have hq8204:=dlt hlt8200
   refine awp_seq<|sr<|s_mov (.int .i64 (i_5466:Int)) rfl<|s_q (.ptr 1 0 0) rfl trivial rfl<|s_q (.lst 1 (x_2.Tables.map (encL 2 encGRow))) rfl nle rfl<|s_dof (o_len (enc:=(encL 2 encGRow)) rfl) fun hl8208 => s_q (.bool (decide ((i_5466:Int) < (x_2.Tables.length:Int)))) rfl rfl rfl<|dk<|w_condt rfl hq8204<|w_skip<|k_seq<|awp_seq<|w_blk<|sr<|?_
   obtain ⟨x_8209,ex8210,hc1⟩:=ob hc1
   refine s_q (.ptr 0 0 0) rfl trivial rfl<|s_q (.lst 4 (s_1.Tables.map encGTable)) rfl nle rfl<|s_mov (.int .i64 (i_5466:Int)) rfl<|s_do (o_iaddr (enc:=encGTable) rfl rfl (idx0 ex8210) (idx1 ex8210))<|s_q (.iptr (encGTable x_8209) 2) rfl trivial rfl<|s_q (.lst 1 (x_8209.Unique.map encI)) rfl nle rfl<|s_mov (.lst 1 (x_8209.Unique.map encI)) rfl<|dk<|sr<|s_mov (.int .i64 0) rfl<|dk<|?_
   obtain ⟨p9905,hb2,hc1⟩:=ob hc1
   refine awp_cutxb (X:={q:Unit // p9905 = .go q}) (fun q => ([(2,(.ptr 0 0 0)),(3,(.ptr 1 0 0)),(5,(.int .i64 (i_5466:Int)))],[.box 1 (.agg [(.lst 4 (s_1.Tables.map encGTable))]),.box 2 (.agg [(.lst 1 (x_2.Tables.map (encL 2 encGRow))),(.int .i64 x_2.Next)])])) ?_ ?_
   ·refine awp_loop (X:={q:(Nat × Int) // spec_l05Unique_L2 x_8206 x_8209 q.1 q.2 = some p9905}) (fun q => ([(2,(.ptr 0 0 0)),(3,(.ptr 1 0 0)),(5,(.int .i64 (i_5466:Int))),(6,(.lst 1 (x_8209.Unique.map encI))),(7,(.int .i64 q.1.2))],[.box 1 (.agg [(.lst 4 (s_1.Tables.map encGTable))]),.box 2 (.agg [(.lst 1 (x_2.Tables.map (encL 2 encGRow))),(.int .i64 x_2.Next)])])) (fun q => q.1.1) ⟨(FUEL,0),hb2⟩ ⟨[],[0,1],_,_,rfl,rfl,⟨.refl _,⟨.refl _,⟨.refl _,⟨.refl _,⟨.refl _,trivial⟩⟩⟩⟩⟩,(.refl _)⟩ ?_
    rintro ⟨⟨k,k_9340⟩,hc2⟩
    have hc2:spec_l05Unique_L2 x_8206 x_8209 k k_9340 = some p9905:=hc2
    refine (show awp Tryz.prog false 0 _ (ofL [(2,(.ptr 0 0 0)),(3,(.ptr 1 0 0)),(5,(.int .i64 (i_5466:Int))),(6,(.lst 1 (x_8209.Unique.map encI))),(7,(.int .i64 k_9340))]) [.box 1 (.agg [(.lst 4 (s_1.Tables.map encGTable))]),.box 2 (.agg [(.lst 1 (x_2.Tables.map (encL 2 encGRow))),(.int .i64 x_2.Next)])] _ from ?_)
    rcases k with _ | k
    ·rw [spec_l05Unique_L2.eq_1] at hc2
     cases hc2
    ·rw [spec_l05Unique_L2.eq_2] at hc2;refine awp_seq<|awp_seq<|?_
     obtain ⟨p9908,hb3,hc2⟩:=ob hc2
     refine awp_cut ([(2,(.ptr 0 0 0)),(3,(.ptr 1 0 0)),(5,(.int .i64 (i_5466:Int))),(6,(.lst 1 (x_8209.Unique.map encI))),(7,(.int .i64 k_9340)),(36,(.bool (bif (decide (k_9340 < (x_8206.length:Int))) then (decide ((x_8209.Unique.length:Int) > 0)) else false)))],[.box 1 (.agg [(.lst 4 (s_1.Tables.map encGTable))]),.box 2 (.agg [(.lst 1 (x_2.Tables.map (encL 2 encGRow))),(.int .i64 x_2.Next)])]) ?_ ?_
     ·refine w_reg<|s_mov (.int .i64 k_9340) rfl<|s_q (.ptr 1 0 0) rfl trivial rfl<|s_q (.lst 1 (x_2.Tables.map (encL 2 encGRow))) rfl nle rfl<|s_mov (.int .i64 (i_5466:Int)) rfl<|s_do (o_iaddrn (enc:=(encL 2 encGRow)) rfl rfl hx8201)<|s_q (.lst 2 (x_8206.map encGRow)) rfl ⟨rfl,rfl⟩ rfl<|s_dof (o_len (enc:=encGRow) rfl) fun hl9909 => s_q (.bool (decide (k_9340 < (x_8206.length:Int)))) rfl rfl rfl<|s_mov (.bool (decide (k_9340 < (x_8206.length:Int)))) rfl<|?_;refine s_g (v:=(decide (k_9340 < (x_8206.length:Int)))) (.lst 1 (x_8209.Unique.map encI)) rfl (fun hv => by (try simp only [gs_on hv]);exact ⟨rfl,trivial,rfl⟩) ?_;refine s_g (v:=(decide (k_9340 < (x_8206.length:Int)))) (.int .i64 (x_8209.Unique.length:Int)) rfl (fun hv => by (try simp only [gs_on hv]);exact ⟨rfl,trivial,lenV _ _⟩) ?_
      refine s_g (v:=(decide (k_9340 < (x_8206.length:Int)))) (.bool (decide ((x_8209.Unique.length:Int) > 0))) rfl (fun hv => by (try simp only [gs_on hv]);exact ⟨rfl,rfl,rfl⟩) ?_;refine s_pick (x:=(decide ((x_8209.Unique.length:Int) > 0))) (y:=false) rfl (fun hv => by (try simp only [gs_on hv]);rfl) (fun hv => by (try simp only [gs_on hv]);rfl) ?_;refine w_done ?_;obtain rfl:=os hb3;exact ⟨[],[0,1],_,_,rfl,rfl,⟨.refl _,⟨.refl _,⟨.refl _,⟨.refl _,⟨.refl _,⟨.refl _,trivial⟩⟩⟩⟩⟩⟩,(.refl _)⟩
     ·rcases oi hc2 with ⟨c9911,hc2⟩ | ⟨c9911,hc2⟩
      ·refine w_condt rfl c9911<|w_skip<|k_seq<|awp_seq<|w_blk<|sr<|s_mov (.int .i64 0) rfl<|dk<|?_
       obtain ⟨p10390,hb3,hc2⟩:=ob hc2
       refine awp_cutxb (X:={q:Unit // p10390 = .go q}) (fun q => ([(2,(.ptr 0 0 0)),(3,(.ptr 1 0 0)),(5,(.int .i64 (i_5466:Int))),(6,(.lst 1 (x_8209.Unique.map encI))),(7,(.int .i64 k_9340))],[.box 1 (.agg [(.lst 4 (s_1.Tables.map encGTable))]),.box 2 (.agg [(.lst 1 (x_2.Tables.map (encL 2 encGRow))),(.int .i64 x_2.Next)])])) ?_ ?_
       ·refine awp_loop (X:={q:(Nat × Int) // spec_l05Unique_L3 k_9340 x_8206 x_8209 q.1 q.2 = some p10390}) (fun q => ([(2,(.ptr 0 0 0)),(3,(.ptr 1 0 0)),(5,(.int .i64 (i_5466:Int))),(6,(.lst 1 (x_8209.Unique.map encI))),(7,(.int .i64 k_9340)),(8,(.int .i64 q.1.2))],[.box 1 (.agg [(.lst 4 (s_1.Tables.map encGTable))]),.box 2 (.agg [(.lst 1 (x_2.Tables.map (encL 2 encGRow))),(.int .i64 x_2.Next)])])) (fun q => q.1.1) ⟨(FUEL,0),hb3⟩ ⟨[],[0,1],_,_,rfl,rfl,⟨.refl _,⟨.refl _,⟨.refl _,⟨.refl _,⟨.refl _,⟨.refl _,trivial⟩⟩⟩⟩⟩⟩,(.refl _)⟩ ?_
        rintro ⟨⟨k,j_10310⟩,hc3⟩
        have hc3:spec_l05Unique_L3 k_9340 x_8206 x_8209 k j_10310 = some p10390:=hc3
        refine (show awp Tryz.prog false 0 _ (ofL [(2,(.ptr 0 0 0)),(3,(.ptr 1 0 0)),(5,(.int .i64 (i_5466:Int))),(6,(.lst 1 (x_8209.Unique.map encI))),(7,(.int .i64 k_9340)),(8,(.int .i64 j_10310))]) [.box 1 (.agg [(.lst 4 (s_1.Tables.map encGTable))]),.box 2 (.agg [(.lst 1 (x_2.Tables.map (encL 2 encGRow))),(.int .i64 x_2.Next)])] _ from ?_)
        rcases k with _ | k
        ·rw [spec_l05Unique_L3.eq_1] at hc3
         cases hc3
        ·rw [spec_l05Unique_L3.eq_2] at hc3;refine awp_seq<|sr<|s_mov (.int .i64 j_10310) rfl<|s_mov (.int .i64 k_9340) rfl<|s_q (.bool (decide (j_10310 < k_9340))) rfl rfl rfl<|dk<|?_
         rcases oi hc3 with ⟨c10391,hc3⟩ | ⟨c10391,hc3⟩
         ·refine w_condt rfl c10391<|w_skip<|k_seq<|awp_seq<|w_blk<|sr<|s_mov (.bool true) rfl<|dk<|awp_seq<|sr<|s_mov (.int .i64 0) rfl<|dk<|?_
          obtain ⟨same_10447,hb4,hc3⟩:=ob hc3
          refine awp_cut ([(2,(.ptr 0 0 0)),(3,(.ptr 1 0 0)),(5,(.int .i64 (i_5466:Int))),(6,(.lst 1 (x_8209.Unique.map encI))),(7,(.int .i64 k_9340)),(8,(.int .i64 j_10310)),(9,(.bool same_10447))],[.box 1 (.agg [(.lst 4 (s_1.Tables.map encGTable))]),.box 2 (.agg [(.lst 1 (x_2.Tables.map (encL 2 encGRow))),(.int .i64 x_2.Next)])]) ?_ ?_
          ·refine awp_loop (X:={q:(Bool × Nat) // spec_l05Unique_L4 x_8206 k_9340 j_10310 (x_8209.Unique.drop q.2) q.1 = some same_10447}) (fun q => ([(2,(.ptr 0 0 0)),(3,(.ptr 1 0 0)),(5,(.int .i64 (i_5466:Int))),(6,(.lst 1 (x_8209.Unique.map encI))),(7,(.int .i64 k_9340)),(8,(.int .i64 j_10310)),(9,(.bool q.1.1)),(10,(.int .i64 (q.1.2:Int)))],[.box 1 (.agg [(.lst 4 (s_1.Tables.map encGTable))]),.box 2 (.agg [(.lst 1 (x_2.Tables.map (encL 2 encGRow))),(.int .i64 x_2.Next)])])) (fun q => x_8209.Unique.length - q.1.2) ⟨(true,0),hb4⟩ ⟨[],[0,1],_,_,rfl,rfl,⟨.refl _,⟨.refl _,⟨.refl _,⟨.refl _,⟨.refl _,⟨.refl _,⟨.refl _,⟨.refl _,trivial⟩⟩⟩⟩⟩⟩⟩⟩,(.refl _)⟩ ?_
           rintro ⟨⟨same_10427,n_10428⟩,hc4⟩
           have hc4:spec_l05Unique_L4 x_8206 k_9340 j_10310 (x_8209.Unique.drop n_10428) same_10427 = some same_10447:=hc4
           refine (show awp Tryz.prog false 0 _ (ofL [(2,(.ptr 0 0 0)),(3,(.ptr 1 0 0)),(5,(.int .i64 (i_5466:Int))),(6,(.lst 1 (x_8209.Unique.map encI))),(7,(.int .i64 k_9340)),(8,(.int .i64 j_10310)),(9,(.bool same_10427)),(10,(.int .i64 (n_10428:Int)))]) [.box 1 (.agg [(.lst 4 (s_1.Tables.map encGTable))]),.box 2 (.agg [(.lst 1 (x_2.Tables.map (encL 2 encGRow))),(.int .i64 x_2.Next)])] _ from ?_)
           rcases dropc x_8209.Unique n_10428 with ⟨hie10451,hd10454⟩ | ⟨hlt10449,x_10455,hx10450,hd10454⟩
           ·rw [hd10454,spec_l05Unique_L4.eq_1] at hc4
            have hq10453:=dlf hie10451
            refine awp_seq<|sr<|s_mov (.int .i64 (n_10428:Int)) rfl<|s_mov (.lst 1 (x_8209.Unique.map encI)) rfl<|s_dof (o_len (enc:=encI) rfl) fun hl10456 => s_q (.bool (decide ((n_10428:Int) < (x_8209.Unique.length:Int)))) rfl rfl rfl<|dk<|w_condf rfl hq10453<|w_exit<|k_seqx<|k_loopx<|k_blkx<|?_;obtain rfl:=os hc4;exact ⟨[],[0,1],_,_,rfl,rfl,⟨.refl _,⟨.refl _,⟨.refl _,⟨.refl _,⟨.refl _,⟨.refl _,⟨.refl _,trivial⟩⟩⟩⟩⟩⟩⟩,(.refl _)⟩
           ·rw [hd10454,spec_l05Unique_L4.eq_2] at hc4
            have hq10453:=dlt hlt10449
            refine awp_seq<|sr<|s_mov (.int .i64 (n_10428:Int)) rfl<|s_mov (.lst 1 (x_8209.Unique.map encI)) rfl<|s_dof (o_len (enc:=encI) rfl) fun hl10457 => s_q (.bool (decide ((n_10428:Int) < (x_8209.Unique.length:Int)))) rfl rfl rfl<|dk<|w_condt rfl hq10453<|w_skip<|k_seq<|awp_seq<|w_blk<|w_reg<|s_mov (.bool same_10427) rfl<|s_mov (.bool same_10427) rfl<|?_
            rcases oi hc4 with ⟨c10458,hc4⟩ | ⟨c10458,hc4⟩
            ·refine s_lit (s:=51) (b:=true) rfl c10458<|s_on rfl<|s_q (.ptr 1 0 0) rfl trivial rfl<|s_on rfl<|s_q (.lst 1 (x_2.Tables.map (encL 2 encGRow))) rfl nle rfl<|s_on rfl<|s_mov (.int .i64 (i_5466:Int)) rfl<|s_on rfl<|s_do (o_iaddrn (enc:=(encL 2 encGRow)) rfl rfl hx8201)<|s_on rfl<|s_q (.lst 2 (x_8206.map encGRow)) rfl ⟨rfl,rfl⟩ rfl<|s_on rfl<|s_mov (.int .i64 k_9340) rfl<|s_on rfl<|?_
             obtain ⟨x_10459,ex10460,hc4⟩:=ob hc4
             refine s_do (o_iaddr (enc:=encGRow) rfl rfl (idx0 ex10460) (idx1 ex10460))<|s_on rfl<|s_q (.iptr (encGRow x_10459) 1) rfl trivial rfl<|s_on rfl<|s_q (.lst 1 (x_10459.Cells.map (encL 3 encGAtom))) rfl nle rfl<|s_on rfl<|s_mov (.lst 1 (x_8209.Unique.map encI)) rfl<|s_on rfl<|s_mov (.int .i64 (n_10428:Int)) rfl<|s_on rfl<|s_do (o_iaddrn (enc:=encI) rfl rfl hx10450)<|s_on rfl<|s_q (.int .i64 x_10455) rfl ⟨rfl,rfl⟩ rfl<|s_on rfl<|?_
             obtain ⟨x_10461,ex10462,hc4⟩:=ob hc4
             refine s_do (o_iaddr (enc:=(encL 3 encGAtom)) rfl rfl (idx0 ex10462) (idx1 ex10462))<|s_on rfl<|s_q (.lst 3 (x_10461.map encGAtom)) rfl ⟨rfl,rfl⟩ rfl<|s_on rfl<|s_q (.ptr 1 0 0) rfl trivial rfl<|s_on rfl<|s_q (.lst 1 (x_2.Tables.map (encL 2 encGRow))) rfl nle rfl<|s_on rfl<|s_mov (.int .i64 (i_5466:Int)) rfl<|s_on rfl<|s_do (o_iaddrn (enc:=(encL 2 encGRow)) rfl rfl hx8201)<|s_on rfl<|s_q (.lst 2 (x_8206.map encGRow)) rfl ⟨rfl,rfl⟩ rfl<|s_on rfl<|s_mov (.int .i64 j_10310) rfl<|s_on rfl<|?_
             obtain ⟨x_10463,ex10464,hc4⟩:=ob hc4
             refine s_do (o_iaddr (enc:=encGRow) rfl rfl (idx0 ex10464) (idx1 ex10464))<|s_on rfl<|s_q (.iptr (encGRow x_10463) 1) rfl trivial rfl<|s_on rfl<|s_q (.lst 1 (x_10463.Cells.map (encL 3 encGAtom))) rfl nle rfl<|s_on rfl<|s_mov (.lst 1 (x_8209.Unique.map encI)) rfl<|s_on rfl<|s_mov (.int .i64 (n_10428:Int)) rfl<|s_on rfl<|s_do (o_iaddrn (enc:=encI) rfl rfl hx10450)<|s_on rfl<|s_q (.int .i64 x_10455) rfl ⟨rfl,rfl⟩ rfl<|s_on rfl<|?_
             obtain ⟨x_10465,ex10466,hc4⟩:=ob hc4
             refine s_do (o_iaddr (enc:=(encL 3 encGAtom)) rfl rfl (idx0 ex10466) (idx1 ex10466))<|s_on rfl<|s_q (.lst 3 (x_10465.map encGAtom)) rfl ⟨rfl,rfl⟩ rfl<|s_onl rfl<|?_
             obtain ⟨r_10467,er10468,hc4⟩:=ob hc4
             refine s_dol (o_call (w_spec_l03Same _ _ _ er10468) rfl (.refl _) rfl) a_same trivial<|s_q (.bool r_10467) rfl trivial rfl<|s_dol (o_mov (.bool r_10467) rfl) a_same trivial<|w_done<|k_blk<|k_seq<|w_reg<|s_mov (.int .i64 (n_10428:Int)) rfl<|s_q (.int .i64 (w64 ((n_10428:Int) + 1))) rfl rfl rfl<|s_mov (.int .i64 (w64 ((n_10428:Int) + 1))) rfl<|w_done<|?_;exact k_loopn ⟨(r_10467,(n_10428 + 1)),hc4⟩ (mul hlt10449) ⟨[],[0,1],_,_,rfl,rfl,⟨.refl _,⟨.refl _,⟨.refl _,⟨.refl _,⟨.refl _,⟨.refl _,⟨.refl _,⟨.of_eq (congrArg (AV.int _) (w64_incr hlt10449 hl10457)),trivial⟩⟩⟩⟩⟩⟩⟩⟩,(.refl _)⟩
            ·refine s_lit (s:=51) (b:=false) rfl (bf c10458)<|s_off rfl rfl<|s_off rfl rfl<|s_off rfl rfl<|s_off rfl rfl<|s_off rfl rfl<|s_off rfl rfl<|s_off rfl rfl<|s_off rfl rfl<|s_off rfl rfl<|s_off rfl rfl<|s_off rfl rfl<|s_off rfl rfl<|s_off rfl rfl<|s_off rfl rfl<|s_off rfl rfl<|s_off rfl rfl<|s_off rfl rfl<|s_off rfl rfl<|s_off rfl rfl<|s_off rfl rfl<|s_off rfl rfl<|s_off rfl rfl<|s_off rfl rfl<|s_off rfl rfl<|s_off rfl rfl<|s_off rfl rfl<|s_off rfl rfl<|s_off rfl rfl<|s_off rfl rfl<|s_off rfl rfl<|s_offl rfl rfl trivial<|s_q (.bool false) rfl trivial rfl<|s_dol (o_mov (.bool false) rfl) a_same trivial<|w_done<|k_blk<|k_seq<|w_reg<|?_
             refine s_mov (.int .i64 (n_10428:Int)) rfl<|s_q (.int .i64 (w64 ((n_10428:Int) + 1))) rfl rfl rfl<|s_mov (.int .i64 (w64 ((n_10428:Int) + 1))) rfl<|w_done<|?_;exact k_loopn ⟨(false,(n_10428 + 1)),hc4⟩ (mul hlt10449) ⟨[],[0,1],_,_,rfl,rfl,⟨.refl _,⟨.refl _,⟨.refl _,⟨.refl _,⟨.refl _,⟨.refl _,⟨.refl _,⟨.of_eq (congrArg (AV.int _) (w64_incr hlt10449 hl10457)),trivial⟩⟩⟩⟩⟩⟩⟩⟩,(.refl _)⟩
          ·refine sr<|s_mov (.bool same_10447) rfl<|dk<|?_
           rcases oi hc3 with ⟨c10469,hc3⟩ | ⟨c10469,hc3⟩
           ·refine w_condt rfl c10469<|sr<|s_mov (.bool false) rfl<|dk<|w_ret<|?_;obtain rfl:=os hc3;obtain rfl:=os hc2;obtain rfl:=os hc1;obtain rfl:=os hf;exact r_flat ⟨trivial,trivial⟩ rfl (.refl _)
           ·refine w_condf rfl (bf c10469)<|w_skip<|k_blk<|k_seq<|w_reg<|s_mov (.int .i64 j_10310) rfl<|s_q (.int .i64 (w64 (j_10310 + 1))) rfl rfl rfl<|s_mov (.int .i64 (w64 (j_10310 + 1))) rfl<|w_done<|?_;exact k_loopn ⟨(k,w64 (j_10310 + 1)),hc3⟩ (Nat.lt_succ_self _) ⟨[],[0,1],_,_,rfl,rfl,⟨.refl _,⟨.refl _,⟨.refl _,⟨.refl _,⟨.refl _,⟨.refl _,trivial⟩⟩⟩⟩⟩⟩,(.refl _)⟩
         ·refine w_condf rfl (bf c10391)<|w_exit<|k_seqx<|k_loopx<|k_blkx<|?_;refine k_blk ?_;obtain rfl:=os hc3;exact k_cutn ⟨_,rfl⟩ ⟨[],[0,1],_,_,rfl,rfl,⟨.refl _,⟨.refl _,⟨.refl _,⟨.refl _,⟨.refl _,trivial⟩⟩⟩⟩⟩,(.refl _)⟩
       ·rintro ⟨_,rfl⟩
        refine w_reg<|s_mov (.int .i64 k_9340) rfl<|s_q (.int .i64 (w64 (k_9340 + 1))) rfl rfl rfl<|s_mov (.int .i64 (w64 (k_9340 + 1))) rfl<|w_done<|?_;exact k_loopn ⟨(k,w64 (k_9340 + 1)),hc2⟩ (Nat.lt_succ_self _) ⟨[],[0,1],_,_,rfl,rfl,⟨.refl _,⟨.refl _,⟨.refl _,⟨.refl _,⟨.refl _,trivial⟩⟩⟩⟩⟩,(.refl _)⟩
      ·refine w_condf rfl (bf c9911)<|w_exit<|k_seqx<|k_loopx<|k_blkx<|?_;refine k_blk ?_;obtain rfl:=os hc2;exact k_cutn ⟨_,rfl⟩ ⟨[],[0,1],_,_,rfl,rfl,⟨.refl _,⟨.refl _,⟨.refl _,trivial⟩⟩⟩,(.refl _)⟩
   ·rintro ⟨_,rfl⟩
    refine w_reg<|s_mov (.int .i64 (i_5466:Int)) rfl<|s_q (.int .i64 (w64 ((i_5466:Int) + 1))) rfl rfl rfl<|s_mov (.int .i64 (w64 ((i_5466:Int) + 1))) rfl<|w_done<|?_;exact k_loopn ⟨(i_5466 + 1),hc1⟩ (mul hlt8200) ⟨[],[0,1],_,_,rfl,rfl,⟨.refl _,⟨.refl _,⟨.of_eq (congrArg (AV.int _) (w64_incr hlt8200 hl8208)),trivial⟩⟩⟩,(.refl _)⟩
 ·rintro ⟨_,rfl⟩
  refine sr<|s_mov (.bool true) rfl<|dk<|w_ret<|?_;obtain rfl:=os hf;exact r_flat ⟨trivial,trivial⟩ rfl (.refl _)

/- spec.l09Commit -/
def c53:ACode :=
 (.seq (.reg (tq 2 (.box 1 (.t 0)) (tq 3 (.box 2 (.t 1)) (tm 4 (.c (.int .i64 0)) .done))))
 (.seq (.seq (.reg (tq 5 (.load 1 true (.t 2)) (tq 6 (.load 2 true (.t 3)) (tq 7 (.call 121 [(.t 5),(.t 6)]) (tq 8 (.not (.t 7)) .done)))))
 (.cond (.t 8) (.seq (.reg (tm 4 (.c (.int .i64 13)) .done))
 .ret)
 .skip))
 (.seq (.seq (.reg (tq 9 (.load 1 true (.t 2)) (tq 10 (.load 2 true (.t 3)) (tq 11 (.call 122 [(.t 9),(.t 10)]) (tq 12 (.not (.t 11)) .done)))))
 (.cond (.t 12) (.seq (.reg (tm 4 (.c (.int .i64 12)) .done))
 .ret)
 .skip))
 (.seq (.reg (tm 4 (.c (.int .i64 0)) .done))
 .ret))))
theorem fc53:fcomp Tryz.prog Tryz.f53 = some (c53.erase,[.mov (.t 4)],13):=by kernel_rfl
def spec_l09Commit (s_1:GSchema) (x_2:GStore):Option Int :=
    (spec_l05Refs s_1 x_2).bind fun r_3 =>
    if (!r_3) then
    some 13
    else
    (spec_l05Unique s_1 x_2).bind fun r_6 =>
    if (!r_6) then
    some 12
    else
    some 0
theorem w_spec_l09Commit (s_1:GSchema) (x_2:GStore) (r:Int) (hf:spec_l09Commit s_1 x_2 = some r):CallOK Tryz.prog 53 .flat [(encGSchema s_1),(encGStore x_2)] (.int .i64 r):=by
 refine CallOK.of_awp mixed Tryz.func53 fc53 nle ?_;rw [argT_eq];unfold spec_l09Commit at hf;unfold c53;refine (show awp Tryz.prog false 0 _ (ofL [(0,(encGSchema s_1)),(1,(encGStore x_2))]) [] _ from ?_);refine sr<|s_do (o_box (j:=0) (c:=(.agg [(.lst 4 (s_1.Tables.map encGTable))])) rfl trivial rfl rfl)<|s_do (o_box (j:=1) (c:=(.agg [(.lst 1 (x_2.Tables.map (encL 2 encGRow))),(.int .i64 x_2.Next)])) rfl trivial rfl rfl)<|s_mov (.int .i64 0) rfl<|dk<|awp_seq<|sr<|?_
 obtain ⟨r_3,er4,hf⟩:=ob hf
 refine s_q (.agg [(.lst 4 (s_1.Tables.map encGTable))]) rfl nle rfl<|s_q (.agg [(.lst 1 (x_2.Tables.map (encL 2 encGRow))),(.int .i64 x_2.Next)]) rfl nle rfl<|s_do (o_call (w_spec_l05Refs _ _ _ er4) rfl (.refl _) rfl)<|s_q (.bool (!r_3)) rfl trivial rfl<|dk<|?_
 rcases oi hf with ⟨c5,hf⟩ | ⟨c5,hf⟩
 ·refine w_condt rfl c5<|sr<|s_mov (.int .i64 13) rfl<|dk<|w_ret<|?_;obtain rfl:=os hf;exact r_flat ⟨trivial,trivial⟩ rfl (.refl _)
 ·refine w_condf rfl (bf c5)<|w_skip<|k_seq<|awp_seq<|sr<|?_
  obtain ⟨r_6,er7,hf⟩:=ob hf
  refine s_q (.agg [(.lst 4 (s_1.Tables.map encGTable))]) rfl nle rfl<|s_q (.agg [(.lst 1 (x_2.Tables.map (encL 2 encGRow))),(.int .i64 x_2.Next)]) rfl nle rfl<|s_do (o_call (w_spec_l05Unique _ _ _ er7) rfl (.refl _) rfl)<|s_q (.bool (!r_6)) rfl trivial rfl<|dk<|?_
  rcases oi hf with ⟨c8,hf⟩ | ⟨c8,hf⟩
  ·refine w_condt rfl c8<|sr<|s_mov (.int .i64 12) rfl<|dk<|w_ret<|?_;obtain rfl:=os hf;exact r_flat ⟨trivial,trivial⟩ rfl (.refl _)
  ·refine w_condf rfl (bf c8)<|w_skip<|k_seq<|sr<|s_mov (.int .i64 0) rfl<|dk<|w_ret<|?_;obtain rfl:=os hf;exact r_flat ⟨trivial,trivial⟩ rfl (.refl _)

/- spec.CommitCode -/
def c14:ACode :=
 (.seq (.reg (tq 2 (.box 1 (.t 0)) (tq 3 (.box 2 (.t 1)) (tm 4 (.c (.int .i64 0)) (tm 5 (.c (.int .i64 0)) .done)))))
 (.seq (.seq (.reg (tq 6 (.load 1 true (.t 2)) (tq 7 (.call 35 [(.t 6)]) (tq 8 (.not (.t 7)) (tm 9 (.t 8) (tg 10 9 false (.load 1 true (.t 2)) (tg 11 9 false (.load 2 true (.t 3)) (tg 12 9 false (.call 52 [(.t 10),(.t 11)]) (tg 13 9 false (.not (.t 12)) (tq 14 (.pick (.t 9) (.c (.bool true)) (.t 13)) .done))))))))))
 (.cut (.cond (.t 14) (.seq (.reg (tm 4 (.c (.int .i64 0)) (tm 5 (.c (.int .i64 1)) .done)))
 .ret)
 .skip)))
 (.seq (.reg (tq 15 (.load 1 true (.t 2)) (tq 16 (.load 2 true (.t 3)) (tq 17 (.call 53 [(.t 15),(.t 16)]) (tm 4 (.t 17) (tm 5 (.c (.int .i64 0)) .done))))))
 .ret)))
theorem fc14:fcomp Tryz.prog Tryz.f14 = some (c14.erase,[.mov (.t 4),.mov (.t 5)],18):=by kernel_rfl
def spec_CommitCode (s_1:GSchema) (x_2:GStore):Option (Int × Int) :=
    (((spec_SchemaOK s_1).bind fun r_10 =>
    if (!r_10) then
    some true
    else
    (spec_l05Form s_1 x_2).bind fun r_13 =>
    some (!r_13):Option Bool)).bind fun s14_8 =>
    if s14_8 then
    some (0,1)
    else
    (spec_l09Commit s_1 x_2).bind fun r_16 =>
    some (r_16,0)
theorem w_spec_CommitCode (s_1:GSchema) (x_2:GStore) (r:(Int × Int)) (hf:spec_CommitCode s_1 x_2 = some r):CallOK Tryz.prog 14 .flat [(encGSchema s_1),(encGStore x_2)] (.tup [(.int .i64 r.1),(.int .i64 r.2)]):=by
 refine CallOK.of_awp mixed Tryz.func14 fc14 nle ?_;rw [argT_eq];unfold spec_CommitCode at hf;unfold c14;refine (show awp Tryz.prog false 0 _ (ofL [(0,(encGSchema s_1)),(1,(encGStore x_2))]) [] _ from ?_);refine sr<|s_do (o_box (j:=0) (c:=(.agg [(.lst 4 (s_1.Tables.map encGTable))])) rfl trivial rfl rfl)<|s_do (o_box (j:=1) (c:=(.agg [(.lst 1 (x_2.Tables.map (encL 2 encGRow))),(.int .i64 x_2.Next)])) rfl trivial rfl rfl)<|s_mov (.int .i64 0) rfl<|s_mov (.int .i64 0) rfl<|dk<|awp_seq<|awp_seq<|?_
 obtain ⟨s14_8,hb1,hf⟩:=ob hf
 refine awp_cut ([(2,(.ptr 0 0 0)),(3,(.ptr 1 0 0)),(14,(.bool s14_8))],[.box 1 (.agg [(.lst 4 (s_1.Tables.map encGTable))]),.box 2 (.agg [(.lst 1 (x_2.Tables.map (encL 2 encGRow))),(.int .i64 x_2.Next)])]) ?_ ?_
 ·refine w_reg ?_
  obtain ⟨r_10,er11,hb1⟩:=ob hb1
  rcases oi hb1 with ⟨c12,hb1⟩ | ⟨c12,hb1⟩
  ·refine s_q (.agg [(.lst 4 (s_1.Tables.map encGTable))]) rfl nle rfl<|s_do (o_call (w_spec_SchemaOK _ _ er11) rfl (.refl _) rfl)<|s_q (.bool (!r_10)) rfl trivial rfl<|s_mov (.bool (!r_10)) rfl<|s_lit (s:=9) (b:=true) rfl c12<|s_off rfl rfl<|s_off rfl rfl<|s_off rfl rfl<|s_off rfl rfl<|s_q (.bool true) rfl trivial rfl<|w_done<|?_;obtain rfl:=os hb1;exact ⟨[],[0,1],_,_,rfl,rfl,⟨.refl _,⟨.refl _,⟨.refl _,trivial⟩⟩⟩,(.refl _)⟩
  ·obtain ⟨r_13,er14,hb1⟩:=ob hb1
   refine s_q (.agg [(.lst 4 (s_1.Tables.map encGTable))]) rfl nle rfl<|s_do (o_call (w_spec_SchemaOK _ _ er11) rfl (.refl _) rfl)<|s_q (.bool (!r_10)) rfl trivial rfl<|s_mov (.bool (!r_10)) rfl<|s_lit (s:=9) (b:=false) rfl (bf c12)<|s_on rfl<|s_q (.agg [(.lst 4 (s_1.Tables.map encGTable))]) rfl nle rfl<|s_on rfl<|s_q (.agg [(.lst 1 (x_2.Tables.map (encL 2 encGRow))),(.int .i64 x_2.Next)]) rfl nle rfl<|s_on rfl<|s_do (o_call (w_spec_l05Form _ _ _ er14) rfl (.refl _) rfl)<|s_on rfl<|s_q (.bool (!r_13)) rfl trivial rfl<|s_q (.bool (!r_13)) rfl trivial rfl<|w_done<|?_;obtain rfl:=os hb1;exact ⟨[],[0,1],_,_,rfl,rfl,⟨.refl _,⟨.refl _,⟨.refl _,trivial⟩⟩⟩,(.refl _)⟩
 ·rcases oi hf with ⟨c15,hf⟩ | ⟨c15,hf⟩
  ·refine w_condt rfl c15<|sr<|s_mov (.int .i64 0) rfl<|s_mov (.int .i64 1) rfl<|dk<|w_ret<|?_;obtain rfl:=os hf;exact r_flat ⟨trivial,⟨trivial,trivial⟩⟩ rfl (.refl _)
  ·refine w_condf rfl (bf c15)<|w_skip<|k_seq<|sr<|?_
   obtain ⟨r_16,er17,hf⟩:=ob hf
   refine s_q (.agg [(.lst 4 (s_1.Tables.map encGTable))]) rfl nle rfl<|s_q (.agg [(.lst 1 (x_2.Tables.map (encL 2 encGRow))),(.int .i64 x_2.Next)]) rfl nle rfl<|s_do (o_call (w_spec_l09Commit _ _ _ er17) rfl (.refl _) rfl)<|s_mov (.int .i64 r_16) rfl<|s_mov (.int .i64 0) rfl<|dk<|w_ret<|?_;obtain rfl:=os hf;exact r_flat ⟨trivial,⟨trivial,trivial⟩⟩ rfl (.refl _)

/- impl.within -/
def c43:ACode :=
 (.seq (.reg (tm 6 (.c (.bool false)) .done))
 (.seq (.reg (tm 7 (.t 0) (tm 8 (.t 1) (tq 9 (.bin .geq (.t 7) (.t 8)) (tm 10 (.t 9) (tg 11 10 true (.mov (.t 0)) (tg 12 10 true (.mov (.t 2)) (tg 13 10 true (.bin .leq (.t 11) (.t 12)) (tq 14 (.pick (.t 10) (.t 13) (.c (.bool false))) (tm 6 (.t 14) .done))))))))))
 .ret))
theorem fc43:fcomp Tryz.prog Tryz.f43 = some (c43.erase,[.mov (.t 6)],15):=by kernel_rfl
def impl_within (n_1:Int) (low_2:Int) (high_3:Int):Option Bool :=
    if (decide (n_1 ≥ low_2)) then
    some (decide (n_1 ≤ high_3))
    else
    some false
theorem w_impl_within (n_1:Int) (low_2:Int) (high_3:Int) (r:Bool) (hf:impl_within n_1 low_2 high_3 = some r):CallOK Tryz.prog 43 .flat [(.int .i64 n_1),(.int .i64 low_2),(.int .i64 high_3)] (.bool r):=by
 refine CallOK.of_awp mixed Tryz.func43 fc43 nle ?_;rw [argT_eq];unfold impl_within at hf;unfold c43;refine (show awp Tryz.prog false 0 _ (ofL [(0,(.int .i64 n_1)),(1,(.int .i64 low_2)),(2,(.int .i64 high_3))]) [] _ from ?_);refine sr<|s_mov (.bool false) rfl<|dk<|sr<|?_
 rcases oi hf with ⟨c4,hf⟩ | ⟨c4,hf⟩
 ·refine s_mov (.int .i64 n_1) rfl<|s_mov (.int .i64 low_2) rfl<|s_q (.bool (decide (n_1 ≥ low_2))) rfl rfl rfl<|s_mov (.bool (decide (n_1 ≥ low_2))) rfl<|s_lit (s:=10) (b:=true) rfl c4<|s_on rfl<|s_mov (.int .i64 n_1) rfl<|s_on rfl<|s_mov (.int .i64 high_3) rfl<|s_on rfl<|s_q (.bool (decide (n_1 ≤ high_3))) rfl rfl rfl<|s_q (.bool (decide (n_1 ≤ high_3))) rfl trivial rfl<|s_mov (.bool (decide (n_1 ≤ high_3))) rfl<|dk<|w_ret<|?_;obtain rfl:=os hf;exact r_flat ⟨trivial,trivial⟩ rfl (.refl _)
 ·refine s_mov (.int .i64 n_1) rfl<|s_mov (.int .i64 low_2) rfl<|s_q (.bool (decide (n_1 ≥ low_2))) rfl rfl rfl<|s_mov (.bool (decide (n_1 ≥ low_2))) rfl<|s_lit (s:=10) (b:=false) rfl (bf c4)<|s_off rfl rfl<|s_off rfl rfl<|s_off rfl rfl<|s_q (.bool false) rfl trivial rfl<|s_mov (.bool false) rfl<|dk<|w_ret<|?_;obtain rfl:=os hf;exact r_flat ⟨trivial,trivial⟩ rfl (.refl _)

/- impl.isDigit -/
def c113:ACode :=
 (.seq (.reg (tm 2 (.c (.bool false)) .done))
 (.seq (.reg (tm 3 (.t 0) (tq 4 (.bin .geq (.t 3) (.c (.int .u8 48))) (tm 5 (.t 4) (tg 6 5 true (.mov (.t 0)) (tg 7 5 true (.bin .leq (.t 6) (.c (.int .u8 57))) (tq 8 (.pick (.t 5) (.t 7) (.c (.bool false))) (tm 2 (.t 8) .done))))))))
 .ret))
theorem fc113:fcomp Tryz.prog Tryz.f113 = some (c113.erase,[.mov (.t 2)],9):=by kernel_rfl
def impl_isDigit (b_1:Int):Option Bool :=
    if (decide (b_1 ≥ 48)) then
    some (decide (b_1 ≤ 57))
    else
    some false
theorem w_impl_isDigit (b_1:Int) (r:Bool) (hf:impl_isDigit b_1 = some r):CallOK Tryz.prog 113 .flat [(.int .u8 b_1)] (.bool r):=by
 refine CallOK.of_awp mixed Tryz.func113 fc113 nle ?_;rw [argT_eq];unfold impl_isDigit at hf;unfold c113;refine (show awp Tryz.prog false 0 _ (ofL [(0,(.int .u8 b_1))]) [] _ from ?_);refine sr<|s_mov (.bool false) rfl<|dk<|sr<|?_
 rcases oi hf with ⟨c2,hf⟩ | ⟨c2,hf⟩
 ·refine s_mov (.int .u8 b_1) rfl<|s_q (.bool (decide (b_1 ≥ 48))) rfl rfl rfl<|s_mov (.bool (decide (b_1 ≥ 48))) rfl<|s_lit (s:=5) (b:=true) rfl c2<|s_on rfl<|s_mov (.int .u8 b_1) rfl<|s_on rfl<|s_q (.bool (decide (b_1 ≤ 57))) rfl rfl rfl<|s_q (.bool (decide (b_1 ≤ 57))) rfl trivial rfl<|s_mov (.bool (decide (b_1 ≤ 57))) rfl<|dk<|w_ret<|?_;obtain rfl:=os hf;exact r_flat ⟨trivial,trivial⟩ rfl (.refl _)
 ·refine s_mov (.int .u8 b_1) rfl<|s_q (.bool (decide (b_1 ≥ 48))) rfl rfl rfl<|s_mov (.bool (decide (b_1 ≥ 48))) rfl<|s_lit (s:=5) (b:=false) rfl (bf c2)<|s_off rfl rfl<|s_off rfl rfl<|s_q (.bool false) rfl trivial rfl<|s_mov (.bool false) rfl<|dk<|w_ret<|?_;obtain rfl:=os hf;exact r_flat ⟨trivial,trivial⟩ rfl (.refl _)

/- impl.NameOK -/
def c46:ACode :=
 (.seq (.reg (tm 2 (.c (.bool false)) .done))
 (.seq (.seq (.reg (tm 6 (.t 0) (tq 7 (.lenS (.t 6)) (tm 8 (.c (.int .i64 0)) .done))))
 (.block 0 (.loop (.seq (.reg (tq 9 (.bin .lss (.t 8) (.t 7)) .done))
 (.seq (.cond (.t 9) .skip
 (.exit 0))
 (.seq (.block 1 (.seq (.reg (tm 10 (.t 8) (tm 3 (.t 10) .done)))
 (.seq (.reg (tm 11 (.t 0) (tm 12 (.t 3) (tq 13 (.idxs (.t 11) (.t 12)) (tm 4 (.t 13) .done)))))
 (.seq (.reg (tm 14 (.t 4) (tq 15 (.bin .geq (.t 14) (.c (.int .u8 97))) (tm 16 (.t 15) (tg 17 16 true (.mov (.t 4)) (tg 18 16 true (.bin .leq (.t 17) (.c (.int .u8 122))) (tq 19 (.pick (.t 16) (.t 18) (.c (.bool false))) (tm 20 (.t 19) (tg 21 20 false (.mov (.t 4)) (tg 22 20 false (.bin .geq (.t 21) (.c (.int .u8 65))) (tg 23 20 false (.mov (.t 22)) (tg 24 23 true (.mov (.t 4)) (tg 25 23 true (.bin .leq (.t 24) (.c (.int .u8 90))) (tg 26 20 false (.pick (.t 23) (.t 25) (.c (.bool false))) (tq 27 (.pick (.t 20) (.c (.bool true)) (.t 26)) (tm 28 (.t 27) (tg 29 28 false (.mov (.t 4)) (tg 30 28 false (.bin .eql (.t 29) (.c (.int .u8 95))) (tq 31 (.pick (.t 28) (.c (.bool true)) (.t 30)) (tm 5 (.t 31) .done))))))))))))))))))))
 (.cut (.seq (.reg (tm 32 (.t 5) (tq 33 (.not (.t 32)) (tm 34 (.t 33) (tg 35 34 true (.mov (.t 3)) (tg 36 34 true (.bin .eql (.t 35) (.c (.int .i64 0))) (tg 37 34 true (.mov (.t 36)) (tg 38 37 false (.mov (.t 4)) (tg 39 37 false (.call 113 [(.t 38)]) (tg 40 37 false (.not (.t 39)) (tg 41 34 true (.pick (.t 37) (.c (.bool true)) (.t 40)) (tq 42 (.pick (.t 34) (.t 41) (.c (.bool false))) .done))))))))))))
 (.cut (.cond (.t 42) (.seq (.reg (tm 2 (.c (.bool false)) .done))
 .ret)
 .skip))))))))
 (.reg (tq 43 (.bin .add (.t 8) (.c (.int .i64 1))) (tm 8 (.t 43) .done)))))))))
 (.cut (.seq (.reg (tm 44 (.t 0) (tq 45 (.lenS (.t 44)) (tq 46 (.call 43 [(.t 45),(.c (.int .i64 1)),(.c (.int .i64 40))]) (tm 2 (.t 46) .done)))))
 .ret))))
theorem fc46:fcomp Tryz.prog Tryz.f46 = some (c46.erase,[.mov (.t 2)],47):=by kernel_rfl
def impl_NameOK_L1 :List UInt8 → Nat → Option (Fl Bool Unit)
  | [],s8_34 =>
    some (.go ())
  | x_57 :: xs,s8_34 =>
    ((some ():Option Unit)).bind fun _ =>
    ((if (!(bif (bif (bif (decide ((x_57.toNat:Int) ≥ 97)) then (decide ((x_57.toNat:Int) ≤ 122)) else false) then true else (bif (decide ((x_57.toNat:Int) ≥ 65)) then (decide ((x_57.toNat:Int) ≤ 90)) else false)) then true else ((x_57.toNat:Int) == 95))) then
    if ((s8_34:Int) == 0) then
    some true
    else
    (impl_isDigit (x_57.toNat:Int)).bind fun r_67 =>
    some (!r_67)
    else
    some false:Option Bool)).bind fun s42_63 =>
    if s42_63 then
    some (.ret false)
    else
    impl_NameOK_L1 xs (s8_34 + 1)

def impl_NameOK (t_1:Str):Option Bool :=
    (impl_NameOK_L1 t_1 0).bind fun q => (match q with
    | .ret r => some r
    | .go _ =>
    (impl_within (t_1.length:Int) 1 40).bind fun r_71 =>
    some r_71)
theorem w_impl_NameOK (t_1:Str) (r:Bool) (hf:impl_NameOK t_1 = some r):CallOK Tryz.prog 46 .flat [(.str t_1)] (.bool r):=by
 refine CallOK.of_awp mixed Tryz.func46 fc46 nle ?_;rw [argT_eq];unfold impl_NameOK at hf;unfold c46;refine (show awp Tryz.prog false 0 _ (ofL [(0,(.str t_1))]) [] _ from ?_);refine sr<|s_mov (.bool false) rfl<|dk<|awp_seq<|sr<|s_mov (.str t_1) rfl<|s_dof (o_lenS rfl) fun hl2 => s_mov (.int .i64 0) rfl<|dk<|?_
 obtain ⟨p50,hb1,hf⟩:=ob hf
 refine awp_cutx (X:={q:Unit // p50 = .go q}) (fun q => ([(0,(.str t_1))],[])) ?_ ?_
 ·refine awp_loop (X:={q:Nat // impl_NameOK_L1 (t_1.drop q) q = some p50}) (fun q => ([(0,(.str t_1)),(7,(.int .i64 (t_1.length:Int))),(8,(.int .i64 (q.1:Int)))],[])) (fun q => t_1.length - q.1) ⟨0,hb1⟩ ⟨[],[],_,_,rfl,rfl,⟨.refl _,⟨.refl _,⟨.refl _,trivial⟩⟩⟩,(.refl _)⟩ ?_
  rintro ⟨s8_34,hc1⟩
  have hc1:impl_NameOK_L1 (t_1.drop s8_34) s8_34 = some p50:=hc1
  refine (show awp Tryz.prog false 0 _ (ofL [(0,(.str t_1)),(7,(.int .i64 (t_1.length:Int))),(8,(.int .i64 (s8_34:Int)))]) [] _ from ?_)
  rcases dropc t_1 s8_34 with ⟨hie53,hd56⟩ | ⟨hlt51,x_57,hx52,hd56⟩
  ·rw [hd56,impl_NameOK_L1.eq_1] at hc1
   have hq55:=dlf hie53
   refine sr<|s_q (.bool (decide ((s8_34:Int) < (t_1.length:Int)))) rfl rfl rfl<|dk<|awp_seq<|w_condf rfl hq55<|w_exit<|k_seqx<|k_loopx<|k_blkx<|?_;obtain rfl:=os hc1;exact k_cutn ⟨_,rfl⟩ ⟨[],[],_,_,rfl,rfl,⟨.refl _,trivial⟩,(.refl _)⟩
  ·rw [hd56,impl_NameOK_L1.eq_2] at hc1
   have hq55:=dlt hlt51
   refine sr<|s_q (.bool (decide ((s8_34:Int) < (t_1.length:Int)))) rfl rfl rfl<|dk<|awp_seq<|w_condt rfl hq55<|w_skip<|k_seq<|awp_seq<|w_blk<|sr<|s_mov (.int .i64 (s8_34:Int)) rfl<|s_mov (.int .i64 (s8_34:Int)) rfl<|dk<|sr<|s_mov (.str t_1) rfl<|s_mov (.int .i64 (s8_34:Int)) rfl<|s_do (o_idxsn rfl rfl hx52)<|s_mov (.int .u8 (x_57.toNat:Int)) rfl<|dk<|awp_seq<|?_
   obtain ⟨p58,hb2,hc1⟩:=ob hc1
   refine awp_cut ([(0,(.str t_1)),(3,(.int .i64 (s8_34:Int))),(4,(.int .u8 (x_57.toNat:Int))),(5,(.bool (bif (bif (bif (decide ((x_57.toNat:Int) ≥ 97)) then (decide ((x_57.toNat:Int) ≤ 122)) else false) then true else (bif (decide ((x_57.toNat:Int) ≥ 65)) then (decide ((x_57.toNat:Int) ≤ 90)) else false)) then true else ((x_57.toNat:Int) == 95)))),(7,(.int .i64 (t_1.length:Int))),(8,(.int .i64 (s8_34:Int)))],[]) ?_ ?_
   ·refine w_reg<|s_mov (.int .u8 (x_57.toNat:Int)) rfl<|s_q (.bool (decide ((x_57.toNat:Int) ≥ 97))) rfl rfl rfl<|s_mov (.bool (decide ((x_57.toNat:Int) ≥ 97))) rfl<|?_;refine s_g (v:=(decide ((x_57.toNat:Int) ≥ 97))) (.int .u8 (x_57.toNat:Int)) rfl (fun hv => by (try simp only [gs_on hv]);exact ⟨rfl,trivial,rfl⟩) ?_;refine s_g (v:=(decide ((x_57.toNat:Int) ≥ 97))) (.bool (decide ((x_57.toNat:Int) ≤ 122))) rfl (fun hv => by (try simp only [gs_on hv]);exact ⟨rfl,rfl,rfl⟩) ?_;refine s_pick (x:=(decide ((x_57.toNat:Int) ≤ 122))) (y:=false) rfl (fun hv => by (try simp only [gs_on hv]);rfl) (fun hv => by (try simp only [gs_on hv]);rfl) ?_;refine s_mov (.bool (bif (decide ((x_57.toNat:Int) ≥ 97)) then (decide ((x_57.toNat:Int) ≤ 122)) else false)) rfl ?_
    refine s_g (v:=(bif (decide ((x_57.toNat:Int) ≥ 97)) then (decide ((x_57.toNat:Int) ≤ 122)) else false)) (.int .u8 (x_57.toNat:Int)) rfl (fun hv => by (try simp only [gs_on hv]);exact ⟨rfl,trivial,rfl⟩) ?_;refine s_g (v:=(bif (decide ((x_57.toNat:Int) ≥ 97)) then (decide ((x_57.toNat:Int) ≤ 122)) else false)) (.bool (decide ((x_57.toNat:Int) ≥ 65))) rfl (fun hv => by (try simp only [gs_on hv]);exact ⟨rfl,rfl,rfl⟩) ?_;refine s_g (v:=(bif (decide ((x_57.toNat:Int) ≥ 97)) then (decide ((x_57.toNat:Int) ≤ 122)) else false)) (.bool (decide ((x_57.toNat:Int) ≥ 65))) rfl (fun hv => by (try simp only [gs_on hv]);exact ⟨rfl,trivial,rfl⟩) ?_;refine s_gg (v1:=(bif (decide ((x_57.toNat:Int) ≥ 97)) then (decide ((x_57.toNat:Int) ≤ 122)) else false)) (b1:=false) (v2:=(decide ((x_57.toNat:Int) ≥ 65))) (.int .u8 (x_57.toNat:Int)) rfl (fun hv hw => by (try simp only [gs_on hv,gs_on hw]);exact ⟨rfl,trivial,rfl⟩) ?_
    refine s_gg (v1:=(bif (decide ((x_57.toNat:Int) ≥ 97)) then (decide ((x_57.toNat:Int) ≤ 122)) else false)) (b1:=false) (v2:=(decide ((x_57.toNat:Int) ≥ 65))) (.bool (decide ((x_57.toNat:Int) ≤ 90))) rfl (fun hv hw => by (try simp only [gs_on hv,gs_on hw]);exact ⟨rfl,rfl,rfl⟩) ?_;refine s_gp (v1:=(bif (decide ((x_57.toNat:Int) ≥ 97)) then (decide ((x_57.toNat:Int) ≤ 122)) else false)) (b1:=false) (v2:=(decide ((x_57.toNat:Int) ≥ 65))) (x:=(decide ((x_57.toNat:Int) ≤ 90))) (y:=false) rfl (fun hv => by (try simp only [gs_on hv]);rfl) (fun hv hw => by (try simp only [gs_on hv,gs_on hw]);rfl) (fun hv hw => by (try simp only [gs_on hv,gs_on hw]);rfl) ?_;refine s_pick (x:=true) (y:=(bif (decide ((x_57.toNat:Int) ≥ 65)) then (decide ((x_57.toNat:Int) ≤ 90)) else false)) rfl (fun hv => by (try simp only [gs_on hv]);rfl) (fun hv => by (try simp only [gs_on hv]);rfl) ?_
    refine s_mov (.bool (bif (bif (decide ((x_57.toNat:Int) ≥ 97)) then (decide ((x_57.toNat:Int) ≤ 122)) else false) then true else (bif (decide ((x_57.toNat:Int) ≥ 65)) then (decide ((x_57.toNat:Int) ≤ 90)) else false))) rfl ?_;refine s_g (v:=(bif (bif (decide ((x_57.toNat:Int) ≥ 97)) then (decide ((x_57.toNat:Int) ≤ 122)) else false) then true else (bif (decide ((x_57.toNat:Int) ≥ 65)) then (decide ((x_57.toNat:Int) ≤ 90)) else false))) (.int .u8 (x_57.toNat:Int)) rfl (fun hv => by (try simp only [gs_on hv]);exact ⟨rfl,trivial,rfl⟩) ?_;refine s_g (v:=(bif (bif (decide ((x_57.toNat:Int) ≥ 97)) then (decide ((x_57.toNat:Int) ≤ 122)) else false) then true else (bif (decide ((x_57.toNat:Int) ≥ 65)) then (decide ((x_57.toNat:Int) ≤ 90)) else false))) (.bool ((x_57.toNat:Int) == 95)) rfl (fun hv => by (try simp only [gs_on hv]);exact ⟨rfl,rfl,rfl⟩) ?_
    refine s_pick (x:=true) (y:=((x_57.toNat:Int) == 95)) rfl (fun hv => by (try simp only [gs_on hv]);rfl) (fun hv => by (try simp only [gs_on hv]);rfl) ?_;refine s_mov (.bool (bif (bif (bif (decide ((x_57.toNat:Int) ≥ 97)) then (decide ((x_57.toNat:Int) ≤ 122)) else false) then true else (bif (decide ((x_57.toNat:Int) ≥ 65)) then (decide ((x_57.toNat:Int) ≤ 90)) else false)) then true else ((x_57.toNat:Int) == 95))) rfl<|w_done<|?_;obtain rfl:=os hb2;exact ⟨[],[],_,_,rfl,rfl,⟨.refl _,⟨.refl _,⟨.refl _,⟨.refl _,⟨.refl _,⟨.refl _,trivial⟩⟩⟩⟩⟩⟩,(.refl _)⟩
   ·refine awp_seq ?_
    obtain ⟨s42_63,hb2,hc1⟩:=ob hc1
    refine awp_cut ([(0,(.str t_1)),(7,(.int .i64 (t_1.length:Int))),(8,(.int .i64 (s8_34:Int))),(42,(.bool s42_63))],[]) ?_ ?_
    ·refine w_reg ?_
     rcases oi hb2 with ⟨c65,hb2⟩ | ⟨c65,hb2⟩
     ·rcases oi hb2 with ⟨c66,hb2⟩ | ⟨c66,hb2⟩
      ·refine s_mov (.bool (bif (bif (bif (decide ((x_57.toNat:Int) ≥ 97)) then (decide ((x_57.toNat:Int) ≤ 122)) else false) then true else (bif (decide ((x_57.toNat:Int) ≥ 65)) then (decide ((x_57.toNat:Int) ≤ 90)) else false)) then true else ((x_57.toNat:Int) == 95))) rfl<|s_q (.bool (!(bif (bif (bif (decide ((x_57.toNat:Int) ≥ 97)) then (decide ((x_57.toNat:Int) ≤ 122)) else false) then true else (bif (decide ((x_57.toNat:Int) ≥ 65)) then (decide ((x_57.toNat:Int) ≤ 90)) else false)) then true else ((x_57.toNat:Int) == 95)))) rfl trivial rfl<|s_mov (.bool (!(bif (bif (bif (decide ((x_57.toNat:Int) ≥ 97)) then (decide ((x_57.toNat:Int) ≤ 122)) else false) then true else (bif (decide ((x_57.toNat:Int) ≥ 65)) then (decide ((x_57.toNat:Int) ≤ 90)) else false)) then true else ((x_57.toNat:Int) == 95)))) rfl<|?_
       refine s_lit (s:=34) (b:=true) rfl c65<|s_on rfl<|s_mov (.int .i64 (s8_34:Int)) rfl<|s_on rfl<|s_q (.bool ((s8_34:Int) == 0)) rfl rfl rfl<|s_on rfl<|s_mov (.bool ((s8_34:Int) == 0)) rfl<|s_lit (s:=37) (b:=true) rfl c66<|s_off rfl rfl<|s_off rfl rfl<|s_off rfl rfl<|s_on rfl<|s_q (.bool true) rfl trivial rfl<|s_q (.bool true) rfl trivial rfl<|w_done<|?_;obtain rfl:=os hb2;exact ⟨[],[],_,_,rfl,rfl,⟨.refl _,⟨.refl _,⟨.refl _,⟨.refl _,trivial⟩⟩⟩⟩,(.refl _)⟩
      ·obtain ⟨r_67,er68,hb2⟩:=ob hb2
       refine s_mov (.bool (bif (bif (bif (decide ((x_57.toNat:Int) ≥ 97)) then (decide ((x_57.toNat:Int) ≤ 122)) else false) then true else (bif (decide ((x_57.toNat:Int) ≥ 65)) then (decide ((x_57.toNat:Int) ≤ 90)) else false)) then true else ((x_57.toNat:Int) == 95))) rfl<|s_q (.bool (!(bif (bif (bif (decide ((x_57.toNat:Int) ≥ 97)) then (decide ((x_57.toNat:Int) ≤ 122)) else false) then true else (bif (decide ((x_57.toNat:Int) ≥ 65)) then (decide ((x_57.toNat:Int) ≤ 90)) else false)) then true else ((x_57.toNat:Int) == 95)))) rfl trivial rfl<|s_mov (.bool (!(bif (bif (bif (decide ((x_57.toNat:Int) ≥ 97)) then (decide ((x_57.toNat:Int) ≤ 122)) else false) then true else (bif (decide ((x_57.toNat:Int) ≥ 65)) then (decide ((x_57.toNat:Int) ≤ 90)) else false)) then true else ((x_57.toNat:Int) == 95)))) rfl<|?_
       refine s_lit (s:=34) (b:=true) rfl c65<|s_on rfl<|s_mov (.int .i64 (s8_34:Int)) rfl<|s_on rfl<|s_q (.bool ((s8_34:Int) == 0)) rfl rfl rfl<|s_on rfl<|s_mov (.bool ((s8_34:Int) == 0)) rfl<|s_lit (s:=37) (b:=false) rfl (bf c66)<|s_on rfl<|s_mov (.int .u8 (x_57.toNat:Int)) rfl<|s_on rfl<|s_do (o_call (w_impl_isDigit _ _ er68) rfl (.refl _) rfl)<|s_on rfl<|s_q (.bool (!r_67)) rfl trivial rfl<|s_on rfl<|s_q (.bool (!r_67)) rfl trivial rfl<|s_q (.bool (!r_67)) rfl trivial rfl<|w_done<|?_;obtain rfl:=os hb2;exact ⟨[],[],_,_,rfl,rfl,⟨.refl _,⟨.refl _,⟨.refl _,⟨.refl _,trivial⟩⟩⟩⟩,(.refl _)⟩
     ·refine s_mov (.bool (bif (bif (bif (decide ((x_57.toNat:Int) ≥ 97)) then (decide ((x_57.toNat:Int) ≤ 122)) else false) then true else (bif (decide ((x_57.toNat:Int) ≥ 65)) then (decide ((x_57.toNat:Int) ≤ 90)) else false)) then true else ((x_57.toNat:Int) == 95))) rfl<|s_q (.bool (!(bif (bif (bif (decide ((x_57.toNat:Int) ≥ 97)) then (decide ((x_57.toNat:Int) ≤ 122)) else false) then true else (bif (decide ((x_57.toNat:Int) ≥ 65)) then (decide ((x_57.toNat:Int) ≤ 90)) else false)) then true else ((x_57.toNat:Int) == 95)))) rfl trivial rfl<|s_mov (.bool (!(bif (bif (bif (decide ((x_57.toNat:Int) ≥ 97)) then (decide ((x_57.toNat:Int) ≤ 122)) else false) then true else (bif (decide ((x_57.toNat:Int) ≥ 65)) then (decide ((x_57.toNat:Int) ≤ 90)) else false)) then true else ((x_57.toNat:Int) == 95)))) rfl<|?_
      refine s_lit (s:=34) (b:=false) rfl (bf c65)<|s_off rfl rfl<|s_off rfl rfl<|s_off rfl rfl<|s_offs rfl<|s_offs rfl<|s_offs rfl<|s_off rfl rfl<|s_q (.bool false) rfl trivial rfl<|w_done<|?_;obtain rfl:=os hb2;exact ⟨[],[],_,_,rfl,rfl,⟨.refl _,⟨.refl _,⟨.refl _,⟨.refl _,trivial⟩⟩⟩⟩,(.refl _)⟩
    ·rcases oi hc1 with ⟨c69,hc1⟩ | ⟨c69,hc1⟩
     ·refine w_condt rfl c69<|sr<|s_mov (.bool false) rfl<|dk<|w_ret<|?_;obtain rfl:=os hc1;obtain rfl:=os hf;exact r_flat ⟨trivial,trivial⟩ rfl (.refl _)
     ·refine w_condf rfl (bf c69)<|w_skip<|k_blk<|k_seq<|w_reg<|s_q (.int .i64 (w64 ((s8_34:Int) + 1))) rfl rfl rfl<|s_mov (.int .i64 (w64 ((s8_34:Int) + 1))) rfl<|w_done<|?_;exact k_loopn ⟨(s8_34 + 1),hc1⟩ (mul hlt51) ⟨[],[],_,_,rfl,rfl,⟨.refl _,⟨.refl _,⟨.of_eq (congrArg (AV.int _) (w64_incr hlt51 hl2)),trivial⟩⟩⟩,(.refl _)⟩
 ·rintro ⟨_,rfl⟩
  refine sr<|?_
  obtain ⟨r_71,er72,hf⟩:=ob hf
  refine s_mov (.str t_1) rfl<|s_dof (o_lenS rfl) fun hl70 => s_do (o_call (w_impl_within _ _ _ _ er72) rfl (.refl _) rfl)<|s_mov (.bool r_71) rfl<|dk<|w_ret<|?_;obtain rfl:=os hf;exact r_flat ⟨trivial,trivial⟩ rfl (.refl _)

/- impl.isNumber -/
def c132:ACode :=
 (.seq (.reg (tm 2 (.c (.bool false)) .done))
 (.seq (.reg (tm 3 (.t 0) (tq 4 (.call 43 [(.t 3),(.c (.int .i64 (-1000000000))),(.c (.int .i64 1000000000))]) (tm 2 (.t 4) .done))))
 .ret))
theorem fc132:fcomp Tryz.prog Tryz.f132 = some (c132.erase,[.mov (.t 2)],5):=by kernel_rfl
def impl_isNumber (n_1:Int):Option Bool :=
    (impl_within n_1 (-1000000000) 1000000000).bind fun r_2 =>
    some r_2
theorem w_impl_isNumber (n_1:Int) (r:Bool) (hf:impl_isNumber n_1 = some r):CallOK Tryz.prog 132 .flat [(.int .i64 n_1)] (.bool r):=by
  refine CallOK.of_awp mixed Tryz.func132 fc132 nle ?_
  rw [argT_eq]
  unfold impl_isNumber at hf
  unfold c132
  refine (show awp Tryz.prog false 0 _ (ofL [(0,(.int .i64 n_1))]) [] _ from ?_)
  refine awp_seq ?_
  refine w_reg ?_
  refine s_do (o_mov (.bool false) rfl) ?_
  refine w_done ?_
  refine k_seq ?_
  refine awp_seq ?_
  refine w_reg ?_
  obtain ⟨r_2,er3,hf⟩:=ob hf
  refine s_do (o_mov (.int .i64 n_1) rfl) ?_
  refine s_do (o_call (w_impl_within _ _ _ _ er3) rfl (.refl _) rfl) ?_
  refine s_do (o_mov (.bool r_2) rfl) ?_
  refine w_done ?_
  refine k_seq ?_
  refine w_ret ?_
  obtain rfl:=os hf
  exact r_flat ⟨trivial,trivial⟩ rfl (.refl _)

end Go.R
