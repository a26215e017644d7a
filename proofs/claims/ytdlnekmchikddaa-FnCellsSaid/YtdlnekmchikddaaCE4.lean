/- Walks. -/
import Derived.Test.YtdlnekmchikddaaCE3
set_option linter.all false
namespace Go.R
open Go Go.Proofs
set_option linter.unusedVariables false
set_option linter.unusedSimpArgs false
set_option maxHeartbeats 8000000
/- spec.SetRow -/
def c18:ACode :=
 (.seq (.reg (tq 3 (.box 4 (.t 0)) (tq 4 (.box 2 (.t 1)) (tq 6 (.box 2 (.c (.agg [(.int .i64 0),.nil]))) (tm 7 (.c (.int .i64 0)) .done)))))
 (.seq (.seq (.reg (tm 10 (.t 2) (tq 11 (.len (.t 10)) (tq 12 (.bin .gtr (.t 11) (.c (.int .i64 4096))) .done))))
 (.cond (.t 12) (.seq (.reg (tq 13 (.build [(.int .i64 0),.nil] []) (.q ⟨none,none,.store 2 (.t 6) (.t 13)⟩
 (tm 7 (.c (.int .i64 2)) .done))))
 .ret)
 .skip))
 (.seq (.seq (.reg (tq 14 (.load 4 true (.t 3)) (tq 15 (.load 2 true (.t 4)) (tq 16 (.call 45 [(.t 14),(.t 15)]) (tq 17 (.not (.t 16)) (tm 18 (.t 17) (tg 19 18 false (.mov (.t 2)) (tg 20 18 false (.len (.t 19)) (tg 21 18 false (.bin .gtr (.t 20) (.c (.int .i64 6))) (tq 22 (.pick (.t 18) (.c (.bool true)) (.t 21)) .done))))))))))
 (.cut (.cond (.t 22) (.seq (.reg (tq 23 (.build [(.int .i64 0),.nil] []) (.q ⟨none,none,.store 2 (.t 6) (.t 23)⟩
 (tm 7 (.c (.int .i64 1)) .done))))
 .ret)
 .skip)))
 (.seq (.seq (.reg (tm 8 (.c (.int .i64 0)) .done))
 (.block 0 (.loop (.seq (.seq (.reg (tm 24 (.t 8) (tm 25 (.t 2) (tq 26 (.len (.t 25)) (tq 27 (.bin .lss (.t 24) (.t 26)) .done)))))
 (.cond (.t 27) .skip
 (.exit 0)))
 (.seq (.block 1 (.seq (.reg (tm 30 (.t 2) (tm 31 (.t 8) (tq 32 (.iaddr 3 (.t 30) (.t 31)) (tq 33 (.load 3 true (.t 32)) (tq 34 (.call 46 [(.t 33)]) (tq 35 (.not (.t 34)) (tm 36 (.t 35) (tg 37 36 false (.mov (.t 2)) (tg 38 36 false (.mov (.t 8)) (tg 39 36 false (.iaddr 3 (.t 37) (.t 38)) (tg 40 36 false (.faddr 2 (.t 39)) (tg 41 36 false (.load 1 false (.t 40)) (tg 42 36 false (.len (.t 41)) (tg 43 36 false (.bin .gtr (.t 42) (.c (.int .i64 0))) (tq 44 (.pick (.t 36) (.c (.bool true)) (.t 43)) .done))))))))))))))))
 (.cut (.cond (.t 44) (.seq (.reg (tq 45 (.build [(.int .i64 0),.nil] []) (.q ⟨none,none,.store 2 (.t 6) (.t 45)⟩
 (tm 7 (.c (.int .i64 1)) .done))))
 .ret)
 .skip))))
 (.reg (tm 28 (.t 8) (tq 29 (.bin .add (.t 28) (.c (.int .i64 1))) (tm 8 (.t 29) .done)))))))))
 (.cut (.seq (.seq (.reg (tq 46 (.load 4 true (.t 3)) (tm 47 (.t 2) (tq 48 (.call 47 [(.t 46),(.t 47)]) (tm 9 (.t 48) .done)))))
 (.seq (.reg (tm 49 (.t 9) (tq 50 (.bin .neq (.t 49) (.c (.int .i64 0))) .done)))
 (.cond (.t 50) (.seq (.reg (tq 51 (.build [(.int .i64 0),.nil] []) (tm 52 (.t 9) (.q ⟨none,none,.store 2 (.t 6) (.t 51)⟩
 (tm 7 (.t 52) .done)))))
 .ret)
 .skip)))
 (.seq (.reg (tq 53 (.load 4 true (.t 3)) (tq 54 (.load 2 true (.t 4)) (tm 55 (.t 2) (tq 56 (.call 48 [(.t 53),(.t 54),(.t 55)]) (tq 57 (.extract 0 (.t 56)) (tq 58 (.extract 1 (.t 56)) (.q ⟨none,none,.store 2 (.t 6) (.t 57)⟩
 (tm 7 (.t 58) .done)))))))))
 .ret)))))))
theorem fc18:fcomp Try.prog Try.f18 = some (c18.erase,[.load 2 true (.t 6),.mov (.t 7)],59):=by kernel_rfl
def spec_SetRow_L1 :List GSet → Option (Fl (GRow × Int) Unit)
  | [] =>
    some (.go ())
  | x_90 :: xs =>
    (((spec_l08Set x_90).bind fun r_99 =>
    if (!r_99) then
    some true
    else
    some (decide ((x_90.Names.length:Int) > 0)):Option Bool)).bind fun s44_97 =>
    if s44_97 then
    some (.ret ((⟨0,[]⟩:GRow),1))
    else
    spec_SetRow_L1 xs 

def spec_SetRow (t_1:GTable) (r_2:GRow) (list_3:(List GSet)):Option (GRow × Int) :=
    if (decide ((list_3.length:Int) > 4096)) then
    some ((⟨0,[]⟩:GRow),2)
    else
    (((spec_RowOK t_1 r_2).bind fun r_12 =>
    if (!r_12) then
    some true
    else
    some (decide ((list_3.length:Int) > 6)):Option Bool)).bind fun s22_10 =>
    if s22_10 then
    some ((⟨0,[]⟩:GRow),1)
    else
    (spec_SetRow_L1 list_3 ).bind fun q => (match q with
    | .ret r => some r
    | .go _ =>
    (spec_l08Sets t_1 list_3).bind fun r_104 =>
    if (r_104 != 0) then
    some ((⟨0,[]⟩:GRow),r_104)
    else
    (spec_l08SetRow t_1 r_2 list_3).bind fun r_107 =>
    some (r_107.1,r_107.2))
theorem w_spec_SetRow (t_1:GTable) (r_2:GRow) (list_3:(List GSet)) (r:(GRow × Int)) (hf:spec_SetRow t_1 r_2 list_3 = some r):CallOK Try.prog 18 .fresh [(encGTable t_1),(encGRow r_2),(.lst 3 (list_3.map encGSet))] (.tup [(encGRow r.1),(.int .i64 r.2)]):=by
 refine CallOK.of_awp mixed Try.func18 fc18 nle ?_;rw [argT_eq];unfold spec_SetRow at hf;unfold c18;refine (show awp Try.prog true 0 _ (ofL [(0,(encGTable t_1)),(1,(encGRow r_2)),(2,(.lst 3 (list_3.map encGSet)))]) [] _ from ?_);refine sr<|s_do (o_box (j:=0) (c:=(.agg [(.str t_1.Name),(.lst 8 (t_1.Columns.map encGColumn)),(.lst 1 (t_1.Unique.map encI)),(.bool t_1.Root)])) rfl trivial rfl rfl)<|s_do (o_box (j:=1) (c:=(.agg [(.int .i64 r_2.Id),(.lst 1 (r_2.Cells.map (encL 3 encGAtom)))])) rfl trivial rfl rfl)<|s_do (o_box (j:=2) (c:=(.agg [(.int .i64 0),.nil])) rfl trivial rfl rfl)<|s_mov (.int .i64 0) rfl<|dk<|awp_seq<|sr<|s_mov (.lst 3 (list_3.map encGSet)) rfl<|?_
 refine s_dof (o_len (enc:=encGSet) rfl) fun hl4 => s_q (.bool (decide ((list_3.length:Int) > 4096))) rfl rfl rfl<|dk<|?_
 rcases oi hf with ⟨c5,hf⟩ | ⟨c5,hf⟩
 ·refine w_condt rfl c5<|sr<|s_q (.agg [(.int .i64 0),.nil]) rfl trivial rfl<|s_do0 (o_storebox (v:=(.agg [(.int .i64 0),.nil])) (y':=(.agg [(.int .i64 0),.nil])) rfl rfl rfl trivial ⟨rfl,nle⟩ ⟨⟨rfl,trivial⟩,⟨⟨rfl,trivial⟩,trivial⟩⟩ rfl)<|s_mov (.int .i64 2) rfl<|dk<|w_ret<|?_;obtain rfl:=os hf;exact r_fresh ⟨nle,⟨trivial,trivial⟩⟩ rfl (by decide) (.tup (.cons (.agg (.cons (.refl _) (.cons (.nil _) .nil))) (.cons (.refl _) .nil)))
 ·refine w_condf rfl (bf c5)<|w_skip<|k_seq<|awp_seq<|awp_seq<|?_
  obtain ⟨s22_10,hb1,hf⟩:=ob hf
  refine awp_cut ([(2,(.lst 3 (list_3.map encGSet))),(3,(.ptr 0 0 0)),(4,(.ptr 1 0 0)),(6,(.ptr 2 0 0)),(22,(.bool s22_10))],[.box 4 (.agg [(.str t_1.Name),(.lst 8 (t_1.Columns.map encGColumn)),(.lst 1 (t_1.Unique.map encI)),(.bool t_1.Root)]),.box 2 (.agg [(.int .i64 r_2.Id),(.lst 1 (r_2.Cells.map (encL 3 encGAtom)))]),.box 2 (.agg [(.int .i64 0),.nil])]) ?_ ?_
  ·refine w_reg ?_
   obtain ⟨r_12,er13,hb1⟩:=ob hb1
   rcases oi hb1 with ⟨c14,hb1⟩ | ⟨c14,hb1⟩
   ·refine s_q (.agg [(.str t_1.Name),(.lst 8 (t_1.Columns.map encGColumn)),(.lst 1 (t_1.Unique.map encI)),(.bool t_1.Root)]) rfl nle rfl<|s_q (.agg [(.int .i64 r_2.Id),(.lst 1 (r_2.Cells.map (encL 3 encGAtom)))]) rfl nle rfl<|s_do (o_call (w_spec_RowOK _ _ _ er13) rfl (.refl _) rfl)<|s_q (.bool (!r_12)) rfl trivial rfl<|s_mov (.bool (!r_12)) rfl<|s_lit (s:=18) (b:=true) rfl c14<|s_off rfl rfl<|s_off rfl rfl<|s_off rfl rfl<|s_q (.bool true) rfl trivial rfl<|w_done<|?_;obtain rfl:=os hb1;exact ⟨[],[0,1,2],_,_,rfl,rfl,⟨.refl _,⟨.refl _,⟨.refl _,⟨.refl _,⟨.refl _,trivial⟩⟩⟩⟩⟩,(.refl _)⟩
   ·refine s_q (.agg [(.str t_1.Name),(.lst 8 (t_1.Columns.map encGColumn)),(.lst 1 (t_1.Unique.map encI)),(.bool t_1.Root)]) rfl nle rfl<|s_q (.agg [(.int .i64 r_2.Id),(.lst 1 (r_2.Cells.map (encL 3 encGAtom)))]) rfl nle rfl<|s_do (o_call (w_spec_RowOK _ _ _ er13) rfl (.refl _) rfl)<|s_q (.bool (!r_12)) rfl trivial rfl<|s_mov (.bool (!r_12)) rfl<|s_lit (s:=18) (b:=false) rfl (bf c14)<|s_on rfl<|s_mov (.lst 3 (list_3.map encGSet)) rfl<|s_on rfl<|s_dof (o_len (enc:=encGSet) rfl) fun hl15 => s_on rfl<|s_q (.bool (decide ((list_3.length:Int) > 6))) rfl rfl rfl<|s_q (.bool (decide ((list_3.length:Int) > 6))) rfl trivial rfl<|w_done<|?_;obtain rfl:=os hb1;exact ⟨[],[0,1,2],_,_,rfl,rfl,⟨.refl _,⟨.refl _,⟨.refl _,⟨.refl _,⟨.refl _,trivial⟩⟩⟩⟩⟩,(.refl _)⟩
  ·rcases oi hf with ⟨c16,hf⟩ | ⟨c16,hf⟩
   ·refine w_condt rfl c16<|sr<|s_q (.agg [(.int .i64 0),.nil]) rfl trivial rfl<|s_do0 (o_storebox (v:=(.agg [(.int .i64 0),.nil])) (y':=(.agg [(.int .i64 0),.nil])) rfl rfl rfl trivial ⟨rfl,nle⟩ ⟨⟨rfl,trivial⟩,⟨⟨rfl,trivial⟩,trivial⟩⟩ rfl)<|s_mov (.int .i64 1) rfl<|dk<|w_ret<|?_;obtain rfl:=os hf;exact r_fresh ⟨nle,⟨trivial,trivial⟩⟩ rfl (by decide) (.tup (.cons (.agg (.cons (.refl _) (.cons (.nil _) .nil))) (.cons (.refl _) .nil)))
   ·refine w_condf rfl (bf c16)<|w_skip<|k_seq<|awp_seq<|sr<|s_mov (.int .i64 0) rfl<|dk<|?_
    obtain ⟨p83,hb1,hf⟩:=ob hf
    refine awp_cutx (X:={q:Unit // p83 = .go q}) (fun q => ([(2,(.lst 3 (list_3.map encGSet))),(3,(.ptr 0 0 0)),(4,(.ptr 1 0 0)),(6,(.ptr 2 0 0))],[.box 4 (.agg [(.str t_1.Name),(.lst 8 (t_1.Columns.map encGColumn)),(.lst 1 (t_1.Unique.map encI)),(.bool t_1.Root)]),.box 2 (.agg [(.int .i64 r_2.Id),(.lst 1 (r_2.Cells.map (encL 3 encGAtom)))]),.box 2 (.agg [(.int .i64 0),.nil])])) ?_ ?_
    ·refine awp_loop (X:={q:Nat // spec_SetRow_L1 (list_3.drop q)  = some p83}) (fun q => ([(2,(.lst 3 (list_3.map encGSet))),(3,(.ptr 0 0 0)),(4,(.ptr 1 0 0)),(6,(.ptr 2 0 0)),(8,(.int .i64 (q.1:Int)))],[.box 4 (.agg [(.str t_1.Name),(.lst 8 (t_1.Columns.map encGColumn)),(.lst 1 (t_1.Unique.map encI)),(.bool t_1.Root)]),.box 2 (.agg [(.int .i64 r_2.Id),(.lst 1 (r_2.Cells.map (encL 3 encGAtom)))]),.box 2 (.agg [(.int .i64 0),.nil])])) (fun q => list_3.length - q.1) ⟨0,hb1⟩ ⟨[],[0,1,2],_,_,rfl,rfl,⟨.refl _,⟨.refl _,⟨.refl _,⟨.refl _,⟨.refl _,trivial⟩⟩⟩⟩⟩,(.refl _)⟩ ?_
     rintro ⟨i_60,hc1⟩
     have hc1:spec_SetRow_L1 (list_3.drop i_60)  = some p83:=hc1
     refine (show awp Try.prog true 0 _ (ofL [(2,(.lst 3 (list_3.map encGSet))),(3,(.ptr 0 0 0)),(4,(.ptr 1 0 0)),(6,(.ptr 2 0 0)),(8,(.int .i64 (i_60:Int)))]) [.box 4 (.agg [(.str t_1.Name),(.lst 8 (t_1.Columns.map encGColumn)),(.lst 1 (t_1.Unique.map encI)),(.bool t_1.Root)]),.box 2 (.agg [(.int .i64 r_2.Id),(.lst 1 (r_2.Cells.map (encL 3 encGAtom)))]),.box 2 (.agg [(.int .i64 0),.nil])] _ from ?_)
     rcases dropc list_3 i_60 with ⟨hie86,hd89⟩ | ⟨hlt84,x_90,hx85,hd89⟩
     ·rw [hd89,spec_SetRow_L1.eq_1] at hc1
      have hq88:=dlf hie86
      refine awp_seq<|sr<|s_mov (.int .i64 (i_60:Int)) rfl<|s_mov (.lst 3 (list_3.map encGSet)) rfl<|s_dof (o_len (enc:=encGSet) rfl) fun hl91 => s_q (.bool (decide ((i_60:Int) < (list_3.length:Int)))) rfl rfl rfl<|dk<|w_condf rfl hq88<|w_exit<|k_seqx<|k_loopx<|k_blkx<|?_;obtain rfl:=os hc1;exact k_cutn ⟨_,rfl⟩ ⟨[],[0,1,2],_,_,rfl,rfl,⟨.refl _,⟨.refl _,⟨.refl _,⟨.refl _,trivial⟩⟩⟩⟩,(.refl _)⟩
     ·rw [hd89,spec_SetRow_L1.eq_2] at hc1
      have hq88:=dlt hlt84
      refine awp_seq<|sr<|s_mov (.int .i64 (i_60:Int)) rfl<|s_mov (.lst 3 (list_3.map encGSet)) rfl<|s_dof (o_len (enc:=encGSet) rfl) fun hl92 => s_q (.bool (decide ((i_60:Int) < (list_3.length:Int)))) rfl rfl rfl<|dk<|w_condt rfl hq88<|w_skip<|k_seq<|awp_seq<|w_blk<|awp_seq<|?_
      obtain ⟨s44_97,hb2,hc1⟩:=ob hc1
      refine awp_cut ([(2,(.lst 3 (list_3.map encGSet))),(3,(.ptr 0 0 0)),(4,(.ptr 1 0 0)),(6,(.ptr 2 0 0)),(8,(.int .i64 (i_60:Int))),(44,(.bool s44_97))],[.box 4 (.agg [(.str t_1.Name),(.lst 8 (t_1.Columns.map encGColumn)),(.lst 1 (t_1.Unique.map encI)),(.bool t_1.Root)]),.box 2 (.agg [(.int .i64 r_2.Id),(.lst 1 (r_2.Cells.map (encL 3 encGAtom)))]),.box 2 (.agg [(.int .i64 0),.nil])]) ?_ ?_
      ·refine w_reg<|s_mov (.lst 3 (list_3.map encGSet)) rfl<|s_mov (.int .i64 (i_60:Int)) rfl<|s_do (o_iaddrn (enc:=encGSet) rfl rfl hx85)<|s_q (encGSet x_90) rfl nle rfl<|?_
       obtain ⟨r_99,er100,hb2⟩:=ob hb2
       refine s_do (o_call (w_spec_l08Set _ _ er100) rfl (.refl _) rfl)<|s_q (.bool (!r_99)) rfl trivial rfl<|s_mov (.bool (!r_99)) rfl<|?_
       rcases oi hb2 with ⟨c101,hb2⟩ | ⟨c101,hb2⟩
       ·refine s_lit (s:=36) (b:=true) rfl c101<|s_off rfl rfl<|s_off rfl rfl<|s_off rfl rfl<|s_off rfl rfl<|s_off rfl rfl<|s_off rfl rfl<|s_off rfl rfl<|s_q (.bool true) rfl trivial rfl<|w_done<|?_;obtain rfl:=os hb2;exact ⟨[],[0,1,2],_,_,rfl,rfl,⟨.refl _,⟨.refl _,⟨.refl _,⟨.refl _,⟨.refl _,⟨.refl _,trivial⟩⟩⟩⟩⟩⟩,(.refl _)⟩
       ·refine s_lit (s:=36) (b:=false) rfl (bf c101)<|s_on rfl<|s_mov (.lst 3 (list_3.map encGSet)) rfl<|s_on rfl<|s_mov (.int .i64 (i_60:Int)) rfl<|s_on rfl<|s_do (o_iaddrn (enc:=encGSet) rfl rfl hx85)<|s_on rfl<|s_q (.iptr (encGSet x_90) 2) rfl trivial rfl<|s_on rfl<|s_q (.lst 1 (x_90.Names.map AV.str)) rfl nle rfl<|s_on rfl<|s_dof (o_len (enc:=AV.str) rfl) fun hl102 => s_on rfl<|s_q (.bool (decide ((x_90.Names.length:Int) > 0))) rfl rfl rfl<|s_q (.bool (decide ((x_90.Names.length:Int) > 0))) rfl trivial rfl<|w_done<|?_;obtain rfl:=os hb2;exact ⟨[],[0,1,2],_,_,rfl,rfl,⟨.refl _,⟨.refl _,⟨.refl _,⟨.refl _,⟨.refl _,⟨.refl _,trivial⟩⟩⟩⟩⟩⟩,(.refl _)⟩
      ·rcases oi hc1 with ⟨c103,hc1⟩ | ⟨c103,hc1⟩
       ·refine w_condt rfl c103<|sr<|s_q (.agg [(.int .i64 0),.nil]) rfl trivial rfl<|s_do0 (o_storebox (v:=(.agg [(.int .i64 0),.nil])) (y':=(.agg [(.int .i64 0),.nil])) rfl rfl rfl trivial ⟨rfl,nle⟩ ⟨⟨rfl,trivial⟩,⟨⟨rfl,trivial⟩,trivial⟩⟩ rfl)<|s_mov (.int .i64 1) rfl<|dk<|w_ret<|?_;obtain rfl:=os hc1;obtain rfl:=os hf;exact r_fresh ⟨nle,⟨trivial,trivial⟩⟩ rfl (by decide) (.tup (.cons (.agg (.cons (.refl _) (.cons (.nil _) .nil))) (.cons (.refl _) .nil)))
       ·refine w_condf rfl (bf c103)<|w_skip<|k_blk<|k_seq<|w_reg<|s_mov (.int .i64 (i_60:Int)) rfl<|s_q (.int .i64 (w64 ((i_60:Int) + 1))) rfl rfl rfl<|s_mov (.int .i64 (w64 ((i_60:Int) + 1))) rfl<|w_done<|?_;exact k_loopn ⟨(i_60 + 1),hc1⟩ (mul hlt84) ⟨[],[0,1,2],_,_,rfl,rfl,⟨.refl _,⟨.refl _,⟨.refl _,⟨.refl _,⟨.of_eq (congrArg (AV.int _) (w64_incr hlt84 hl92)),trivial⟩⟩⟩⟩⟩,(.refl _)⟩
    ·rintro ⟨_,rfl⟩
     refine awp_seq<|sr<|?_
     obtain ⟨r_104,er105,hf⟩:=ob hf
     refine s_q (.agg [(.str t_1.Name),(.lst 8 (t_1.Columns.map encGColumn)),(.lst 1 (t_1.Unique.map encI)),(.bool t_1.Root)]) rfl nle rfl<|s_mov (.lst 3 (list_3.map encGSet)) rfl<|s_do (o_call (w_spec_l08Sets _ _ _ er105) rfl (.refl _) rfl)<|s_mov (.int .i64 r_104) rfl<|dk<|sr<|s_mov (.int .i64 r_104) rfl<|s_q (.bool (r_104 != 0)) rfl rfl rfl<|dk<|?_
     rcases oi hf with ⟨c106,hf⟩ | ⟨c106,hf⟩
     ·refine w_condt rfl c106<|sr<|s_q (.agg [(.int .i64 0),.nil]) rfl trivial rfl<|s_mov (.int .i64 r_104) rfl<|s_do0 (o_storebox (v:=(.agg [(.int .i64 0),.nil])) (y':=(.agg [(.int .i64 0),.nil])) rfl rfl rfl trivial ⟨rfl,nle⟩ ⟨⟨rfl,trivial⟩,⟨⟨rfl,trivial⟩,trivial⟩⟩ rfl)<|s_mov (.int .i64 r_104) rfl<|dk<|w_ret<|?_;obtain rfl:=os hf;exact r_fresh ⟨nle,⟨trivial,trivial⟩⟩ rfl (by decide) (.tup (.cons (.agg (.cons (.refl _) (.cons (.nil _) .nil))) (.cons (.refl _) .nil)))
     ·refine w_condf rfl (bf c106)<|w_skip<|k_seq<|sr<|?_
      obtain ⟨r_107,er108,hf⟩:=ob hf
      refine s_q (.agg [(.str t_1.Name),(.lst 8 (t_1.Columns.map encGColumn)),(.lst 1 (t_1.Unique.map encI)),(.bool t_1.Root)]) rfl nle rfl<|s_q (.agg [(.int .i64 r_2.Id),(.lst 1 (r_2.Cells.map (encL 3 encGAtom)))]) rfl nle rfl<|s_mov (.lst 3 (list_3.map encGSet)) rfl<|s_do (o_callf (v:=(.tup [(.agg [(.int .i64 r_107.1.Id),(.own 3 0 r_107.1.Cells.length)]),(.int .i64 r_107.2)])) (h':=[.row 1 (r_107.1.Cells.map (encL 3 encGAtom))]) (w_spec_l08SetRow _ _ _ _ er108) rfl (.refl _) (by simp only [openV,openVs,List.length_map,encGRow_eq,List.nil_append,List.append_nil,List.cons_append];rfl))<|s_q (.agg [(.int .i64 r_107.1.Id),(.own 3 0 r_107.1.Cells.length)]) rfl nle rfl<|s_q (.int .i64 r_107.2) rfl nle rfl<|?_
      refine s_do0 (o_storebox (v:=(.agg [(.int .i64 r_107.1.Id),(.own 3 0 r_107.1.Cells.length)])) (y':=(.agg [(.int .i64 r_107.1.Id),(.own 3 0 r_107.1.Cells.length)])) rfl rfl rfl trivial ⟨rfl,nle⟩ ⟨⟨rfl,trivial⟩,⟨⟨rfl,trivial⟩,trivial⟩⟩ rfl)<|s_mov (.int .i64 r_107.2) rfl<|dk<|w_ret<|?_;obtain rfl:=os hf;exact r_fresh ⟨nle,⟨trivial,trivial⟩⟩ rfl (by decide) (.tup (.cons (.agg (.cons (.refl _) (.cons (.of_eq (congrArg (AV.lst _) (tk (enc:=(encL 3 encGAtom)) r_107.1.Cells))) .nil))) (.cons (.refl _) .nil)))

/- laws.sameDatum -/
def c10:ACode :=
 (.seq (.reg (tm 4 (.c (.bool false)) .done))
 (.seq (.seq (.reg (tm 6 (.t 0) (tq 7 (.len (.t 6)) (tm 8 (.t 1) (tq 9 (.len (.t 8)) (tq 10 (.bin .neq (.t 7) (.t 9)) .done))))))
 (.cond (.t 10) (.seq (.reg (tm 4 (.c (.bool false)) .done))
 .ret)
 .skip))
 (.seq (.seq (.reg (tm 5 (.c (.int .i64 0)) .done))
 (.block 0 (.loop (.seq (.seq (.reg (tm 11 (.t 5) (tm 12 (.t 0) (tq 13 (.len (.t 12)) (tq 14 (.bin .lss (.t 11) (.t 13)) .done)))))
 (.cond (.t 14) .skip
 (.exit 0)))
 (.seq (.block 1 (.seq (.reg (tm 17 (.t 0) (tm 18 (.t 5) (tq 19 (.iaddr 3 (.t 17) (.t 18)) (tq 20 (.load 3 true (.t 19)) (tm 21 (.t 1) (tm 22 (.t 5) (tq 23 (.iaddr 3 (.t 21) (.t 22)) (tq 24 (.load 3 true (.t 23)) (tq 25 (.eqs true [0,0,2] (.t 20) (.t 24)) .done))))))))))
 (.cond (.t 25) (.seq (.reg (tm 4 (.c (.bool false)) .done))
 .ret)
 .skip)))
 (.reg (tm 15 (.t 5) (tq 16 (.bin .add (.t 15) (.c (.int .i64 1))) (tm 5 (.t 16) .done)))))))))
 (.cut (.seq (.reg (tm 4 (.c (.bool true)) .done))
 .ret)))))
theorem fc10:fcomp Try.prog Try.f10 = some (c10.erase,[.mov (.t 4)],26):=by kernel_rfl
def laws_sameDatum_L1 (b_2:(List GAtom)):List GAtom → Nat → Option (Fl Bool Unit)
  | [],i_21 =>
    some (.go ())
  | x_37 :: xs,i_21 =>
    (idx b_2 (i_21:Int)).bind fun x_40 =>
    if (!(x_37.Kind == x_40.Kind && (x_37.N == x_40.N && (x_37.T == x_40.T && true)))) then
    some (.ret false)
    else
    laws_sameDatum_L1 b_2 xs (i_21 + 1)

def laws_sameDatum (a_1:(List GAtom)) (b_2:(List GAtom)):Option Bool :=
    if ((a_1.length:Int) != (b_2.length:Int)) then
    some false
    else
    (laws_sameDatum_L1 b_2 a_1 0).bind fun q => (match q with
    | .ret r => some r
    | .go _ =>
    some true)
theorem w_laws_sameDatum (a_1:(List GAtom)) (b_2:(List GAtom)) (r:Bool) (hf:laws_sameDatum a_1 b_2 = some r):CallOK Try.prog 10 .flat [(.lst 3 (a_1.map encGAtom)),(.lst 3 (b_2.map encGAtom))] (.bool r):=by
 refine CallOK.of_awp mixed Try.func10 fc10 nle ?_;rw [argT_eq];unfold laws_sameDatum at hf;unfold c10;refine (show awp Try.prog false 0 _ (ofL [(0,(.lst 3 (a_1.map encGAtom))),(1,(.lst 3 (b_2.map encGAtom)))]) [] _ from ?_);refine sr<|s_mov (.bool false) rfl<|dk<|awp_seq<|sr<|s_mov (.lst 3 (a_1.map encGAtom)) rfl<|s_dof (o_len (enc:=encGAtom) rfl) fun hl3 => s_mov (.lst 3 (b_2.map encGAtom)) rfl<|s_dof (o_len (enc:=encGAtom) rfl) fun hl4 => s_q (.bool ((a_1.length:Int) != (b_2.length:Int))) rfl rfl rfl<|dk<|?_
 rcases oi hf with ⟨c5,hf⟩ | ⟨c5,hf⟩
 ·refine w_condt rfl c5<|sr<|s_mov (.bool false) rfl<|dk<|w_ret<|?_;obtain rfl:=os hf;exact r_flat ⟨trivial,trivial⟩ rfl (.refl _)
 ·refine w_condf rfl (bf c5)<|w_skip<|k_seq<|awp_seq<|sr<|s_mov (.int .i64 0) rfl<|dk<|?_
  obtain ⟨p30,hb1,hf⟩:=ob hf
  refine awp_cutx (X:={q:Unit // p30 = .go q}) (fun q => ([],[])) ?_ ?_
  ·refine awp_loop (X:={q:Nat // laws_sameDatum_L1 b_2 (a_1.drop q) q = some p30}) (fun q => ([(0,(.lst 3 (a_1.map encGAtom))),(1,(.lst 3 (b_2.map encGAtom))),(5,(.int .i64 (q.1:Int)))],[])) (fun q => a_1.length - q.1) ⟨0,hb1⟩ ⟨[],[],_,_,rfl,rfl,⟨.refl _,⟨.refl _,⟨.refl _,trivial⟩⟩⟩,(.refl _)⟩ ?_
   rintro ⟨i_21,hc1⟩
   have hc1:laws_sameDatum_L1 b_2 (a_1.drop i_21) i_21 = some p30:=hc1
   refine (show awp Try.prog false 0 _ (ofL [(0,(.lst 3 (a_1.map encGAtom))),(1,(.lst 3 (b_2.map encGAtom))),(5,(.int .i64 (i_21:Int)))]) [] _ from ?_)
   rcases dropc a_1 i_21 with ⟨hie33,hd36⟩ | ⟨hlt31,x_37,hx32,hd36⟩
   ·rw [hd36,laws_sameDatum_L1.eq_1] at hc1
    have hq35:=dlf hie33
    refine awp_seq<|sr<|s_mov (.int .i64 (i_21:Int)) rfl<|s_mov (.lst 3 (a_1.map encGAtom)) rfl<|s_dof (o_len (enc:=encGAtom) rfl) fun hl38 => s_q (.bool (decide ((i_21:Int) < (a_1.length:Int)))) rfl rfl rfl<|dk<|w_condf rfl hq35<|w_exit<|k_seqx<|k_loopx<|k_blkx<|?_;obtain rfl:=os hc1;exact k_cutn ⟨_,rfl⟩ ⟨[],[],_,_,rfl,rfl,trivial,(.refl _)⟩
   ·rw [hd36,laws_sameDatum_L1.eq_2] at hc1
    have hq35:=dlt hlt31
    refine awp_seq<|sr<|s_mov (.int .i64 (i_21:Int)) rfl<|s_mov (.lst 3 (a_1.map encGAtom)) rfl<|s_dof (o_len (enc:=encGAtom) rfl) fun hl39 => s_q (.bool (decide ((i_21:Int) < (a_1.length:Int)))) rfl rfl rfl<|dk<|w_condt rfl hq35<|w_skip<|k_seq<|awp_seq<|w_blk<|sr<|?_
    obtain ⟨x_40,ex41,hc1⟩:=ob hc1
    refine s_mov (.lst 3 (a_1.map encGAtom)) rfl<|s_mov (.int .i64 (i_21:Int)) rfl<|s_do (o_iaddrn (enc:=encGAtom) rfl rfl hx32)<|s_q (encGAtom x_37) rfl nle rfl<|s_mov (.lst 3 (b_2.map encGAtom)) rfl<|s_mov (.int .i64 (i_21:Int)) rfl<|s_do (o_iaddr (enc:=encGAtom) rfl rfl (idx0 ex41) (idx1 ex41))<|s_q (encGAtom x_40) rfl nle rfl<|s_q (.bool (!(x_37.Kind == x_40.Kind && (x_37.N == x_40.N && (x_37.T == x_40.T && true))))) rfl ⟨⟨rfl,rfl⟩,⟨⟨rfl,rfl⟩,⟨rfl,trivial⟩⟩⟩ rfl<|dk<|?_
    rcases oi hc1 with ⟨c42,hc1⟩ | ⟨c42,hc1⟩
    ·refine w_condt rfl c42<|sr<|s_mov (.bool false) rfl<|dk<|w_ret<|?_;obtain rfl:=os hc1;obtain rfl:=os hf;exact r_flat ⟨trivial,trivial⟩ rfl (.refl _)
    ·refine w_condf rfl (bf c42)<|w_skip<|k_blk<|k_seq<|w_reg<|s_mov (.int .i64 (i_21:Int)) rfl<|s_q (.int .i64 (w64 ((i_21:Int) + 1))) rfl rfl rfl<|s_mov (.int .i64 (w64 ((i_21:Int) + 1))) rfl<|w_done<|?_;exact k_loopn ⟨(i_21 + 1),hc1⟩ (mul hlt31) ⟨[],[],_,_,rfl,rfl,⟨.refl _,⟨.refl _,⟨.of_eq (congrArg (AV.int _) (w64_incr hlt31 hl39)),trivial⟩⟩⟩,(.refl _)⟩
  ·rintro ⟨_,rfl⟩
   refine sr<|s_mov (.bool true) rfl<|dk<|w_ret<|?_;obtain rfl:=os hf;exact r_flat ⟨trivial,trivial⟩ rfl (.refl _)

/- laws.sameRow -/
def c19:ACode :=
 (.seq (.reg (tq 2 (.box 2 (.t 0)) (tq 3 (.box 2 (.t 1)) (tm 4 (.c (.bool false)) .done))))
 (.seq (.seq (.reg (tq 6 (.faddr 0 (.t 2)) (tq 7 (.load 1 false (.t 6)) (tq 8 (.faddr 0 (.t 3)) (tq 9 (.load 1 false (.t 8)) (tq 10 (.bin .neq (.t 7) (.t 9)) (tm 11 (.t 10) (tg 12 11 false (.faddr 1 (.t 2)) (tg 13 11 false (.load 1 false (.t 12)) (tg 14 11 false (.len (.t 13)) (tg 15 11 false (.faddr 1 (.t 3)) (tg 16 11 false (.load 1 false (.t 15)) (tg 17 11 false (.len (.t 16)) (tg 18 11 false (.bin .neq (.t 14) (.t 17)) (tq 19 (.pick (.t 11) (.c (.bool true)) (.t 18)) .done)))))))))))))))
 (.cut (.cond (.t 19) (.seq (.reg (tm 4 (.c (.bool false)) .done))
 .ret)
 .skip)))
 (.seq (.seq (.reg (tm 5 (.c (.int .i64 0)) .done))
 (.block 0 (.loop (.seq (.seq (.reg (tm 20 (.t 5) (tq 21 (.faddr 1 (.t 2)) (tq 22 (.load 1 false (.t 21)) (tq 23 (.len (.t 22)) (tq 24 (.bin .lss (.t 20) (.t 23)) .done))))))
 (.cond (.t 24) .skip
 (.exit 0)))
 (.seq (.block 1 (.seq (.reg (tq 27 (.faddr 1 (.t 2)) (tq 28 (.load 1 false (.t 27)) (tm 29 (.t 5) (tq 30 (.iaddr 1 (.t 28) (.t 29)) (tq 31 (.load 1 false (.t 30)) (tq 32 (.faddr 1 (.t 3)) (tq 33 (.load 1 false (.t 32)) (tm 34 (.t 5) (tq 35 (.iaddr 1 (.t 33) (.t 34)) (tq 36 (.load 1 false (.t 35)) (.l ⟨(some 37),none,.call 10 [(.t 31),(.t 36)]⟩ []
 (tq 38 (.not (.t 37)) .done) .non))))))))))))
 (.cond (.t 38) (.seq (.reg (tm 4 (.c (.bool false)) .done))
 .ret)
 .skip)))
 (.reg (tm 25 (.t 5) (tq 26 (.bin .add (.t 25) (.c (.int .i64 1))) (tm 5 (.t 26) .done)))))))))
 (.cut (.seq (.reg (tm 4 (.c (.bool true)) .done))
 .ret)))))
theorem fc19:fcomp Try.prog Try.f19 = some (c19.erase,[.mov (.t 4)],39):=by kernel_rfl
def laws_sameRow_L1 (b_2:GRow):List (List GAtom) → Nat → Option (Fl Bool Unit)
  | [],i_28 =>
    some (.go ())
  | x_46 :: xs,i_28 =>
    (idx b_2.Cells (i_28:Int)).bind fun x_49 =>
    (laws_sameDatum x_46 x_49).bind fun r_51 =>
    if (!r_51) then
    some (.ret false)
    else
    laws_sameRow_L1 b_2 xs (i_28 + 1)

def laws_sameRow (a_1:GRow) (b_2:GRow):Option Bool :=
    ((some ():Option Unit)).bind fun _ =>
    if (bif (a_1.Id != b_2.Id) then true else ((a_1.Cells.length:Int) != (b_2.Cells.length:Int))) then
    some false
    else
    (laws_sameRow_L1 b_2 a_1.Cells 0).bind fun q => (match q with
    | .ret r => some r
    | .go _ =>
    some true)
theorem w_laws_sameRow (a_1:GRow) (b_2:GRow) (r:Bool) (hf:laws_sameRow a_1 b_2 = some r):CallOK Try.prog 19 .flat [(encGRow a_1),(encGRow b_2)] (.bool r):=by
 refine CallOK.of_awp mixed Try.func19 fc19 nle ?_;rw [argT_eq];unfold laws_sameRow at hf;unfold c19;refine (show awp Try.prog false 0 _ (ofL [(0,(encGRow a_1)),(1,(encGRow b_2))]) [] _ from ?_);refine sr<|s_do (o_box (j:=0) (c:=(.agg [(.int .i64 a_1.Id),(.lst 1 (a_1.Cells.map (encL 3 encGAtom)))])) rfl trivial rfl rfl)<|s_do (o_box (j:=1) (c:=(.agg [(.int .i64 b_2.Id),(.lst 1 (b_2.Cells.map (encL 3 encGAtom)))])) rfl trivial rfl rfl)<|s_mov (.bool false) rfl<|dk<|awp_seq<|awp_seq<|?_
 obtain ⟨p5,hb1,hf⟩:=ob hf
 refine awp_cut ([(2,(.ptr 0 0 0)),(3,(.ptr 1 0 0)),(19,(.bool (bif (a_1.Id != b_2.Id) then true else ((a_1.Cells.length:Int) != (b_2.Cells.length:Int)))))],[.box 2 (.agg [(.int .i64 a_1.Id),(.lst 1 (a_1.Cells.map (encL 3 encGAtom)))]),.box 2 (.agg [(.int .i64 b_2.Id),(.lst 1 (b_2.Cells.map (encL 3 encGAtom)))])]) ?_ ?_
 ·refine w_reg<|s_q (.ptr 0 0 0) rfl trivial rfl<|s_q (.int .i64 a_1.Id) rfl nle rfl<|s_q (.ptr 1 0 0) rfl trivial rfl<|s_q (.int .i64 b_2.Id) rfl nle rfl<|s_q (.bool (a_1.Id != b_2.Id)) rfl rfl rfl<|s_mov (.bool (a_1.Id != b_2.Id)) rfl<|?_;refine s_g (v:=(a_1.Id != b_2.Id)) (.ptr 0 0 1) rfl (fun hv => by (try simp only [gs_on hv]);exact ⟨rfl,trivial,rfl⟩) ?_;refine s_g (v:=(a_1.Id != b_2.Id)) (.lst 1 (a_1.Cells.map (encL 3 encGAtom))) rfl (fun hv => by (try simp only [gs_on hv]);exact ⟨rfl,nle,rfl⟩) ?_;refine s_g (v:=(a_1.Id != b_2.Id)) (.int .i64 (a_1.Cells.length:Int)) rfl (fun hv => by (try simp only [gs_on hv]);exact ⟨rfl,trivial,lenV _ _⟩) ?_;refine s_g (v:=(a_1.Id != b_2.Id)) (.ptr 1 0 1) rfl (fun hv => by (try simp only [gs_on hv]);exact ⟨rfl,trivial,rfl⟩) ?_
  refine s_g (v:=(a_1.Id != b_2.Id)) (.lst 1 (b_2.Cells.map (encL 3 encGAtom))) rfl (fun hv => by (try simp only [gs_on hv]);exact ⟨rfl,nle,rfl⟩) ?_;refine s_g (v:=(a_1.Id != b_2.Id)) (.int .i64 (b_2.Cells.length:Int)) rfl (fun hv => by (try simp only [gs_on hv]);exact ⟨rfl,trivial,lenV _ _⟩) ?_;refine s_g (v:=(a_1.Id != b_2.Id)) (.bool ((a_1.Cells.length:Int) != (b_2.Cells.length:Int))) rfl (fun hv => by (try simp only [gs_on hv]);exact ⟨rfl,rfl,rfl⟩) ?_;refine s_pick (x:=true) (y:=((a_1.Cells.length:Int) != (b_2.Cells.length:Int))) rfl (fun hv => by (try simp only [gs_on hv]);rfl) (fun hv => by (try simp only [gs_on hv]);rfl) ?_;refine w_done ?_;obtain rfl:=os hb1;exact ⟨[],[0,1],_,_,rfl,rfl,⟨.refl _,⟨.refl _,⟨.refl _,trivial⟩⟩⟩,(.refl _)⟩
 ·rcases oi hf with ⟨c8,hf⟩ | ⟨c8,hf⟩
  ·refine w_condt rfl c8<|sr<|s_mov (.bool false) rfl<|dk<|w_ret<|?_;obtain rfl:=os hf;exact r_flat ⟨trivial,trivial⟩ rfl (.refl _)
  ·refine w_condf rfl (bf c8)<|w_skip<|k_seq<|awp_seq<|sr<|s_mov (.int .i64 0) rfl<|dk<|?_
   obtain ⟨p39,hb1,hf⟩:=ob hf
   refine awp_cutx (X:={q:Unit // p39 = .go q}) (fun q => ([],[])) ?_ ?_
   ·refine awp_loop (X:={q:Nat // laws_sameRow_L1 b_2 (a_1.Cells.drop q) q = some p39}) (fun q => ([(2,(.ptr 0 0 0)),(3,(.ptr 1 0 0)),(5,(.int .i64 (q.1:Int)))],[.box 2 (.agg [(.int .i64 a_1.Id),(.lst 1 (a_1.Cells.map (encL 3 encGAtom)))]),.box 2 (.agg [(.int .i64 b_2.Id),(.lst 1 (b_2.Cells.map (encL 3 encGAtom)))])])) (fun q => a_1.Cells.length - q.1) ⟨0,hb1⟩ ⟨[],[0,1],_,_,rfl,rfl,⟨.refl _,⟨.refl _,⟨.refl _,trivial⟩⟩⟩,(.refl _)⟩ ?_
    rintro ⟨i_28,hc1⟩
    have hc1:laws_sameRow_L1 b_2 (a_1.Cells.drop i_28) i_28 = some p39:=hc1
    refine (show awp Try.prog false 0 _ (ofL [(2,(.ptr 0 0 0)),(3,(.ptr 1 0 0)),(5,(.int .i64 (i_28:Int)))]) [.box 2 (.agg [(.int .i64 a_1.Id),(.lst 1 (a_1.Cells.map (encL 3 encGAtom)))]),.box 2 (.agg [(.int .i64 b_2.Id),(.lst 1 (b_2.Cells.map (encL 3 encGAtom)))])] _ from ?_)
    rcases dropc a_1.Cells i_28 with ⟨hie42,hd45⟩ | ⟨hlt40,x_46,hx41,hd45⟩
    ·rw [hd45,laws_sameRow_L1.eq_1] at hc1
     have hq44:=dlf hie42
     refine awp_seq<|sr<|s_mov (.int .i64 (i_28:Int)) rfl<|s_q (.ptr 0 0 1) rfl trivial rfl<|s_q (.lst 1 (a_1.Cells.map (encL 3 encGAtom))) rfl nle rfl<|s_dof (o_len (enc:=(encL 3 encGAtom)) rfl) fun hl47 => s_q (.bool (decide ((i_28:Int) < (a_1.Cells.length:Int)))) rfl rfl rfl<|dk<|w_condf rfl hq44<|w_exit<|k_seqx<|k_loopx<|k_blkx<|?_;obtain rfl:=os hc1;exact k_cutn ⟨_,rfl⟩ ⟨[],[],_,_,rfl,rfl,trivial,(.refl _)⟩
    ·rw [hd45,laws_sameRow_L1.eq_2] at hc1
     have hq44:=dlt hlt40
     refine awp_seq<|sr<|s_mov (.int .i64 (i_28:Int)) rfl<|s_q (.ptr 0 0 1) rfl trivial rfl<|s_q (.lst 1 (a_1.Cells.map (encL 3 encGAtom))) rfl nle rfl<|s_dof (o_len (enc:=(encL 3 encGAtom)) rfl) fun hl48 => s_q (.bool (decide ((i_28:Int) < (a_1.Cells.length:Int)))) rfl rfl rfl<|dk<|w_condt rfl hq44<|w_skip<|k_seq<|awp_seq<|w_blk<|sr<|?_
     obtain ⟨x_49,ex50,hc1⟩:=ob hc1
     obtain ⟨r_51,er52,hc1⟩:=ob hc1
     refine s_q (.ptr 0 0 1) rfl trivial rfl<|s_q (.lst 1 (a_1.Cells.map (encL 3 encGAtom))) rfl nle rfl<|s_mov (.int .i64 (i_28:Int)) rfl<|s_do (o_iaddrn (enc:=(encL 3 encGAtom)) rfl rfl hx41)<|s_q (.lst 3 (x_46.map encGAtom)) rfl ⟨rfl,rfl⟩ rfl<|s_q (.ptr 1 0 1) rfl trivial rfl<|s_q (.lst 1 (b_2.Cells.map (encL 3 encGAtom))) rfl nle rfl<|s_mov (.int .i64 (i_28:Int)) rfl<|s_do (o_iaddr (enc:=(encL 3 encGAtom)) rfl rfl (idx0 ex50) (idx1 ex50))<|s_q (.lst 3 (x_49.map encGAtom)) rfl ⟨rfl,rfl⟩ rfl<|s_dol (o_call (w_laws_sameDatum _ _ _ er52) rfl (.refl _) rfl) a_same trivial<|s_q (.bool (!r_51)) rfl trivial rfl<|dk<|?_
     rcases oi hc1 with ⟨c53,hc1⟩ | ⟨c53,hc1⟩
     ·refine w_condt rfl c53<|sr<|s_mov (.bool false) rfl<|dk<|w_ret<|?_;obtain rfl:=os hc1;obtain rfl:=os hf;exact r_flat ⟨trivial,trivial⟩ rfl (.refl _)
     ·refine w_condf rfl (bf c53)<|w_skip<|k_blk<|k_seq<|w_reg<|s_mov (.int .i64 (i_28:Int)) rfl<|s_q (.int .i64 (w64 ((i_28:Int) + 1))) rfl rfl rfl<|s_mov (.int .i64 (w64 ((i_28:Int) + 1))) rfl<|w_done<|?_;exact k_loopn ⟨(i_28 + 1),hc1⟩ (mul hlt40) ⟨[],[0,1],_,_,rfl,rfl,⟨.refl _,⟨.refl _,⟨.of_eq (congrArg (AV.int _) (w64_incr hlt40 hl48)),trivial⟩⟩⟩,(.refl _)⟩
   ·rintro ⟨_,rfl⟩
    refine sr<|s_mov (.bool true) rfl<|dk<|w_ret<|?_;obtain rfl:=os hf;exact r_flat ⟨trivial,trivial⟩ rfl (.refl _)

/- impl.isList[string] -/
def c50:ACode :=
 (.seq (.reg (tm 2 (.c (.bool false)) .done))
 (.seq (.reg (tm 3 (.t 0) (tq 4 (.len (.t 3)) (tq 5 (.bin .leq (.t 4) (.c (.int .i64 4096))) (tm 2 (.t 5) .done)))))
 .ret))
theorem fc50:fcomp Try.prog Try.f50 = some (c50.erase,[.mov (.t 2)],6):=by kernel_rfl
def impl_isList_string (list_1:(List Str)):Option Bool :=
    some (decide ((list_1.length:Int) ≤ 4096))
theorem w_impl_isList_string (list_1:(List Str)) (r:Bool) (hf:impl_isList_string list_1 = some r):CallOK Try.prog 50 .flat [(.lst 1 (list_1.map AV.str))] (.bool r):=by
  refine CallOK.of_awp mixed Try.func50 fc50 nle ?_
  rw [argT_eq]
  unfold impl_isList_string at hf
  unfold c50
  refine (show awp Try.prog false 0 _ (ofL [(0,(.lst 1 (list_1.map AV.str)))]) [] _ from ?_)
  refine awp_seq ?_
  refine w_reg ?_
  refine s_do (o_mov (.bool false) rfl) ?_
  refine w_done ?_
  refine k_seq ?_
  refine awp_seq ?_
  refine w_reg ?_
  refine s_do (o_mov (.lst 1 (list_1.map AV.str)) rfl) ?_
  refine s_dof (o_len (enc:=AV.str) rfl) fun hl2 => ?_
  refine s_do (o_q (.bool (decide ((list_1.length:Int) ≤ 4096))) rfl rfl rfl) ?_
  refine s_do (o_mov (.bool (decide ((list_1.length:Int) ≤ 4096))) rfl) ?_
  refine w_done ?_
  refine k_seq ?_
  refine w_ret ?_
  obtain rfl:=os hf
  exact r_flat ⟨trivial,trivial⟩ rfl (.refl _)

/- (impl.Table).named -/
def c91:ACode :=
 (.seq (.reg (tq 2 (.box 4 (.t 0)) (tq 4 (.box 8 (.c (.agg [(.str []),(.int .i64 0),(.int .i64 0),(.int .i64 0),(.int .i64 0),(.int .i64 0),(.str []),(.bool false)]))) (tm 5 (.c (.bool false)) .done))))
 (.seq (.reg (tq 7 (.load 4 true (.t 2)) (tm 8 (.t 1) (tq 9 (.call 75 [(.t 7),(.t 8)]) (tm 6 (.t 9) .done)))))
 (.seq (.block 0 (.seq (.reg (tm 11 (.t 6) (tq 12 (.bin .geq (.t 11) (.c (.int .i64 0))) (tm 10 (.t 12) .done))))
 (.cond (.t 10) (.seq (.reg (tq 13 (.faddr 1 (.t 2)) (tq 14 (.load 1 false (.t 13)) (tm 15 (.t 6) (tq 16 (.iaddr 8 (.t 14) (.t 15)) (tq 17 (.load 8 true (.t 16)) (.q ⟨none,none,.store 8 (.t 4) (.t 17)⟩
 (tm 5 (.c (.bool true)) .done))))))))
 .ret)
 (.seq (.reg (tm 19 (.t 1) (tq 20 (.bin .eql (.t 19) (.c (.str [95,117,117,105,100]))) (tm 18 (.t 20) .done))))
 (.cond (.t 18) (.seq (.reg (tq 21 (.build [(.str []),(.int .i64 0),(.int .i64 0),(.int .i64 0),(.int .i64 0),(.int .i64 0),(.str []),(.bool false)] [(0,1,(.c (.str [95,117,117,105,100]))),(1,1,(.c (.int .i64 4))),(3,1,(.c (.int .i64 1)))]) (.q ⟨none,none,.store 8 (.t 4) (.t 21)⟩
 (tm 5 (.c (.bool true)) .done))))
 .ret)
 .skip)))))
 (.seq (.reg (tq 22 (.build [(.str []),(.int .i64 0),(.int .i64 0),(.int .i64 0),(.int .i64 0),(.int .i64 0),(.str []),(.bool false)] []) (.q ⟨none,none,.store 8 (.t 4) (.t 22)⟩
 (tm 5 (.c (.bool false)) .done))))
 .ret))))
theorem fc91:fcomp Try.prog Try.f91 = some (c91.erase,[.load 8 true (.t 4),.mov (.t 5)],23):=by kernel_rfl
def impl_Table_named (t_1:GTable) (name_2:Str):Option (GColumn × Bool) :=
    (impl_Table_columnAt t_1 name_2).bind fun r_3 =>
    if (decide (r_3 ≥ 0)) then
    (idx t_1.Columns r_3).bind fun x_6 =>
    some (x_6,true)
    else
    if (name_2 == [95,117,117,105,100]) then
    some ((⟨[95,117,117,105,100],4,0,1,0,0,[],false⟩:GColumn),true)
    else
    some ((⟨[],0,0,0,0,0,[],false⟩:GColumn),false)
theorem w_impl_Table_named (t_1:GTable) (name_2:Str) (r:(GColumn × Bool)) (hf:impl_Table_named t_1 name_2 = some r):CallOK Try.prog 91 .flat [(encGTable t_1),(.str name_2)] (.tup [(encGColumn r.1),(.bool r.2)]):=by
 refine CallOK.of_awp mixed Try.func91 fc91 nle ?_;rw [argT_eq];unfold impl_Table_named at hf;unfold c91;refine (show awp Try.prog false 0 _ (ofL [(0,(encGTable t_1)),(1,(.str name_2))]) [] _ from ?_);refine sr<|s_do (o_box (j:=0) (c:=(.agg [(.str t_1.Name),(.lst 8 (t_1.Columns.map encGColumn)),(.lst 1 (t_1.Unique.map encI)),(.bool t_1.Root)])) rfl trivial rfl rfl)<|s_do (o_box (j:=1) (c:=(.agg [(.str []),(.int .i64 0),(.int .i64 0),(.int .i64 0),(.int .i64 0),(.int .i64 0),(.str []),(.bool false)])) rfl trivial rfl rfl)<|s_mov (.bool false) rfl<|dk<|sr<|?_
 obtain ⟨r_3,er4,hf⟩:=ob hf
 refine s_q (.agg [(.str t_1.Name),(.lst 8 (t_1.Columns.map encGColumn)),(.lst 1 (t_1.Unique.map encI)),(.bool t_1.Root)]) rfl nle rfl<|s_mov (.str name_2) rfl<|s_do (o_call (w_impl_Table_columnAt _ _ _ er4) rfl (.refl _) rfl)<|s_mov (.int .i64 r_3) rfl<|dk<|awp_seq<|w_blk<|sr<|s_mov (.int .i64 r_3) rfl<|s_q (.bool (decide (r_3 ≥ 0))) rfl rfl rfl<|s_mov (.bool (decide (r_3 ≥ 0))) rfl<|dk<|?_
 rcases oi hf with ⟨c5,hf⟩ | ⟨c5,hf⟩
 ·refine w_condt rfl c5<|sr<|?_
  obtain ⟨x_6,ex7,hf⟩:=ob hf
  refine s_q (.ptr 0 0 1) rfl trivial rfl<|s_q (.lst 8 (t_1.Columns.map encGColumn)) rfl nle rfl<|s_mov (.int .i64 r_3) rfl<|s_do (o_iaddr (enc:=encGColumn) rfl rfl (idx0 ex7) (idx1 ex7))<|s_q (encGColumn x_6) rfl nle rfl<|s_do0 (o_storebox (v:=(.agg [(.str x_6.Name),(.int .i64 x_6.Kind),(.int .i64 x_6.Min),(.int .i64 x_6.Max),(.int .i64 x_6.Low),(.int .i64 x_6.High),(.str x_6.Ref),(.bool x_6.Strong)])) (y':=(.agg [(.str x_6.Name),(.int .i64 x_6.Kind),(.int .i64 x_6.Min),(.int .i64 x_6.Max),(.int .i64 x_6.Low),(.int .i64 x_6.High),(.str x_6.Ref),(.bool x_6.Strong)])) rfl rfl rfl trivial ⟨rfl,nle⟩ ⟨⟨rfl,trivial⟩,⟨⟨rfl,trivial⟩,⟨⟨rfl,trivial⟩,⟨⟨rfl,trivial⟩,⟨⟨rfl,trivial⟩,⟨⟨rfl,trivial⟩,⟨⟨rfl,trivial⟩,⟨⟨rfl,trivial⟩,trivial⟩⟩⟩⟩⟩⟩⟩⟩ rfl)<|?_
  refine s_mov (.bool true) rfl<|dk<|w_ret<|?_;obtain rfl:=os hf;exact r_flat ⟨nle,⟨trivial,trivial⟩⟩ rfl (.refl _)
 ·refine w_condf rfl (bf c5)<|sr<|s_mov (.str name_2) rfl<|s_q (.bool (name_2 == [95,117,117,105,100])) rfl trivial rfl<|s_mov (.bool (name_2 == [95,117,117,105,100])) rfl<|dk<|?_
  rcases oi hf with ⟨c8,hf⟩ | ⟨c8,hf⟩
  ·refine w_condt rfl c8<|sr<|s_q (.agg [(.str [95,117,117,105,100]),(.int .i64 4),(.int .i64 0),(.int .i64 1),(.int .i64 0),(.int .i64 0),(.str []),(.bool false)]) rfl ⟨⟨rfl,nle,trivial⟩,⟨⟨rfl,nle,trivial⟩,⟨⟨rfl,nle,trivial⟩,trivial⟩⟩⟩ rfl<|s_do0 (o_storebox (v:=(.agg [(.str [95,117,117,105,100]),(.int .i64 4),(.int .i64 0),(.int .i64 1),(.int .i64 0),(.int .i64 0),(.str []),(.bool false)])) (y':=(.agg [(.str [95,117,117,105,100]),(.int .i64 4),(.int .i64 0),(.int .i64 1),(.int .i64 0),(.int .i64 0),(.str []),(.bool false)])) rfl rfl rfl trivial ⟨rfl,nle⟩ ⟨⟨rfl,trivial⟩,⟨⟨rfl,trivial⟩,⟨⟨rfl,trivial⟩,⟨⟨rfl,trivial⟩,⟨⟨rfl,trivial⟩,⟨⟨rfl,trivial⟩,⟨⟨rfl,trivial⟩,⟨⟨rfl,trivial⟩,trivial⟩⟩⟩⟩⟩⟩⟩⟩ rfl)<|?_
   refine s_mov (.bool true) rfl<|dk<|w_ret<|?_;obtain rfl:=os hf;exact r_flat ⟨nle,⟨trivial,trivial⟩⟩ rfl (.refl _)
  ·refine w_condf rfl (bf c8)<|w_skip<|k_blk<|k_seq<|sr<|s_q (.agg [(.str []),(.int .i64 0),(.int .i64 0),(.int .i64 0),(.int .i64 0),(.int .i64 0),(.str []),(.bool false)]) rfl trivial rfl<|s_do0 (o_storebox (v:=(.agg [(.str []),(.int .i64 0),(.int .i64 0),(.int .i64 0),(.int .i64 0),(.int .i64 0),(.str []),(.bool false)])) (y':=(.agg [(.str []),(.int .i64 0),(.int .i64 0),(.int .i64 0),(.int .i64 0),(.int .i64 0),(.str []),(.bool false)])) rfl rfl rfl trivial ⟨rfl,nle⟩ ⟨⟨rfl,trivial⟩,⟨⟨rfl,trivial⟩,⟨⟨rfl,trivial⟩,⟨⟨rfl,trivial⟩,⟨⟨rfl,trivial⟩,⟨⟨rfl,trivial⟩,⟨⟨rfl,trivial⟩,⟨⟨rfl,trivial⟩,trivial⟩⟩⟩⟩⟩⟩⟩⟩ rfl)<|s_mov (.bool false) rfl<|?_
   refine dk<|w_ret<|?_;obtain rfl:=os hf;exact r_flat ⟨nle,⟨trivial,trivial⟩⟩ rfl (.refl _)

/- impl.columnsCode -/
def c51:ACode :=
 (.seq (.reg (tq 2 (.box 4 (.t 0)) (tm 4 (.c (.int .i64 0)) .done)))
 (.seq (.seq (.reg (tm 9 (.t 1) (tq 10 (.len (.t 9)) (tm 11 (.c (.int .i64 0)) .done))))
 (.block 0 (.loop (.seq (.reg (tq 12 (.bin .lss (.t 11) (.t 10)) .done))
 (.seq (.cond (.t 12) .skip
 (.exit 0))
 (.seq (.block 1 (.seq (.reg (tq 13 (.iaddr 1 (.t 9) (.t 11)) (tq 14 (.load 1 false (.t 13)) (tm 6 (.t 14) .done))))
 (.seq (.reg (tq 16 (.load 4 true (.t 2)) (tm 17 (.t 6) (tq 18 (.call 91 [(.t 16),(.t 17)]) (tm 15 (.t 18) (tq 19 (.extract 0 (.t 15)) (tq 20 (.extract 1 (.t 15)) (tq 7 (.box 8 (.c (.agg [(.str []),(.int .i64 0),(.int .i64 0),(.int .i64 0),(.int .i64 0),(.int .i64 0),(.str []),(.bool false)]))) (.q ⟨none,none,.store 8 (.t 7) (.t 19)⟩
 (tm 8 (.t 20) .done))))))))))
 (.seq (.reg (tm 21 (.t 8) (tq 22 (.not (.t 21)) .done)))
 (.cond (.t 22) (.seq (.reg (tm 4 (.c (.int .i64 11)) .done))
 .ret)
 .skip)))))
 (.reg (tq 23 (.bin .add (.t 11) (.c (.int .i64 1))) (tm 11 (.t 23) .done)))))))))
 (.cut (.seq (.reg (tm 4 (.c (.int .i64 0)) .done))
 .ret))))
theorem fc51:fcomp Try.prog Try.f51 = some (c51.erase,[.mov (.t 4)],24):=by kernel_rfl
def impl_columnsCode_L1 (t_1:GTable):List Str → Option (Fl Int Unit)
  | [] =>
    some (.go ())
  | x_31 :: xs =>
    (impl_Table_named t_1 x_31).bind fun r_32 =>
    if (!r_32.2) then
    some (.ret 11)
    else
    impl_columnsCode_L1 t_1 xs 

def impl_columnsCode (t_1:GTable) (names_2:(List Str)):Option Int :=
    (impl_columnsCode_L1 t_1 names_2 ).bind fun q => (match q with
    | .ret r => some r
    | .go _ =>
    some 0)
theorem w_impl_columnsCode (t_1:GTable) (names_2:(List Str)) (r:Int) (hf:impl_columnsCode t_1 names_2 = some r):CallOK Try.prog 51 .flat [(encGTable t_1),(.lst 1 (names_2.map AV.str))] (.int .i64 r):=by
 refine CallOK.of_awp mixed Try.func51 fc51 nle ?_;rw [argT_eq];unfold impl_columnsCode at hf;unfold c51;refine (show awp Try.prog false 0 _ (ofL [(0,(encGTable t_1)),(1,(.lst 1 (names_2.map AV.str)))]) [] _ from ?_);refine sr<|s_do (o_box (j:=0) (c:=(.agg [(.str t_1.Name),(.lst 8 (t_1.Columns.map encGColumn)),(.lst 1 (t_1.Unique.map encI)),(.bool t_1.Root)])) rfl trivial rfl rfl)<|s_mov (.int .i64 0) rfl<|dk<|awp_seq<|sr<|s_mov (.lst 1 (names_2.map AV.str)) rfl<|s_dof (o_len (enc:=AV.str) rfl) fun hl3 => s_mov (.int .i64 0) rfl<|dk<|?_
 obtain ⟨p24,hb1,hf⟩:=ob hf
 refine awp_cutx (X:={q:Unit // p24 = .go q}) (fun q => ([],[])) ?_ ?_
 ·refine awp_loop (X:={q:Nat // impl_columnsCode_L1 t_1 (names_2.drop q)  = some p24}) (fun q => ([(2,(.ptr 0 0 0)),(9,(.lst 1 (names_2.map AV.str))),(10,(.int .i64 (names_2.length:Int))),(11,(.int .i64 (q.1:Int)))],[.box 4 (.agg [(.str t_1.Name),(.lst 8 (t_1.Columns.map encGColumn)),(.lst 1 (t_1.Unique.map encI)),(.bool t_1.Root)])])) (fun q => names_2.length - q.1) ⟨0,hb1⟩ ⟨[],[0],_,_,rfl,rfl,⟨.refl _,⟨.refl _,⟨.refl _,⟨.refl _,trivial⟩⟩⟩⟩,(.refl _)⟩ ?_
  rintro ⟨s11_17,hc1⟩
  have hc1:impl_columnsCode_L1 t_1 (names_2.drop s11_17)  = some p24:=hc1
  refine (show awp Try.prog false 0 _ (ofL [(2,(.ptr 0 0 0)),(9,(.lst 1 (names_2.map AV.str))),(10,(.int .i64 (names_2.length:Int))),(11,(.int .i64 (s11_17:Int)))]) [.box 4 (.agg [(.str t_1.Name),(.lst 8 (t_1.Columns.map encGColumn)),(.lst 1 (t_1.Unique.map encI)),(.bool t_1.Root)])] _ from ?_)
  rcases dropc names_2 s11_17 with ⟨hie27,hd30⟩ | ⟨hlt25,x_31,hx26,hd30⟩
  ·rw [hd30,impl_columnsCode_L1.eq_1] at hc1
   have hq29:=dlf hie27
   refine sr<|s_q (.bool (decide ((s11_17:Int) < (names_2.length:Int)))) rfl rfl rfl<|dk<|awp_seq<|w_condf rfl hq29<|w_exit<|k_seqx<|k_loopx<|k_blkx<|?_;obtain rfl:=os hc1;exact k_cutn ⟨_,rfl⟩ ⟨[],[],_,_,rfl,rfl,trivial,(.refl _)⟩
  ·rw [hd30,impl_columnsCode_L1.eq_2] at hc1
   have hq29:=dlt hlt25
   refine sr<|s_q (.bool (decide ((s11_17:Int) < (names_2.length:Int)))) rfl rfl rfl<|dk<|awp_seq<|w_condt rfl hq29<|w_skip<|k_seq<|awp_seq<|w_blk<|sr<|s_do (o_iaddrn (enc:=AV.str) rfl rfl hx26)<|s_q (.str x_31) rfl ⟨rfl,rfl⟩ rfl<|s_mov (.str x_31) rfl<|dk<|sr<|?_
   obtain ⟨r_32,er33,hc1⟩:=ob hc1
   refine s_q (.agg [(.str t_1.Name),(.lst 8 (t_1.Columns.map encGColumn)),(.lst 1 (t_1.Unique.map encI)),(.bool t_1.Root)]) rfl nle rfl<|s_mov (.str x_31) rfl<|s_do (o_call (w_impl_Table_named _ _ _ er33) rfl (.refl _) rfl)<|s_mov (.tup [(encGColumn r_32.1),(.bool r_32.2)]) rfl<|s_q (encGColumn r_32.1) rfl nle rfl<|s_q (.bool r_32.2) rfl nle rfl<|s_do (o_box (j:=1) (c:=(.agg [(.str []),(.int .i64 0),(.int .i64 0),(.int .i64 0),(.int .i64 0),(.int .i64 0),(.str []),(.bool false)])) rfl trivial rfl rfl)<|s_do0 (o_storebox (v:=(.agg [(.str r_32.1.Name),(.int .i64 r_32.1.Kind),(.int .i64 r_32.1.Min),(.int .i64 r_32.1.Max),(.int .i64 r_32.1.Low),(.int .i64 r_32.1.High),(.str r_32.1.Ref),(.bool r_32.1.Strong)])) (y':=(.agg [(.str r_32.1.Name),(.int .i64 r_32.1.Kind),(.int .i64 r_32.1.Min),(.int .i64 r_32.1.Max),(.int .i64 r_32.1.Low),(.int .i64 r_32.1.High),(.str r_32.1.Ref),(.bool r_32.1.Strong)])) rfl rfl rfl trivial ⟨rfl,nle⟩ ⟨⟨rfl,trivial⟩,⟨⟨rfl,trivial⟩,⟨⟨rfl,trivial⟩,⟨⟨rfl,trivial⟩,⟨⟨rfl,trivial⟩,⟨⟨rfl,trivial⟩,⟨⟨rfl,trivial⟩,⟨⟨rfl,trivial⟩,trivial⟩⟩⟩⟩⟩⟩⟩⟩ rfl)<|?_
   refine s_mov (.bool r_32.2) rfl<|dk<|sr<|s_mov (.bool r_32.2) rfl<|s_q (.bool (!r_32.2)) rfl trivial rfl<|dk<|?_
   rcases oi hc1 with ⟨c34,hc1⟩ | ⟨c34,hc1⟩
   ·refine w_condt rfl c34<|sr<|s_mov (.int .i64 11) rfl<|dk<|w_ret<|?_;obtain rfl:=os hc1;obtain rfl:=os hf;exact r_flat ⟨trivial,trivial⟩ rfl (.refl _)
   ·refine w_condf rfl (bf c34)<|w_skip<|k_blk<|k_seq<|w_reg<|s_q (.int .i64 (w64 ((s11_17:Int) + 1))) rfl rfl rfl<|s_mov (.int .i64 (w64 ((s11_17:Int) + 1))) rfl<|w_done<|?_;exact k_loopn ⟨(s11_17 + 1),hc1⟩ (mul hlt25) ⟨[],[0],_,_,rfl,rfl,⟨.refl _,⟨.refl _,⟨.refl _,⟨.of_eq (congrArg (AV.int _) (w64_incr hlt25 hl3)),trivial⟩⟩⟩⟩,(.refl _)⟩
 ·rintro ⟨_,rfl⟩
  refine sr<|s_mov (.int .i64 0) rfl<|dk<|w_ret<|?_;obtain rfl:=os hf;exact r_flat ⟨trivial,trivial⟩ rfl (.refl _)

/- (impl.Table).cell -/
def c92:ACode :=
 (.seq (.reg (tq 3 (.box 4 (.t 0)) (tq 4 (.box 2 (.t 1)) (tm 6 (.c .nil) .done))))
 (.seq (.seq (.reg (tq 8 (.load 4 true (.t 3)) (tm 9 (.t 2) (tq 10 (.call 75 [(.t 8),(.t 9)]) (tm 7 (.t 10) .done)))))
 (.seq (.reg (tm 11 (.t 7) (tq 12 (.bin .geq (.t 11) (.c (.int .i64 0))) .done)))
 (.cond (.t 12) (.seq (.reg (tq 13 (.faddr 1 (.t 4)) (tq 14 (.load 1 false (.t 13)) (tm 15 (.t 7) (tq 16 (.iaddr 1 (.t 14) (.t 15)) (tq 17 (.load 1 false (.t 16)) (tm 6 (.t 17) .done)))))))
 .ret)
 .skip)))
 (.seq (.reg (tq 18 (.faddr 0 (.t 4)) (tq 19 (.load 1 false (.t 18)) (tq 20 (.build [(.int .i64 0),(.int .i64 0),(.str [])] [(0,1,(.c (.int .i64 4))),(1,1,(.t 19))]) (tq 21 (.bslice 3 [(.t 20)]) (tm 6 (.t 21) .done))))))
 .ret)))
theorem fc92:fcomp Try.prog Try.f92 = some (c92.erase,[.mov (.t 6)],22):=by kernel_rfl
def impl_Table_cell (t_1:GTable) (r_2:GRow) (name_3:Str):Option (List GAtom) :=
    (impl_Table_columnAt t_1 name_3).bind fun r_4 =>
    if (decide (r_4 ≥ 0)) then
    (idx r_2.Cells r_4).bind fun x_7 =>
    some x_7
    else
    some [(⟨4,r_2.Id,[]⟩:GAtom)]
theorem w_impl_Table_cell (t_1:GTable) (r_2:GRow) (name_3:Str) (r:(List GAtom)) (hf:impl_Table_cell t_1 r_2 name_3 = some r):CallOK Try.prog 92 .weak [(encGTable t_1),(encGRow r_2),(.str name_3)] (.lst 3 (r.map encGAtom)):=by
 refine CallOK.of_awp mixed Try.func92 fc92 nle ?_;rw [argT_eq];unfold impl_Table_cell at hf;unfold c92;refine (show awp Try.prog false 0 _ (ofL [(0,(encGTable t_1)),(1,(encGRow r_2)),(2,(.str name_3))]) [] _ from ?_);refine sr<|s_do (o_box (j:=0) (c:=(.agg [(.str t_1.Name),(.lst 8 (t_1.Columns.map encGColumn)),(.lst 1 (t_1.Unique.map encI)),(.bool t_1.Root)])) rfl trivial rfl rfl)<|s_do (o_box (j:=1) (c:=(.agg [(.int .i64 r_2.Id),(.lst 1 (r_2.Cells.map (encL 3 encGAtom)))])) rfl trivial rfl rfl)<|s_mov .nil rfl<|dk<|awp_seq<|sr<|?_
 obtain ⟨r_4,er5,hf⟩:=ob hf
 refine s_q (.agg [(.str t_1.Name),(.lst 8 (t_1.Columns.map encGColumn)),(.lst 1 (t_1.Unique.map encI)),(.bool t_1.Root)]) rfl nle rfl<|s_mov (.str name_3) rfl<|s_do (o_call (w_impl_Table_columnAt _ _ _ er5) rfl (.refl _) rfl)<|s_mov (.int .i64 r_4) rfl<|dk<|sr<|s_mov (.int .i64 r_4) rfl<|s_q (.bool (decide (r_4 ≥ 0))) rfl rfl rfl<|dk<|?_
 rcases oi hf with ⟨c6,hf⟩ | ⟨c6,hf⟩
 ·refine w_condt rfl c6<|sr<|?_
  obtain ⟨x_7,ex8,hf⟩:=ob hf
  refine s_q (.ptr 1 0 1) rfl trivial rfl<|s_q (.lst 1 (r_2.Cells.map (encL 3 encGAtom))) rfl nle rfl<|s_mov (.int .i64 r_4) rfl<|s_do (o_iaddr (enc:=(encL 3 encGAtom)) rfl rfl (idx0 ex8) (idx1 ex8))<|s_q (.lst 3 (x_7.map encGAtom)) rfl ⟨rfl,rfl⟩ rfl<|s_mov (.lst 3 (x_7.map encGAtom)) rfl<|dk<|w_ret<|?_;obtain rfl:=os hf;exact r_weak ⟨trivial,trivial⟩ rfl (.refl _)
 ·refine w_condf rfl (bf c6)<|w_skip<|k_seq<|sr<|s_q (.ptr 1 0 0) rfl trivial rfl<|s_q (.int .i64 r_2.Id) rfl nle rfl<|s_q (.agg [(.int .i64 4),(.int .i64 r_2.Id),(.str [])]) rfl ⟨⟨rfl,nle,trivial⟩,⟨⟨rfl,nle,trivial⟩,trivial⟩⟩ rfl<|?_;refine s_do (o_bslice (j:=2) (as':=[(encGAtom (⟨4,r_2.Id,[]⟩:GAtom))]) rfl (fun _ => by decide) ⟨rfl,trivial⟩ (.refl _) rfl rfl rfl) ?_;refine s_mov (.own 2 0 1) rfl<|dk<|w_ret<|?_;obtain rfl:=os hf;exact r_weak ⟨trivial,trivial⟩ rfl (.refl _)

/- impl.pick -/
def c52:ACode :=
 (.seq (.reg (tq 3 (.box 4 (.t 0)) (tq 4 (.box 2 (.t 1)) (tq 6 (.box 2 (.c (.agg [(.int .i64 0),.nil]))) .done))))
 (.seq (.reg (tq 10 (.faddr 0 (.t 4)) (tq 11 (.load 1 false (.t 10)) (tq 12 (.build [(.int .i64 0),.nil] [(0,1,(.t 11))]) (tq 7 (.box 2 (.c (.agg [(.int .i64 0),.nil]))) (.q ⟨none,none,.store 2 (.t 7) (.t 12)⟩
 .done))))))
 (.seq (.seq (.reg (tm 13 (.t 2) (tq 14 (.len (.t 13)) (tm 15 (.c (.int .i64 0)) .done))))
 (.block 0 (.loop (.seq (.reg (tq 16 (.bin .lss (.t 15) (.t 14)) .done))
 (.seq (.cond (.t 16) .skip
 (.exit 0))
 (.seq (.block 1 (.seq (.reg (tq 17 (.iaddr 1 (.t 13) (.t 15)) (tq 18 (.load 1 false (.t 17)) (tm 9 (.t 18) .done))))
 (.reg (tq 19 (.faddr 1 (.t 7)) (tq 20 (.load 1 false (.t 19)) (tq 21 (.load 4 true (.t 3)) (tq 22 (.load 2 true (.t 4)) (tm 23 (.t 9) (.l ⟨(some 24),none,.call 92 [(.t 21),(.t 22),(.t 23)]⟩ [⟨(some 20),none,.load 1 false (.t 19)⟩,⟨(some 19),none,.faddr 1 (.t 7)⟩]
 (.l ⟨(some 25),none,.call 83 [(.t 24)]⟩ [⟨(some 20),none,.load 1 false (.t 19)⟩,⟨(some 19),none,.faddr 1 (.t 7)⟩]
 (.l ⟨(some 26),none,.bslice 1 [(.t 25)]⟩ [⟨(some 20),none,.load 1 false (.t 19)⟩,⟨(some 19),none,.faddr 1 (.t 7)⟩]
 (.l ⟨(some 27),none,.append 1 24 (.t 20) (.t 26)⟩ []
 (tq 28 (.faddr 1 (.t 7)) (.l ⟨none,none,.store 1 (.t 28) (.t 27)⟩ []
 .done .non)) .non) .non) .non) .non)))))))))
 (.reg (tq 29 (.bin .add (.t 15) (.c (.int .i64 1))) (tm 15 (.t 29) .done)))))))))
 (.cut (.seq (.reg (tq 30 (.load 2 true (.t 7)) (.q ⟨none,none,.store 2 (.t 6) (.t 30)⟩
 .done)))
 .ret)))))
theorem fc52:fcomp Try.prog Try.f52 = some (c52.erase,[.load 2 true (.t 6)],31):=by kernel_rfl
def impl_pick_L1 (t_1:GTable) (r_2:GRow):List Str → (List (List GAtom)) → Option (List (List GAtom))
  | [],x_24 =>
    some x_24
  | x_41 :: xs,x_24 =>
    (impl_Table_cell t_1 r_2 x_41).bind fun r_42 =>
    (slices_Clone_impl_Atom_impl_Atom r_42).bind fun r_44 =>
    if (x_24 ++ [r_44]).length ≤ 2 ^ 30 then
    impl_pick_L1 t_1 r_2 xs  (x_24 ++ [r_44])
    else none

def impl_pick (t_1:GTable) (r_2:GRow) (names_3:(List Str)):Option GRow :=
    (impl_pick_L1 t_1 r_2 names_3 []).bind fun x_33 =>
    some (⟨r_2.Id,x_33⟩:GRow)
theorem w_impl_pick (t_1:GTable) (r_2:GRow) (names_3:(List Str)) (r:GRow) (hf:impl_pick t_1 r_2 names_3 = some r):CallOK Try.prog 52 .fresh [(encGTable t_1),(encGRow r_2),(.lst 1 (names_3.map AV.str))] (encGRow r):=by
 refine CallOK.of_awp mixed Try.func52 fc52 nle ?_;rw [argT_eq];unfold impl_pick at hf;unfold c52;refine (show awp Try.prog true 0 _ (ofL [(0,(encGTable t_1)),(1,(encGRow r_2)),(2,(.lst 1 (names_3.map AV.str)))]) [] _ from ?_);refine sr<|s_do (o_box (j:=0) (c:=(.agg [(.str t_1.Name),(.lst 8 (t_1.Columns.map encGColumn)),(.lst 1 (t_1.Unique.map encI)),(.bool t_1.Root)])) rfl trivial rfl rfl)<|s_do (o_box (j:=1) (c:=(.agg [(.int .i64 r_2.Id),(.lst 1 (r_2.Cells.map (encL 3 encGAtom)))])) rfl trivial rfl rfl)<|s_do (o_box (j:=2) (c:=(.agg [(.int .i64 0),.nil])) rfl trivial rfl rfl)<|dk<|sr<|s_q (.ptr 1 0 0) rfl trivial rfl<|s_q (.int .i64 r_2.Id) rfl nle rfl<|?_
 refine s_q (.agg [(.int .i64 r_2.Id),.nil]) rfl ⟨⟨rfl,nle,trivial⟩,trivial⟩ rfl<|s_do (o_box (j:=3) (c:=(.agg [(.int .i64 0),.nil])) rfl trivial rfl rfl)<|s_do0 (o_storebox (v:=(.agg [(.int .i64 r_2.Id),.nil])) (y':=(.agg [(.int .i64 r_2.Id),.nil])) rfl rfl rfl trivial ⟨rfl,nle⟩ ⟨⟨rfl,trivial⟩,⟨⟨rfl,trivial⟩,trivial⟩⟩ rfl)<|dk<|awp_seq<|sr<|s_mov (.lst 1 (names_3.map AV.str)) rfl<|s_dof (o_len (enc:=AV.str) rfl) fun hl4 => s_mov (.int .i64 0) rfl<|dk<|?_
 obtain ⟨x_33,hb1,hf⟩:=ob hf
 refine awp_cut ([(6,(.ptr 0 0 0)),(7,(.ptr 1 0 0))],[.box 2 (.agg [(.int .i64 0),.nil]),.box 2 (.agg [(.int .i64 r_2.Id),(.own 2 0 x_33.length)]),.row 1 (x_33.map (encL 3 encGAtom))]) ?_ ?_
 ·refine awp_loop (X:={q:(Nat × (List (List GAtom))) // impl_pick_L1 t_1 r_2 (names_3.drop q.1) q.2 = some x_33}) (fun q => ([(3,(.ptr 0 0 0)),(4,(.ptr 1 0 0)),(6,(.ptr 2 0 0)),(7,(.ptr 3 0 0)),(13,(.lst 1 (names_3.map AV.str))),(14,(.int .i64 (names_3.length:Int))),(15,(.int .i64 (q.1.1:Int)))],[.box 4 (.agg [(.str t_1.Name),(.lst 8 (t_1.Columns.map encGColumn)),(.lst 1 (t_1.Unique.map encI)),(.bool t_1.Root)]),.box 2 (.agg [(.int .i64 r_2.Id),(.lst 1 (r_2.Cells.map (encL 3 encGAtom)))]),.box 2 (.agg [(.int .i64 0),.nil]),.box 2 (.agg [(.int .i64 r_2.Id),(.own 4 0 q.1.2.length)]),.row 1 (q.1.2.map (encL 3 encGAtom))])) (fun q => names_3.length - q.1.1) ⟨(0,[]),hb1⟩ ⟨[.nilC 3 1 1],[0,1,2,3,4],_,_,rfl,rfl,⟨.refl _,⟨.refl _,⟨.refl _,⟨.refl _,⟨.refl _,⟨.refl _,⟨.refl _,trivial⟩⟩⟩⟩⟩⟩⟩,(.refl _)⟩ ?_
  rintro ⟨⟨s15_23,x_24⟩,hc1⟩
  have hc1:impl_pick_L1 t_1 r_2 (names_3.drop s15_23) x_24 = some x_33:=hc1
  refine (show awp Try.prog true 0 _ (ofL [(3,(.ptr 0 0 0)),(4,(.ptr 1 0 0)),(6,(.ptr 2 0 0)),(7,(.ptr 3 0 0)),(13,(.lst 1 (names_3.map AV.str))),(14,(.int .i64 (names_3.length:Int))),(15,(.int .i64 (s15_23:Int)))]) [.box 4 (.agg [(.str t_1.Name),(.lst 8 (t_1.Columns.map encGColumn)),(.lst 1 (t_1.Unique.map encI)),(.bool t_1.Root)]),.box 2 (.agg [(.int .i64 r_2.Id),(.lst 1 (r_2.Cells.map (encL 3 encGAtom)))]),.box 2 (.agg [(.int .i64 0),.nil]),.box 2 (.agg [(.int .i64 r_2.Id),(.own 4 0 x_24.length)]),.row 1 (x_24.map (encL 3 encGAtom))] _ from ?_)
  rcases dropc names_3 s15_23 with ⟨hie37,hd40⟩ | ⟨hlt35,x_41,hx36,hd40⟩
  ·rw [hd40,impl_pick_L1.eq_1] at hc1
   have hq39:=dlf hie37
   refine sr<|s_q (.bool (decide ((s15_23:Int) < (names_3.length:Int)))) rfl rfl rfl<|dk<|awp_seq<|w_condf rfl hq39<|w_exit<|k_seqx<|k_loopx<|k_blkx<|?_;obtain rfl:=os hc1;exact ⟨[],[2,3,4],_,_,rfl,rfl,⟨.refl _,⟨.refl _,trivial⟩⟩,(.refl _)⟩
  ·rw [hd40,impl_pick_L1.eq_2] at hc1
   have hq39:=dlt hlt35
   refine sr<|s_q (.bool (decide ((s15_23:Int) < (names_3.length:Int)))) rfl rfl rfl<|dk<|awp_seq<|w_condt rfl hq39<|w_skip<|k_seq<|awp_seq<|w_blk<|sr<|s_do (o_iaddrn (enc:=AV.str) rfl rfl hx36)<|s_q (.str x_41) rfl ⟨rfl,rfl⟩ rfl<|s_mov (.str x_41) rfl<|dk<|w_reg<|?_
   obtain ⟨r_42,er43,hc1⟩:=ob hc1
   obtain ⟨r_44,er45,hc1⟩:=ob hc1
   obtain ⟨g46,hc1⟩:=og hc1
   refine s_q (.ptr 3 0 1) rfl trivial rfl<|s_q (.own 4 0 x_24.length) rfl nle rfl<|s_q (.agg [(.str t_1.Name),(.lst 8 (t_1.Columns.map encGColumn)),(.lst 1 (t_1.Unique.map encI)),(.bool t_1.Root)]) rfl nle rfl<|s_q (.agg [(.int .i64 r_2.Id),(.lst 1 (r_2.Cells.map (encL 3 encGAtom)))]) rfl nle rfl<|s_mov (.str x_41) rfl<|s_dol (o_callw rfl (w_impl_Table_cell _ _ _ _ er43) rfl (.refl _) rfl rfl) a_same trivial<|s_dol (o_callf (v:=(.own 5 0 r_44.length)) (h':=[.row 3 (r_44.map encGAtom)]) (w_slices_Clone_impl_Atom_impl_Atom _ _ er45) rfl (.refl _) (by simp only [openV,openVs,List.length_map,List.nil_append,List.append_nil,List.cons_append];rfl)) (.inr ⟨⟨nle,rfl⟩,⟨⟨trivial,rfl⟩,trivial⟩⟩) trivial<|?_
   refine s_dol (o_bslice (j:=6) (as':=[(.lst 3 (r_44.map encGAtom))]) rfl (fun _ => by decide) ⟨rfl,trivial⟩ (.cons (.of_eq (congrArg (AV.lst _) (tk (enc:=encGAtom) r_44))) .nil) rfl rfl rfl) (.inr ⟨⟨nle,rfl⟩,⟨⟨trivial,rfl⟩,trivial⟩⟩) trivial ?_
   refine s_dol (o_appendd (j:=7) (L:=((x_24 ++ [r_44]).map (encL 3 encGAtom))) (len:=(x_24 ++ [r_44]).length) rfl true rfl rfl (fun h => Bool.noConfusion h) (fun _ _ h => (ownl (show AV.own _ _ _ = AV.lst _ _ from h)).elim) (by decide) (apoc (enc:=(encL 3 encGAtom)) x_24 [r_44] _ (by rfl)) (by simp <;> omega) g46 rfl rfl) trivial trivial ?_
   refine s_q (.ptr 3 0 1) rfl trivial rfl<|s_dol0 (o_storebox (v:=(.own 7 0 ((x_24 ++ [r_44]).length))) (y':=(.agg [(.int .i64 r_2.Id),(.own 7 0 ((x_24 ++ [r_44]).length))])) rfl rfl rfl trivial ⟨rfl,nle⟩ ⟨⟨rfl,trivial⟩,trivial⟩ rfl) trivial trivial<|w_done<|k_blk<|k_seq<|w_reg<|s_q (.int .i64 (w64 ((s15_23:Int) + 1))) rfl rfl rfl<|s_mov (.int .i64 (w64 ((s15_23:Int) + 1))) rfl<|w_done<|?_;exact k_loopn ⟨((s15_23 + 1),x_24 ++ [r_44]),hc1⟩ (mul hlt35) ⟨[],[0,1,2,3,7],_,_,rfl,rfl,⟨.refl _,⟨.refl _,⟨.refl _,⟨.refl _,⟨.refl _,⟨.refl _,⟨.of_eq (congrArg (AV.int _) (w64_incr hlt35 hl4)),trivial⟩⟩⟩⟩⟩⟩⟩,(.refl _)⟩
 ·refine sr<|s_q (.agg [(.int .i64 r_2.Id),(.own 2 0 x_33.length)]) rfl nle rfl<|s_do0 (o_storebox (v:=(.agg [(.int .i64 r_2.Id),(.own 2 0 x_33.length)])) (y':=(.agg [(.int .i64 r_2.Id),(.own 2 0 x_33.length)])) rfl rfl rfl trivial ⟨rfl,nle⟩ ⟨⟨rfl,trivial⟩,⟨⟨rfl,trivial⟩,trivial⟩⟩ rfl)<|dk<|w_ret<|?_;obtain rfl:=os hf;exact r_fresh ⟨nle,trivial⟩ rfl (by decide) (.agg (.cons (.refl _) (.cons (.of_eq (congrArg (AV.lst _) (tk (enc:=(encL 3 encGAtom)) x_33))) .nil)))

/- impl.PickColumns -/
def c21:ACode :=
 (.seq (.reg (tq 3 (.box 4 (.t 0)) (tq 4 (.box 2 (.t 1)) (tq 6 (.box 2 (.c (.agg [(.int .i64 0),.nil]))) (tm 7 (.c (.int .i64 0)) .done)))))
 (.seq (.block 0 (.seq (.reg (tm 10 (.t 2) (tq 11 (.call 50 [(.t 10)]) (tq 12 (.not (.t 11)) (tm 9 (.t 12) .done)))))
 (.cond (.t 9) (.seq (.reg (tq 13 (.build [(.int .i64 0),.nil] []) (.q ⟨none,none,.store 2 (.t 6) (.t 13)⟩
 (tm 7 (.c (.int .i64 2)) .done))))
 .ret)
 (.seq (.reg (tq 15 (.load 4 true (.t 3)) (tq 16 (.load 2 true (.t 4)) (tq 17 (.call 20 [(.t 15),(.t 16)]) (tq 18 (.not (.t 17)) (tm 14 (.t 18) .done))))))
 (.cond (.t 14) (.seq (.reg (tq 19 (.build [(.int .i64 0),.nil] []) (.q ⟨none,none,.store 2 (.t 6) (.t 19)⟩
 (tm 7 (.c (.int .i64 1)) .done))))
 .ret)
 .skip)))))
 (.seq (.seq (.reg (tq 20 (.load 4 true (.t 3)) (tm 21 (.t 2) (tq 22 (.call 51 [(.t 20),(.t 21)]) (tm 8 (.t 22) .done)))))
 (.seq (.reg (tm 23 (.t 8) (tq 24 (.bin .neq (.t 23) (.c (.int .i64 0))) .done)))
 (.cond (.t 24) (.seq (.reg (tq 25 (.build [(.int .i64 0),.nil] []) (tm 26 (.t 8) (.q ⟨none,none,.store 2 (.t 6) (.t 25)⟩
 (tm 7 (.t 26) .done)))))
 .ret)
 .skip)))
 (.seq (.reg (tq 27 (.load 4 true (.t 3)) (tq 28 (.load 2 true (.t 4)) (tm 29 (.t 2) (tq 30 (.call 52 [(.t 27),(.t 28),(.t 29)]) (.q ⟨none,none,.store 2 (.t 6) (.t 30)⟩
 (tm 7 (.c (.int .i64 0)) .done)))))))
 .ret))))
theorem fc21:fcomp Try.prog Try.f21 = some (c21.erase,[.load 2 true (.t 6),.mov (.t 7)],31):=by kernel_rfl
def impl_PickColumns (t_1:GTable) (r_2:GRow) (names_3:(List Str)):Option (GRow × Int) :=
    (impl_isList_string names_3).bind fun r_4 =>
    if (!r_4) then
    some ((⟨0,[]⟩:GRow),2)
    else
    (impl_RowOK t_1 r_2).bind fun r_7 =>
    if (!r_7) then
    some ((⟨0,[]⟩:GRow),1)
    else
    (impl_columnsCode t_1 names_3).bind fun r_10 =>
    if (r_10 != 0) then
    some ((⟨0,[]⟩:GRow),r_10)
    else
    (impl_pick t_1 r_2 names_3).bind fun r_13 =>
    some (r_13,0)
theorem w_impl_PickColumns (t_1:GTable) (r_2:GRow) (names_3:(List Str)) (r:(GRow × Int)) (hf:impl_PickColumns t_1 r_2 names_3 = some r):CallOK Try.prog 21 .fresh [(encGTable t_1),(encGRow r_2),(.lst 1 (names_3.map AV.str))] (.tup [(encGRow r.1),(.int .i64 r.2)]):=by
 refine CallOK.of_awp mixed Try.func21 fc21 nle ?_;rw [argT_eq];unfold impl_PickColumns at hf;unfold c21;refine (show awp Try.prog true 0 _ (ofL [(0,(encGTable t_1)),(1,(encGRow r_2)),(2,(.lst 1 (names_3.map AV.str)))]) [] _ from ?_);refine sr<|s_do (o_box (j:=0) (c:=(.agg [(.str t_1.Name),(.lst 8 (t_1.Columns.map encGColumn)),(.lst 1 (t_1.Unique.map encI)),(.bool t_1.Root)])) rfl trivial rfl rfl)<|s_do (o_box (j:=1) (c:=(.agg [(.int .i64 r_2.Id),(.lst 1 (r_2.Cells.map (encL 3 encGAtom)))])) rfl trivial rfl rfl)<|s_do (o_box (j:=2) (c:=(.agg [(.int .i64 0),.nil])) rfl trivial rfl rfl)<|s_mov (.int .i64 0) rfl<|dk<|awp_seq<|w_blk<|sr<|?_
 obtain ⟨r_4,er5,hf⟩:=ob hf
 refine s_mov (.lst 1 (names_3.map AV.str)) rfl<|s_do (o_call (w_impl_isList_string _ _ er5) rfl (.refl _) rfl)<|s_q (.bool (!r_4)) rfl trivial rfl<|s_mov (.bool (!r_4)) rfl<|dk<|?_
 rcases oi hf with ⟨c6,hf⟩ | ⟨c6,hf⟩
 ·refine w_condt rfl c6<|sr<|s_q (.agg [(.int .i64 0),.nil]) rfl trivial rfl<|s_do0 (o_storebox (v:=(.agg [(.int .i64 0),.nil])) (y':=(.agg [(.int .i64 0),.nil])) rfl rfl rfl trivial ⟨rfl,nle⟩ ⟨⟨rfl,trivial⟩,⟨⟨rfl,trivial⟩,trivial⟩⟩ rfl)<|s_mov (.int .i64 2) rfl<|dk<|w_ret<|?_;obtain rfl:=os hf;exact r_fresh ⟨nle,⟨trivial,trivial⟩⟩ rfl (by decide) (.tup (.cons (.agg (.cons (.refl _) (.cons (.nil _) .nil))) (.cons (.refl _) .nil)))
 ·refine w_condf rfl (bf c6)<|sr<|?_
  obtain ⟨r_7,er8,hf⟩:=ob hf
  refine s_q (.agg [(.str t_1.Name),(.lst 8 (t_1.Columns.map encGColumn)),(.lst 1 (t_1.Unique.map encI)),(.bool t_1.Root)]) rfl nle rfl<|s_q (.agg [(.int .i64 r_2.Id),(.lst 1 (r_2.Cells.map (encL 3 encGAtom)))]) rfl nle rfl<|s_do (o_call (w_impl_RowOK _ _ _ er8) rfl (.refl _) rfl)<|s_q (.bool (!r_7)) rfl trivial rfl<|s_mov (.bool (!r_7)) rfl<|dk<|?_
  rcases oi hf with ⟨c9,hf⟩ | ⟨c9,hf⟩
  ·refine w_condt rfl c9<|sr<|s_q (.agg [(.int .i64 0),.nil]) rfl trivial rfl<|s_do0 (o_storebox (v:=(.agg [(.int .i64 0),.nil])) (y':=(.agg [(.int .i64 0),.nil])) rfl rfl rfl trivial ⟨rfl,nle⟩ ⟨⟨rfl,trivial⟩,⟨⟨rfl,trivial⟩,trivial⟩⟩ rfl)<|s_mov (.int .i64 1) rfl<|dk<|w_ret<|?_;obtain rfl:=os hf;exact r_fresh ⟨nle,⟨trivial,trivial⟩⟩ rfl (by decide) (.tup (.cons (.agg (.cons (.refl _) (.cons (.nil _) .nil))) (.cons (.refl _) .nil)))
  ·refine w_condf rfl (bf c9)<|w_skip<|k_blk<|k_seq<|awp_seq<|sr<|?_
   obtain ⟨r_10,er11,hf⟩:=ob hf
   refine s_q (.agg [(.str t_1.Name),(.lst 8 (t_1.Columns.map encGColumn)),(.lst 1 (t_1.Unique.map encI)),(.bool t_1.Root)]) rfl nle rfl<|s_mov (.lst 1 (names_3.map AV.str)) rfl<|s_do (o_call (w_impl_columnsCode _ _ _ er11) rfl (.refl _) rfl)<|s_mov (.int .i64 r_10) rfl<|dk<|sr<|s_mov (.int .i64 r_10) rfl<|s_q (.bool (r_10 != 0)) rfl rfl rfl<|dk<|?_
   rcases oi hf with ⟨c12,hf⟩ | ⟨c12,hf⟩
   ·refine w_condt rfl c12<|sr<|s_q (.agg [(.int .i64 0),.nil]) rfl trivial rfl<|s_mov (.int .i64 r_10) rfl<|s_do0 (o_storebox (v:=(.agg [(.int .i64 0),.nil])) (y':=(.agg [(.int .i64 0),.nil])) rfl rfl rfl trivial ⟨rfl,nle⟩ ⟨⟨rfl,trivial⟩,⟨⟨rfl,trivial⟩,trivial⟩⟩ rfl)<|s_mov (.int .i64 r_10) rfl<|dk<|w_ret<|?_;obtain rfl:=os hf;exact r_fresh ⟨nle,⟨trivial,trivial⟩⟩ rfl (by decide) (.tup (.cons (.agg (.cons (.refl _) (.cons (.nil _) .nil))) (.cons (.refl _) .nil)))
   ·refine w_condf rfl (bf c12)<|w_skip<|k_seq<|sr<|?_
    obtain ⟨r_13,er14,hf⟩:=ob hf
    refine s_q (.agg [(.str t_1.Name),(.lst 8 (t_1.Columns.map encGColumn)),(.lst 1 (t_1.Unique.map encI)),(.bool t_1.Root)]) rfl nle rfl<|s_q (.agg [(.int .i64 r_2.Id),(.lst 1 (r_2.Cells.map (encL 3 encGAtom)))]) rfl nle rfl<|s_mov (.lst 1 (names_3.map AV.str)) rfl<|s_do (o_callf (v:=(.agg [(.int .i64 r_13.Id),(.own 3 0 r_13.Cells.length)])) (h':=[.row 1 (r_13.Cells.map (encL 3 encGAtom))]) (w_impl_pick _ _ _ _ er14) rfl (.refl _) (by simp only [openV,openVs,List.length_map,encGRow_eq,List.nil_append,List.append_nil,List.cons_append];rfl))<|s_do0 (o_storebox (v:=(.agg [(.int .i64 r_13.Id),(.own 3 0 r_13.Cells.length)])) (y':=(.agg [(.int .i64 r_13.Id),(.own 3 0 r_13.Cells.length)])) rfl rfl rfl trivial ⟨rfl,nle⟩ ⟨⟨rfl,trivial⟩,⟨⟨rfl,trivial⟩,trivial⟩⟩ rfl)<|?_
    refine s_mov (.int .i64 0) rfl<|dk<|w_ret<|?_;obtain rfl:=os hf;exact r_fresh ⟨nle,⟨trivial,trivial⟩⟩ rfl (by decide) (.tup (.cons (.agg (.cons (.refl _) (.cons (.of_eq (congrArg (AV.lst _) (tk (enc:=(encL 3 encGAtom)) r_13.Cells))) .nil))) (.cons (.refl _) .nil)))

/- laws.FnCells -/
def c4:ACode :=
 (.seq (.reg (tm 4 (.c (.bool false)) .done))
 (.seq (.seq (.reg (tm 19 (.t 0) (tq 20 (.len (.t 19)) (tq 21 (.bin .gtr (.t 20) (.c (.int .i64 1048576))) (tm 22 (.t 21) (tg 23 22 false (.mov (.t 1)) (tg 24 22 false (.len (.t 23)) (tg 25 22 false (.bin .gtr (.t 24) (.c (.int .i64 1048576))) (tq 26 (.pick (.t 22) (.c (.bool true)) (.t 25)) .done)))))))))
 (.cut (.cond (.t 26) (.seq (.reg (tm 4 (.c (.bool true)) .done))
 .ret)
 .skip)))
 (.seq (.reg (tm 27 (.t 1) (tq 28 (.call 8 [(.t 27),(.c (.int .i64 0)),(.c (.int .i64 3))]) (tm 5 (.t 28) .done))))
 (.seq (.reg (tq 29 (.call 14 []) (tq 30 (.field 0 1 false (.t 29)) (tm 31 (.t 5) (tq 32 (.iaddr 4 (.t 30) (.t 31)) (tq 33 (.load 4 true (.t 32)) (tq 6 (.box 4 (.c (.agg [(.str []),.nil,.nil,(.bool false)]))) (.q ⟨none,none,.store 4 (.t 6) (.t 33)⟩
 .done))))))))
 (.seq (.reg (tq 35 (.load 4 true (.t 6)) (tm 36 (.t 1) (.l ⟨(some 37),none,.call 8 [(.t 36),(.c (.int .i64 1)),(.c (.int .i64 99))]⟩ [⟨(some 35),none,.load 4 true (.t 6)⟩]
 (tq 38 (.bin .add (.c (.int .i64 1)) (.t 37)) (.l ⟨(some 39),none,.call 15 [(.t 35),(.t 38)]⟩ []
 (tm 34 (.t 39) (tq 40 (.extract 0 (.t 34)) (tq 41 (.extract 1 (.t 34)) (.l ⟨(some 7),none,.box 2 (.c (.agg [(.int .i64 0),.nil]))⟩ [⟨(some 35),none,.load 4 true (.t 6)⟩]
 (.l ⟨none,none,.store 2 (.t 7) (.t 40)⟩ []
 (tm 8 (.t 41) .done) .non) .non)))) (.l ⟨(some 7),none,.box 2 (.c (.agg [(.int .i64 0),.nil]))⟩ [⟨(some 35),none,.load 4 true (.t 6)⟩]
 (.l ⟨(some 39),none,.call 15 [(.t 35),(.t 38)]⟩ []
 (tm 34 (.t 39) (tq 40 (.extract 0 (.t 34)) (tq 41 (.extract 1 (.t 34)) (.l ⟨none,none,.store 2 (.t 7) (.t 40)⟩ []
 (tm 8 (.t 41) .done) .non)))) .non) .non))) (.l ⟨(some 7),none,.box 2 (.c (.agg [(.int .i64 0),.nil]))⟩ [⟨(some 35),none,.load 4 true (.t 6)⟩]
 (.l ⟨(some 37),none,.call 8 [(.t 36),(.c (.int .i64 1)),(.c (.int .i64 99))]⟩ [⟨(some 35),none,.load 4 true (.t 6)⟩]
 (tq 38 (.bin .add (.c (.int .i64 1)) (.t 37)) (.l ⟨(some 39),none,.call 15 [(.t 35),(.t 38)]⟩ []
 (tm 34 (.t 39) (tq 40 (.extract 0 (.t 34)) (tq 41 (.extract 1 (.t 34)) (.l ⟨none,none,.store 2 (.t 7) (.t 40)⟩ []
 (tm 8 (.t 41) .done) .non)))) .non)) .non) .non)))))
 (.cut (.seq (.reg (tm 42 (.t 0) (tm 43 (.t 5) (tq 44 (.call 16 [(.t 42),(.t 43)]) (tm 9 (.t 44) .done)))))
 (.seq (.reg (tq 46 (.load 4 true (.t 6)) (tq 47 (.load 2 true (.t 7)) (tm 48 (.t 9) (tq 49 (.call 17 [(.t 46),(.t 47),(.t 48)]) (tm 45 (.t 49) (tq 50 (.extract 0 (.t 45)) (tq 51 (.extract 1 (.t 45)) (tq 10 (.box 2 (.c (.agg [(.int .i64 0),.nil]))) (.q ⟨none,none,.store 2 (.t 10) (.t 50)⟩
 (tm 11 (.t 51) .done)))))))))))
 (.seq (.reg (tq 53 (.load 4 true (.t 6)) (tq 54 (.load 2 true (.t 7)) (tm 55 (.t 9) (tq 56 (.call 18 [(.t 53),(.t 54),(.t 55)]) (tm 52 (.t 56) (tq 57 (.extract 0 (.t 52)) (tq 58 (.extract 1 (.t 52)) (tq 12 (.box 2 (.c (.agg [(.int .i64 0),.nil]))) (.q ⟨none,none,.store 2 (.t 12) (.t 57)⟩
 (tm 13 (.t 58) .done)))))))))))
 (.seq (.seq (.reg (tm 59 (.t 8) (tq 60 (.bin .neq (.t 59) (.c (.int .i64 0))) (tm 61 (.t 60) (tg 62 61 false (.mov (.t 11)) (tg 63 61 false (.mov (.t 13)) (tg 64 61 false (.bin .neq (.t 62) (.t 63)) (tq 65 (.pick (.t 61) (.c (.bool true)) (.t 64)) (tm 66 (.t 65) (tg 67 66 false (.load 2 true (.t 10)) (tg 68 66 false (.load 2 true (.t 12)) (.l ⟨(some 69),(some (66,false)),.call 19 [(.t 67),(.t 68)]⟩ []
 (tg 70 66 false (.not (.t 69)) (tq 71 (.pick (.t 66) (.c (.bool true)) (.t 70)) (tm 72 (.t 71) (tg 73 72 false (.load 4 true (.t 6)) (tg 74 72 false (.load 2 true (.t 7)) (.l ⟨(some 75),(some (72,false)),.call 20 [(.t 73),(.t 74)]⟩ []
 (tg 76 72 false (.not (.t 75)) (tq 77 (.pick (.t 72) (.c (.bool true)) (.t 76)) (tm 78 (.t 77) (tg 79 78 false (.faddr 0 (.t 7)) (tg 80 78 false (.load 1 false (.t 79)) (tg 81 78 false (.mov (.t 1)) (.l ⟨(some 82),(some (78,false)),.call 8 [(.t 81),(.c (.int .i64 1)),(.c (.int .i64 99))]⟩ [⟨(some 80),(some (78,false)),.load 1 false (.t 79)⟩,⟨(some 79),(some (78,false)),.faddr 0 (.t 7)⟩]
 (tg 83 78 false (.bin .add (.c (.int .i64 1)) (.t 82)) (tg 84 78 false (.bin .neq (.t 80) (.t 83)) (tq 85 (.pick (.t 78) (.c (.bool true)) (.t 84)) .done))) .non))))))) .non)))))) .non))))))))))))
 (.cut (.cond (.t 85) (.seq (.reg (tm 4 (.c (.bool false)) .done))
 .ret)
 .skip)))
 (.seq (.seq (.reg (tm 86 (.t 11) (tq 87 (.bin .neq (.t 86) (.c (.int .i64 0))) .done)))
 (.cond (.t 87) (.seq (.reg (tq 88 (.faddr 1 (.t 10)) (tq 89 (.load 1 false (.t 88)) (tq 90 (.len (.t 89)) (tq 91 (.bin .eql (.t 90) (.c (.int .i64 0))) (tm 4 (.t 91) .done))))))
 .ret)
 .skip))
 (.seq (.seq (.reg (tm 14 (.c (.int .i64 0)) .done))
 (.block 0 (.loop (.seq (.seq (.reg (tm 92 (.t 14) (tq 93 (.faddr 1 (.t 6)) (tq 94 (.load 1 false (.t 93)) (tq 95 (.len (.t 94)) (tq 96 (.bin .lss (.t 92) (.t 95)) .done))))))
 (.cond (.t 96) .skip
 (.exit 0)))
 (.seq (.block 1 (.seq (.reg (tq 99 (.faddr 1 (.t 7)) (tq 100 (.load 1 false (.t 99)) (tm 101 (.t 14) (tq 102 (.iaddr 1 (.t 100) (.t 101)) (tq 103 (.load 1 false (.t 102)) (tm 15 (.t 103) .done)))))))
 (.seq (.seq (.reg (tm 16 (.c (.int .i64 0)) .done))
 (.block 2 (.loop (.seq (.seq (.reg (tm 104 (.t 16) (tm 105 (.t 9) (tq 106 (.len (.t 105)) (tq 107 (.bin .lss (.t 104) (.t 106)) .done)))))
 (.cond (.t 107) .skip
 (.exit 2)))
 (.seq (.block 3 (.seq (.reg (tm 110 (.t 9) (tm 111 (.t 16) (tq 112 (.iaddr 3 (.t 110) (.t 111)) (tq 113 (.faddr 0 (.t 112)) (tq 114 (.load 1 false (.t 113)) (tq 115 (.faddr 1 (.t 6)) (tq 116 (.load 1 false (.t 115)) (tm 117 (.t 14) (tq 118 (.iaddr 8 (.t 116) (.t 117)) (tq 119 (.faddr 0 (.t 118)) (tq 120 (.load 1 false (.t 119)) (tq 121 (.bin .eql (.t 114) (.t 120)) .done)))))))))))))
 (.cond (.t 121) (.reg (tm 122 (.t 9) (tm 123 (.t 16) (tq 124 (.iaddr 3 (.t 122) (.t 123)) (tq 125 (.faddr 1 (.t 124)) (tq 126 (.load 1 false (.t 125)) (tm 15 (.t 126) .done)))))))
 .skip)))
 (.reg (tm 108 (.t 16) (tq 109 (.bin .add (.t 108) (.c (.int .i64 1))) (tm 16 (.t 109) .done)))))))))
 (.cut (.seq (.reg (tq 128 (.load 4 true (.t 6)) (tq 129 (.load 2 true (.t 10)) (tq 130 (.faddr 1 (.t 6)) (tq 131 (.load 1 false (.t 130)) (tm 132 (.t 14) (tq 133 (.iaddr 8 (.t 131) (.t 132)) (tq 134 (.faddr 0 (.t 133)) (tq 135 (.load 1 false (.t 134)) (.l ⟨(some 136),none,.bslice 1 [(.t 135),(.c (.str [95,117,117,105,100]))]⟩ [⟨(some 129),none,.load 2 true (.t 10)⟩,⟨(some 128),none,.load 4 true (.t 6)⟩]
 (.l ⟨(some 137),none,.call 21 [(.t 128),(.t 129),(.t 136)]⟩ []
 (tm 127 (.t 137) (tq 138 (.extract 0 (.t 127)) (tq 139 (.extract 1 (.t 127)) (.l ⟨(some 17),none,.box 2 (.c (.agg [(.int .i64 0),.nil]))⟩ [⟨(some 135),none,.load 1 false (.t 134)⟩,⟨(some 134),none,.faddr 0 (.t 133)⟩,⟨(some 133),none,.iaddr 8 (.t 131) (.t 132)⟩,⟨(some 131),none,.load 1 false (.t 130)⟩,⟨(some 130),none,.faddr 1 (.t 6)⟩,⟨(some 129),none,.load 2 true (.t 10)⟩,⟨(some 128),none,.load 4 true (.t 6)⟩]
 (.l ⟨none,none,.store 2 (.t 17) (.t 138)⟩ []
 (tm 18 (.t 139) .done) .non) .non)))) (.l ⟨(some 17),none,.box 2 (.c (.agg [(.int .i64 0),.nil]))⟩ [⟨(some 135),none,.load 1 false (.t 134)⟩,⟨(some 134),none,.faddr 0 (.t 133)⟩,⟨(some 133),none,.iaddr 8 (.t 131) (.t 132)⟩,⟨(some 131),none,.load 1 false (.t 130)⟩,⟨(some 130),none,.faddr 1 (.t 6)⟩,⟨(some 129),none,.load 2 true (.t 10)⟩,⟨(some 128),none,.load 4 true (.t 6)⟩]
 (.l ⟨(some 137),none,.call 21 [(.t 128),(.t 129),(.t 136)]⟩ []
 (tm 127 (.t 137) (tq 138 (.extract 0 (.t 127)) (tq 139 (.extract 1 (.t 127)) (.l ⟨none,none,.store 2 (.t 17) (.t 138)⟩ []
 (tm 18 (.t 139) .done) .non)))) .non) .non)) (.l ⟨(some 17),none,.box 2 (.c (.agg [(.int .i64 0),.nil]))⟩ [⟨(some 135),none,.load 1 false (.t 134)⟩,⟨(some 134),none,.faddr 0 (.t 133)⟩,⟨(some 133),none,.iaddr 8 (.t 131) (.t 132)⟩,⟨(some 131),none,.load 1 false (.t 130)⟩,⟨(some 130),none,.faddr 1 (.t 6)⟩,⟨(some 129),none,.load 2 true (.t 10)⟩,⟨(some 128),none,.load 4 true (.t 6)⟩]
 (.l ⟨(some 136),none,.bslice 1 [(.t 135),(.c (.str [95,117,117,105,100]))]⟩ [⟨(some 129),none,.load 2 true (.t 10)⟩,⟨(some 128),none,.load 4 true (.t 6)⟩]
 (.l ⟨(some 137),none,.call 21 [(.t 128),(.t 129),(.t 136)]⟩ []
 (tm 127 (.t 137) (tq 138 (.extract 0 (.t 127)) (tq 139 (.extract 1 (.t 127)) (.l ⟨none,none,.store 2 (.t 17) (.t 138)⟩ []
 (tm 18 (.t 139) .done) .non)))) .non) .non) .non)))))))))))
 (.cut (.seq (.reg (tm 140 (.t 18) (tq 141 (.bin .neq (.t 140) (.c (.int .i64 0))) (tm 142 (.t 141) (tg 143 142 false (.faddr 1 (.t 17)) (tg 144 142 false (.load 1 false (.t 143)) (tg 145 142 false (.len (.t 144)) (tg 146 142 false (.bin .neq (.t 145) (.c (.int .i64 2))) (tq 147 (.pick (.t 142) (.c (.bool true)) (.t 146)) (tm 148 (.t 147) (tg 149 148 false (.faddr 1 (.t 17)) (tg 150 148 false (.load 1 false (.t 149)) (tg 151 148 false (.iaddr 1 (.t 150) (.c (.int .i64 0))) (tg 152 148 false (.load 1 false (.t 151)) (tg 153 148 false (.mov (.t 15)) (.l ⟨(some 154),(some (148,false)),.call 10 [(.t 152),(.t 153)]⟩ []
 (tg 155 148 false (.not (.t 154)) (tq 156 (.pick (.t 148) (.c (.bool true)) (.t 155)) (tm 157 (.t 156) (tg 158 157 false (.faddr 1 (.t 17)) (tg 159 157 false (.load 1 false (.t 158)) (tg 160 157 false (.iaddr 1 (.t 159) (.c (.int .i64 1))) (tg 161 157 false (.load 1 false (.t 160)) (tg 162 157 false (.len (.t 161)) (tg 163 157 false (.bin .neq (.t 162) (.c (.int .i64 1))) (tq 164 (.pick (.t 157) (.c (.bool true)) (.t 163)) (tm 165 (.t 164) (tg 166 165 false (.faddr 1 (.t 17)) (tg 167 165 false (.load 1 false (.t 166)) (tg 168 165 false (.iaddr 1 (.t 167) (.c (.int .i64 1))) (tg 169 165 false (.load 1 false (.t 168)) (tg 170 165 false (.iaddr 3 (.t 169) (.c (.int .i64 0))) (tg 171 165 false (.faddr 1 (.t 170)) (tg 172 165 false (.load 1 false (.t 171)) (tg 173 165 false (.faddr 0 (.t 7)) (tg 174 165 false (.load 1 false (.t 173)) (tg 175 165 false (.bin .neq (.t 172) (.t 174)) (tq 176 (.pick (.t 165) (.c (.bool true)) (.t 175)) .done)))))))))))))))))))))) .non))))))))))))))))
 (.cut (.cond (.t 176) (.seq (.reg (tm 4 (.c (.bool false)) .done))
 .ret)
 .skip)))))))))
 (.reg (tm 97 (.t 14) (tq 98 (.bin .add (.t 97) (.c (.int .i64 1))) (tm 14 (.t 98) .done)))))))))
 (.cut (.seq (.reg (tm 4 (.c (.bool true)) .done))
 .ret))))))))))))))
theorem fc4:fcomp Try.prog Try.f4 = some (c4.erase,[.mov (.t 4)],177):=by kernel_rfl
def laws_FnCells_L2 (x_354:GColumn):List GSet → (List GAtom) → Option (List GAtom)
  | [],due_375 =>
    some due_375
  | x_393 :: xs,due_375 =>
    if (x_393.Column == x_354.Name) then
    laws_FnCells_L2 x_354 xs x_393.Value 
    else
    laws_FnCells_L2 x_354 xs due_375 

def laws_FnCells_L1 (x_24:(List (List GAtom))) (r_30:(List GSet)) (x_16:GTable) (r_32:(GRow × Int)) (x_23:Int):List GColumn → Nat → Option (Fl Bool Unit)
  | [],i_250 =>
    some (.go ())
  | x_354 :: xs,i_250 =>
    (idx x_24 (i_250:Int)).bind fun x_357 =>
    (laws_FnCells_L2 x_354 r_30 x_357).bind fun due_385 =>
    (((impl_PickColumns x_16 r_32.1 [x_354.Name,[95,117,117,105,100]]).bind fun r_403 =>
    some (r_403.2,r_403.1.Id,r_403.1.Cells):Option (Int × Int × (List (List GAtom))))).bind fun p402 =>
    (match p402 with
    | (d_399,x_400,x_401) =>
    ((if (bif (d_399 != 0) then true else ((x_401.length:Int) != 2)) then
    some true
    else
    (idx x_401 0).bind fun x_424 =>
    (laws_sameDatum x_424 due_385).bind fun r_426 =>
    if (!r_426) then
    some true
    else
    (idx x_401 1).bind fun x_429 =>
    if ((x_429.length:Int) != 1) then
    some true
    else
    (idx x_401 1).bind fun x_433 =>
    (idx x_433 0).bind fun x_435 =>
    some (x_435.N != x_23):Option Bool)).bind fun s176_420 =>
    if s176_420 then
    some (.ret false)
    else
    laws_FnCells_L1 x_24 r_30 x_16 r_32 x_23 xs (i_250 + 1))

def laws_FnCells (code_1:(List Int)) (more_2:(List Int)):Option Bool :=
    ((if (decide ((code_1.length:Int) > 1048576)) then
    some true
    else
    some (decide ((more_2.length:Int) > 1048576)):Option Bool)).bind fun s26_6 =>
    if s26_6 then
    some true
    else
    (laws_at more_2 0 3).bind fun r_12 =>
    (spec_PlainSchema).bind fun r_14 =>
    (idx r_14.Tables r_12).bind fun x_16 =>
    (((laws_at more_2 1 99).bind fun r_26 =>
    (impl_FreshRow x_16 (w64 (1 + r_26))).bind fun r_28 =>
    some (r_28.2,r_28.1.Id,r_28.1.Cells):Option (Int × Int × (List (List GAtom))))).bind fun p25 =>
    (match p25 with
    | (a_22,x_23,x_24) =>
    (spec_SetsOf code_1 r_12).bind fun r_30 =>
    (impl_SetRow x_16 (⟨x_23,x_24⟩:GRow) r_30).bind fun r_32 =>
    (spec_SetRow x_16 (⟨x_23,x_24⟩:GRow) r_30).bind fun r_34 =>
    ((if (bif (a_22 != 0) then true else (r_32.2 != r_34.2)) then
    some true
    else
    (laws_sameRow r_32.1 r_34.1).bind fun r_48 =>
    if (!r_48) then
    some true
    else
    (impl_RowOK x_16 (⟨x_23,x_24⟩:GRow)).bind fun r_51 =>
    if (!r_51) then
    some true
    else
    (laws_at more_2 1 99).bind fun r_54 =>
    some (x_23 != w64 (1 + r_54)):Option Bool)).bind fun s85_45 =>
    if s85_45 then
    some false
    else
    if (r_32.2 != 0) then
    some ((r_32.1.Cells.length:Int) == 0)
    else
    (laws_FnCells_L1 x_24 r_30 x_16 r_32 x_23 x_16.Columns 0).bind fun q => (match q with
    | .ret r => some r
    | .go _ =>
    some true))
theorem w_laws_FnCells (code_1:(List Int)) (more_2:(List Int)) (r:Bool) (hf:laws_FnCells code_1 more_2 = some r):CallOK Try.prog 4 .flat [(.lst 1 (code_1.map enc_u8)),(.lst 1 (more_2.map enc_u8))] (.bool r):=by
 refine CallOK.of_awp mixed Try.func4 fc4 nle ?_;rw [argT_eq];unfold laws_FnCells at hf;unfold c4;refine (show awp Try.prog false 0 _ (ofL [(0,(.lst 1 (code_1.map enc_u8))),(1,(.lst 1 (more_2.map enc_u8)))]) [] _ from ?_);refine sr<|s_mov (.bool false) rfl<|dk<|awp_seq<|awp_seq<|?_
 obtain ⟨s26_6,hb1,hf⟩:=ob hf
 refine awp_cut ([(0,(.lst 1 (code_1.map enc_u8))),(1,(.lst 1 (more_2.map enc_u8))),(26,(.bool s26_6))],[]) ?_ ?_
 ·refine w_reg ?_
  rcases oi hb1 with ⟨c9,hb1⟩ | ⟨c9,hb1⟩
  ·refine s_mov (.lst 1 (code_1.map enc_u8)) rfl<|s_dof (o_len (enc:=enc_u8) rfl) fun hl8 => s_q (.bool (decide ((code_1.length:Int) > 1048576))) rfl rfl rfl<|s_mov (.bool (decide ((code_1.length:Int) > 1048576))) rfl<|s_lit (s:=22) (b:=true) rfl c9<|s_off rfl rfl<|s_off rfl rfl<|s_off rfl rfl<|s_q (.bool true) rfl trivial rfl<|w_done<|?_;obtain rfl:=os hb1;exact ⟨[],[],_,_,rfl,rfl,⟨.refl _,⟨.refl _,⟨.refl _,trivial⟩⟩⟩,(.refl _)⟩
  ·refine s_mov (.lst 1 (code_1.map enc_u8)) rfl<|s_dof (o_len (enc:=enc_u8) rfl) fun hl8 => s_q (.bool (decide ((code_1.length:Int) > 1048576))) rfl rfl rfl<|s_mov (.bool (decide ((code_1.length:Int) > 1048576))) rfl<|s_lit (s:=22) (b:=false) rfl (bf c9)<|s_on rfl<|s_mov (.lst 1 (more_2.map enc_u8)) rfl<|s_on rfl<|s_dof (o_len (enc:=enc_u8) rfl) fun hl10 => s_on rfl<|s_q (.bool (decide ((more_2.length:Int) > 1048576))) rfl rfl rfl<|s_q (.bool (decide ((more_2.length:Int) > 1048576))) rfl trivial rfl<|w_done<|?_;obtain rfl:=os hb1;exact ⟨[],[],_,_,rfl,rfl,⟨.refl _,⟨.refl _,⟨.refl _,trivial⟩⟩⟩,(.refl _)⟩
 ·rcases oi hf with ⟨c11,hf⟩ | ⟨c11,hf⟩
  ·refine w_condt rfl c11<|sr<|s_mov (.bool true) rfl<|dk<|w_ret<|?_;obtain rfl:=os hf;exact r_flat ⟨trivial,trivial⟩ rfl (.refl _)
  ·refine w_condf rfl (bf c11)<|w_skip<|k_seq<|sr<|?_
   obtain ⟨r_12,er13,hf⟩:=ob hf
   refine s_mov (.lst 1 (more_2.map enc_u8)) rfl<|s_do (o_call (w_laws_at _ _ _ _ er13) rfl (.refl _) rfl)<|s_mov (.int .i64 r_12) rfl<|dk<|sr<|?_
   obtain ⟨r_14,er15,hf⟩:=ob hf
   obtain ⟨x_16,ex17,hf⟩:=ob hf
   refine s_do (o_callc rfl (w_spec_PlainSchema _ er15) rfl (.refl _) rfl)<|s_q (.lst 4 (r_14.Tables.map encGTable)) rfl nle rfl<|s_mov (.int .i64 r_12) rfl<|s_do (o_iaddr (enc:=encGTable) rfl rfl (idx0 ex17) (idx1 ex17))<|s_q (encGTable x_16) rfl nle rfl<|s_do (o_box (j:=0) (c:=(.agg [(.str []),.nil,.nil,(.bool false)])) rfl trivial rfl rfl)<|s_do0 (o_storebox (v:=(.agg [(.str x_16.Name),(.lst 8 (x_16.Columns.map encGColumn)),(.lst 1 (x_16.Unique.map encI)),(.bool x_16.Root)])) (y':=(.agg [(.str x_16.Name),(.lst 8 (x_16.Columns.map encGColumn)),(.lst 1 (x_16.Unique.map encI)),(.bool x_16.Root)])) rfl rfl rfl trivial ⟨rfl,nle⟩ ⟨⟨rfl,trivial⟩,⟨⟨rfl,trivial⟩,⟨⟨rfl,trivial⟩,⟨⟨rfl,trivial⟩,trivial⟩⟩⟩⟩ rfl)<|?_
   refine dk<|awp_seq<|?_
   obtain ⟨p25,hb1,hf⟩:=ob hf
   refine awp_cut ([(0,(.lst 1 (code_1.map enc_u8))),(1,(.lst 1 (more_2.map enc_u8))),(5,(.int .i64 r_12)),(6,(.ptr 0 0 0)),(7,(.ptr 1 0 0)),(8,(.int .i64 p25.1))],[.box 4 (.agg [(.str x_16.Name),(.lst 8 (x_16.Columns.map encGColumn)),(.lst 1 (x_16.Unique.map encI)),(.bool x_16.Root)]),.box 2 (.agg [(.int .i64 p25.2.1),(.lst 1 (p25.2.2.map (encL 3 encGAtom)))])]) ?_ ?_
   ·refine w_reg ?_
    obtain ⟨r_26,er27,hb1⟩:=ob hb1
    obtain ⟨r_28,er29,hb1⟩:=ob hb1
    refine s_q (.agg [(.str x_16.Name),(.lst 8 (x_16.Columns.map encGColumn)),(.lst 1 (x_16.Unique.map encI)),(.bool x_16.Root)]) rfl nle rfl<|s_mov (.lst 1 (more_2.map enc_u8)) rfl<|?_;refine s_dol (o_call (w_laws_at _ _ _ _ er27) rfl (.refl _) rfl) a_same ?_ ?_
    ·refine s_dol (o_box (j:=1) (c:=(.agg [(.int .i64 0),.nil])) rfl trivial rfl rfl) (.inr ⟨⟨nle,rfl⟩,trivial⟩) trivial<|s_dol (o_call (w_laws_at _ _ _ _ er27) rfl (.refl _) rfl) a_same trivial<|s_q (.int .i64 (w64 (1 + r_26))) rfl rfl rfl<|s_dol (o_callc rfl (w_impl_FreshRow _ _ _ er29) rfl (.refl _) rfl) a_same trivial<|s_mov (.tup [(encGRow r_28.1),(.int .i64 r_28.2)]) rfl<|s_q (encGRow r_28.1) rfl nle rfl<|s_q (.int .i64 r_28.2) rfl nle rfl<|s_dol0 (o_storebox (v:=(.agg [(.int .i64 r_28.1.Id),(.lst 1 (r_28.1.Cells.map (encL 3 encGAtom)))])) (y':=(.agg [(.int .i64 r_28.1.Id),(.lst 1 (r_28.1.Cells.map (encL 3 encGAtom)))])) rfl rfl rfl trivial ⟨rfl,nle⟩ ⟨⟨rfl,trivial⟩,⟨⟨rfl,trivial⟩,trivial⟩⟩ rfl) trivial trivial<|?_
     refine s_mov (.int .i64 r_28.2) rfl<|w_done<|?_;obtain rfl:=os hb1;exact ⟨[],[0,1],_,_,rfl,rfl,⟨.refl _,⟨.refl _,⟨.refl _,⟨.refl _,⟨.refl _,⟨.refl _,trivial⟩⟩⟩⟩⟩⟩,(.refl _)⟩
    ·refine s_q (.int .i64 (w64 (1 + r_26))) rfl rfl rfl ?_;refine s_dol (o_callc rfl (w_impl_FreshRow _ _ _ er29) rfl (.refl _) rfl) a_same ?_ ?_
     ·refine s_dol (o_box (j:=1) (c:=(.agg [(.int .i64 0),.nil])) rfl trivial rfl rfl) (.inr ⟨⟨nle,rfl⟩,trivial⟩) trivial<|s_dol (o_callc rfl (w_impl_FreshRow _ _ _ er29) rfl (.refl _) rfl) a_same trivial<|s_mov (.tup [(encGRow r_28.1),(.int .i64 r_28.2)]) rfl<|s_q (encGRow r_28.1) rfl nle rfl<|s_q (.int .i64 r_28.2) rfl nle rfl<|s_dol0 (o_storebox (v:=(.agg [(.int .i64 r_28.1.Id),(.lst 1 (r_28.1.Cells.map (encL 3 encGAtom)))])) (y':=(.agg [(.int .i64 r_28.1.Id),(.lst 1 (r_28.1.Cells.map (encL 3 encGAtom)))])) rfl rfl rfl trivial ⟨rfl,nle⟩ ⟨⟨rfl,trivial⟩,⟨⟨rfl,trivial⟩,trivial⟩⟩ rfl) trivial trivial<|s_mov (.int .i64 r_28.2) rfl<|w_done<|?_;obtain rfl:=os hb1;exact ⟨[],[0,1],_,_,rfl,rfl,⟨.refl _,⟨.refl _,⟨.refl _,⟨.refl _,⟨.refl _,⟨.refl _,trivial⟩⟩⟩⟩⟩⟩,(.refl _)⟩
     ·refine s_mov (.tup [(encGRow r_28.1),(.int .i64 r_28.2)]) rfl<|s_q (encGRow r_28.1) rfl nle rfl<|s_q (.int .i64 r_28.2) rfl nle rfl<|s_dol (o_box (j:=1) (c:=(.agg [(.int .i64 0),.nil])) rfl trivial rfl rfl) (.inr ⟨⟨nle,rfl⟩,trivial⟩) trivial<|s_dol0 (o_storebox (v:=(.agg [(.int .i64 r_28.1.Id),(.lst 1 (r_28.1.Cells.map (encL 3 encGAtom)))])) (y':=(.agg [(.int .i64 r_28.1.Id),(.lst 1 (r_28.1.Cells.map (encL 3 encGAtom)))])) rfl rfl rfl trivial ⟨rfl,nle⟩ ⟨⟨rfl,trivial⟩,⟨⟨rfl,trivial⟩,trivial⟩⟩ rfl) trivial trivial<|s_mov (.int .i64 r_28.2) rfl<|w_done<|?_;obtain rfl:=os hb1;exact ⟨[],[0,1],_,_,rfl,rfl,⟨.refl _,⟨.refl _,⟨.refl _,⟨.refl _,⟨.refl _,⟨.refl _,trivial⟩⟩⟩⟩⟩⟩,(.refl _)⟩
   ·obtain ⟨a_22,x_23,x_24⟩:=p25
    refine sr<|?_
    obtain ⟨r_30,er31,hf⟩:=ob hf
    refine s_mov (.lst 1 (code_1.map enc_u8)) rfl<|s_mov (.int .i64 r_12) rfl<|s_do (o_callc rfl (w_spec_SetsOf _ _ _ er31) rfl (.refl _) rfl)<|s_mov (.lst 3 (r_30.map encGSet)) rfl<|dk<|sr<|?_
    obtain ⟨r_32,er33,hf⟩:=ob hf
    refine s_q (.agg [(.str x_16.Name),(.lst 8 (x_16.Columns.map encGColumn)),(.lst 1 (x_16.Unique.map encI)),(.bool x_16.Root)]) rfl nle rfl<|s_q (.agg [(.int .i64 x_23),(.lst 1 (x_24.map (encL 3 encGAtom)))]) rfl nle rfl<|s_mov (.lst 3 (r_30.map encGSet)) rfl<|s_do (o_callc rfl (w_impl_SetRow _ _ _ _ er33) rfl (.refl _) rfl)<|s_mov (.tup [(encGRow r_32.1),(.int .i64 r_32.2)]) rfl<|s_q (encGRow r_32.1) rfl nle rfl<|s_q (.int .i64 r_32.2) rfl nle rfl<|s_do (o_box (j:=2) (c:=(.agg [(.int .i64 0),.nil])) rfl trivial rfl rfl)<|s_do0 (o_storebox (v:=(.agg [(.int .i64 r_32.1.Id),(.lst 1 (r_32.1.Cells.map (encL 3 encGAtom)))])) (y':=(.agg [(.int .i64 r_32.1.Id),(.lst 1 (r_32.1.Cells.map (encL 3 encGAtom)))])) rfl rfl rfl trivial ⟨rfl,nle⟩ ⟨⟨rfl,trivial⟩,⟨⟨rfl,trivial⟩,trivial⟩⟩ rfl)<|?_
    refine s_mov (.int .i64 r_32.2) rfl<|dk<|sr<|?_
    obtain ⟨r_34,er35,hf⟩:=ob hf
    refine s_q (.agg [(.str x_16.Name),(.lst 8 (x_16.Columns.map encGColumn)),(.lst 1 (x_16.Unique.map encI)),(.bool x_16.Root)]) rfl nle rfl<|s_q (.agg [(.int .i64 x_23),(.lst 1 (x_24.map (encL 3 encGAtom)))]) rfl nle rfl<|s_mov (.lst 3 (r_30.map encGSet)) rfl<|s_do (o_callc rfl (w_spec_SetRow _ _ _ _ er35) rfl (.refl _) rfl)<|s_mov (.tup [(encGRow r_34.1),(.int .i64 r_34.2)]) rfl<|s_q (encGRow r_34.1) rfl nle rfl<|s_q (.int .i64 r_34.2) rfl nle rfl<|s_do (o_box (j:=3) (c:=(.agg [(.int .i64 0),.nil])) rfl trivial rfl rfl)<|s_do0 (o_storebox (v:=(.agg [(.int .i64 r_34.1.Id),(.lst 1 (r_34.1.Cells.map (encL 3 encGAtom)))])) (y':=(.agg [(.int .i64 r_34.1.Id),(.lst 1 (r_34.1.Cells.map (encL 3 encGAtom)))])) rfl rfl rfl trivial ⟨rfl,nle⟩ ⟨⟨rfl,trivial⟩,⟨⟨rfl,trivial⟩,trivial⟩⟩ rfl)<|?_
    refine s_mov (.int .i64 r_34.2) rfl<|dk<|awp_seq<|awp_seq<|?_
    obtain ⟨s85_45,hb1,hf⟩:=ob hf
    refine awp_cut ([(6,(.ptr 0 0 0)),(7,(.ptr 1 0 0)),(9,(.lst 3 (r_30.map encGSet))),(10,(.ptr 2 0 0)),(11,(.int .i64 r_32.2)),(85,(.bool s85_45))],[.box 4 (.agg [(.str x_16.Name),(.lst 8 (x_16.Columns.map encGColumn)),(.lst 1 (x_16.Unique.map encI)),(.bool x_16.Root)]),.box 2 (.agg [(.int .i64 x_23),(.lst 1 (x_24.map (encL 3 encGAtom)))]),.box 2 (.agg [(.int .i64 r_32.1.Id),(.lst 1 (r_32.1.Cells.map (encL 3 encGAtom)))])]) ?_ ?_
    ·refine w_reg<|s_mov (.int .i64 a_22) rfl<|s_q (.bool (a_22 != 0)) rfl rfl rfl<|s_mov (.bool (a_22 != 0)) rfl<|?_;refine s_g (v:=(a_22 != 0)) (.int .i64 r_32.2) rfl (fun hv => by (try simp only [gs_on hv]);exact ⟨rfl,trivial,rfl⟩) ?_;refine s_g (v:=(a_22 != 0)) (.int .i64 r_34.2) rfl (fun hv => by (try simp only [gs_on hv]);exact ⟨rfl,trivial,rfl⟩) ?_;refine s_g (v:=(a_22 != 0)) (.bool (r_32.2 != r_34.2)) rfl (fun hv => by (try simp only [gs_on hv]);exact ⟨rfl,rfl,rfl⟩) ?_;refine s_pick (x:=true) (y:=(r_32.2 != r_34.2)) rfl (fun hv => by (try simp only [gs_on hv]);rfl) (fun hv => by (try simp only [gs_on hv]);rfl) ?_;refine s_mov (.bool (bif (a_22 != 0) then true else (r_32.2 != r_34.2))) rfl ?_
     rcases oi hb1 with ⟨c47,hb1⟩ | ⟨c47,hb1⟩
     ·refine s_lit (s:=66) (b:=true) rfl c47<|s_off rfl rfl<|s_off rfl rfl<|s_offl rfl rfl trivial<|s_off rfl rfl<|s_q (.bool true) rfl trivial rfl<|s_mov (.bool true) rfl<|s_off rfl rfl<|s_off rfl rfl<|s_offl rfl rfl trivial<|s_off rfl rfl<|s_q (.bool true) rfl trivial rfl<|s_mov (.bool true) rfl<|s_off rfl rfl<|s_off rfl rfl<|s_off rfl rfl<|s_offl rfl rfl trivial<|s_off rfl rfl<|s_off rfl rfl<|s_q (.bool true) rfl trivial rfl<|w_done<|?_;obtain rfl:=os hb1;exact ⟨[],[0,1,2],_,_,rfl,rfl,⟨.refl _,⟨.refl _,⟨.refl _,⟨.refl _,⟨.refl _,⟨.refl _,trivial⟩⟩⟩⟩⟩⟩,(.refl _)⟩
     ·refine s_lit (s:=66) (b:=false) rfl (bf c47)<|s_on rfl<|s_q (.agg [(.int .i64 r_32.1.Id),(.lst 1 (r_32.1.Cells.map (encL 3 encGAtom)))]) rfl nle rfl<|s_on rfl<|s_q (.agg [(.int .i64 r_34.1.Id),(.lst 1 (r_34.1.Cells.map (encL 3 encGAtom)))]) rfl nle rfl<|s_onl rfl<|?_
      obtain ⟨r_48,er49,hb1⟩:=ob hb1
      refine s_dol (o_call (w_laws_sameRow _ _ _ er49) rfl (.refl _) rfl) a_same trivial<|s_on rfl<|s_q (.bool (!r_48)) rfl trivial rfl<|s_q (.bool (!r_48)) rfl trivial rfl<|s_mov (.bool (!r_48)) rfl<|?_
      rcases oi hb1 with ⟨c50,hb1⟩ | ⟨c50,hb1⟩
      ·refine s_lit (s:=72) (b:=true) rfl c50<|s_off rfl rfl<|s_off rfl rfl<|s_offl rfl rfl trivial<|s_off rfl rfl<|s_q (.bool true) rfl trivial rfl<|s_mov (.bool true) rfl<|s_off rfl rfl<|s_off rfl rfl<|s_off rfl rfl<|s_offl rfl rfl trivial<|s_off rfl rfl<|s_off rfl rfl<|s_q (.bool true) rfl trivial rfl<|w_done<|?_;obtain rfl:=os hb1;exact ⟨[],[0,1,2],_,_,rfl,rfl,⟨.refl _,⟨.refl _,⟨.refl _,⟨.refl _,⟨.refl _,⟨.refl _,trivial⟩⟩⟩⟩⟩⟩,(.refl _)⟩
      ·refine s_lit (s:=72) (b:=false) rfl (bf c50)<|s_on rfl<|s_q (.agg [(.str x_16.Name),(.lst 8 (x_16.Columns.map encGColumn)),(.lst 1 (x_16.Unique.map encI)),(.bool x_16.Root)]) rfl nle rfl<|s_on rfl<|s_q (.agg [(.int .i64 x_23),(.lst 1 (x_24.map (encL 3 encGAtom)))]) rfl nle rfl<|s_onl rfl<|?_
       obtain ⟨r_51,er52,hb1⟩:=ob hb1
       refine s_dol (o_call (w_impl_RowOK _ _ _ er52) rfl (.refl _) rfl) a_same trivial<|s_on rfl<|s_q (.bool (!r_51)) rfl trivial rfl<|s_q (.bool (!r_51)) rfl trivial rfl<|s_mov (.bool (!r_51)) rfl<|?_
       rcases oi hb1 with ⟨c53,hb1⟩ | ⟨c53,hb1⟩
       ·refine s_lit (s:=78) (b:=true) rfl c53<|s_off rfl rfl<|s_off rfl rfl<|s_off rfl rfl<|s_offl rfl rfl trivial<|s_off rfl rfl<|s_off rfl rfl<|s_q (.bool true) rfl trivial rfl<|w_done<|?_;obtain rfl:=os hb1;exact ⟨[],[0,1,2],_,_,rfl,rfl,⟨.refl _,⟨.refl _,⟨.refl _,⟨.refl _,⟨.refl _,⟨.refl _,trivial⟩⟩⟩⟩⟩⟩,(.refl _)⟩
       ·refine s_lit (s:=78) (b:=false) rfl (bf c53)<|s_on rfl<|s_q (.ptr 1 0 0) rfl trivial rfl<|s_on rfl<|s_q (.int .i64 x_23) rfl nle rfl<|s_on rfl<|s_mov (.lst 1 (more_2.map enc_u8)) rfl<|s_onl rfl<|?_
        obtain ⟨r_54,er55,hb1⟩:=ob hb1
        refine s_dol (o_call (w_laws_at _ _ _ _ er55) rfl (.refl _) rfl) a_same trivial<|s_on rfl<|s_q (.int .i64 (w64 (1 + r_54))) rfl rfl rfl<|s_on rfl<|s_q (.bool (x_23 != w64 (1 + r_54))) rfl rfl rfl<|s_q (.bool (x_23 != w64 (1 + r_54))) rfl trivial rfl<|w_done<|?_;obtain rfl:=os hb1;exact ⟨[],[0,1,2],_,_,rfl,rfl,⟨.refl _,⟨.refl _,⟨.refl _,⟨.refl _,⟨.refl _,⟨.refl _,trivial⟩⟩⟩⟩⟩⟩,(.refl _)⟩
    ·rcases oi hf with ⟨c56,hf⟩ | ⟨c56,hf⟩
     ·refine w_condt rfl c56<|sr<|s_mov (.bool false) rfl<|dk<|w_ret<|?_;obtain rfl:=os hf;exact r_flat ⟨trivial,trivial⟩ rfl (.refl _)
     ·refine w_condf rfl (bf c56)<|w_skip<|k_seq<|awp_seq<|sr<|s_mov (.int .i64 r_32.2) rfl<|s_q (.bool (r_32.2 != 0)) rfl rfl rfl<|dk<|?_
      rcases oi hf with ⟨c57,hf⟩ | ⟨c57,hf⟩
      ·refine w_condt rfl c57<|sr<|s_q (.ptr 2 0 1) rfl trivial rfl<|s_q (.lst 1 (r_32.1.Cells.map (encL 3 encGAtom))) rfl nle rfl<|s_dof (o_len (enc:=(encL 3 encGAtom)) rfl) fun hl58 => s_q (.bool ((r_32.1.Cells.length:Int) == 0)) rfl rfl rfl<|s_mov (.bool ((r_32.1.Cells.length:Int) == 0)) rfl<|dk<|w_ret<|?_;obtain rfl:=os hf;exact r_flat ⟨trivial,trivial⟩ rfl (.refl _)
      ·refine w_condf rfl (bf c57)<|w_skip<|k_seq<|awp_seq<|sr<|s_mov (.int .i64 0) rfl<|dk<|?_
       obtain ⟨p347,hb1,hf⟩:=ob hf
       refine awp_cutx (X:={q:Unit // p347 = .go q}) (fun q => ([],[])) ?_ ?_
       ·refine awp_loop (X:={q:Nat // laws_FnCells_L1 x_24 r_30 x_16 r_32 x_23 (x_16.Columns.drop q) q = some p347}) (fun q => ([(6,(.ptr 0 0 0)),(7,(.ptr 1 0 0)),(9,(.lst 3 (r_30.map encGSet))),(10,(.ptr 2 0 0)),(14,(.int .i64 (q.1:Int)))],[.box 4 (.agg [(.str x_16.Name),(.lst 8 (x_16.Columns.map encGColumn)),(.lst 1 (x_16.Unique.map encI)),(.bool x_16.Root)]),.box 2 (.agg [(.int .i64 x_23),(.lst 1 (x_24.map (encL 3 encGAtom)))]),.box 2 (.agg [(.int .i64 r_32.1.Id),(.lst 1 (r_32.1.Cells.map (encL 3 encGAtom)))])])) (fun q => x_16.Columns.length - q.1) ⟨0,hb1⟩ ⟨[],[0,1,2],_,_,rfl,rfl,⟨.refl _,⟨.refl _,⟨.refl _,⟨.refl _,⟨.refl _,trivial⟩⟩⟩⟩⟩,(.refl _)⟩ ?_
        rintro ⟨i_250,hc1⟩
        have hc1:laws_FnCells_L1 x_24 r_30 x_16 r_32 x_23 (x_16.Columns.drop i_250) i_250 = some p347:=hc1
        refine (show awp Try.prog false 0 _ (ofL [(6,(.ptr 0 0 0)),(7,(.ptr 1 0 0)),(9,(.lst 3 (r_30.map encGSet))),(10,(.ptr 2 0 0)),(14,(.int .i64 (i_250:Int)))]) [.box 4 (.agg [(.str x_16.Name),(.lst 8 (x_16.Columns.map encGColumn)),(.lst 1 (x_16.Unique.map encI)),(.bool x_16.Root)]),.box 2 (.agg [(.int .i64 x_23),(.lst 1 (x_24.map (encL 3 encGAtom)))]),.box 2 (.agg [(.int .i64 r_32.1.Id),(.lst 1 (r_32.1.Cells.map (encL 3 encGAtom)))])] _ from ?_)
        rcases dropc x_16.Columns i_250 with ⟨hie350,hd353⟩ | ⟨hlt348,x_354,hx349,hd353⟩
        ·rw [hd353,laws_FnCells_L1.eq_1] at hc1
         have hq352:=dlf hie350
         refine awp_seq<|sr<|s_mov (.int .i64 (i_250:Int)) rfl<|s_q (.ptr 0 0 1) rfl trivial rfl<|s_q (.lst 8 (x_16.Columns.map encGColumn)) rfl nle rfl<|s_dof (o_len (enc:=encGColumn) rfl) fun hl355 => s_q (.bool (decide ((i_250:Int) < (x_16.Columns.length:Int)))) rfl rfl rfl<|dk<|w_condf rfl hq352<|w_exit<|k_seqx<|k_loopx<|k_blkx<|?_;obtain rfl:=os hc1;exact k_cutn ⟨_,rfl⟩ ⟨[],[],_,_,rfl,rfl,trivial,(.refl _)⟩
        ·rw [hd353,laws_FnCells_L1.eq_2] at hc1
         have hq352:=dlt hlt348
         refine awp_seq<|sr<|s_mov (.int .i64 (i_250:Int)) rfl<|s_q (.ptr 0 0 1) rfl trivial rfl<|s_q (.lst 8 (x_16.Columns.map encGColumn)) rfl nle rfl<|s_dof (o_len (enc:=encGColumn) rfl) fun hl356 => s_q (.bool (decide ((i_250:Int) < (x_16.Columns.length:Int)))) rfl rfl rfl<|dk<|w_condt rfl hq352<|w_skip<|k_seq<|awp_seq<|w_blk<|sr<|?_
         obtain ⟨x_357,ex358,hc1⟩:=ob hc1
         refine s_q (.ptr 1 0 1) rfl trivial rfl<|s_q (.lst 1 (x_24.map (encL 3 encGAtom))) rfl nle rfl<|s_mov (.int .i64 (i_250:Int)) rfl<|s_do (o_iaddr (enc:=(encL 3 encGAtom)) rfl rfl (idx0 ex358) (idx1 ex358))<|s_q (.lst 3 (x_357.map encGAtom)) rfl ⟨rfl,rfl⟩ rfl<|s_mov (.lst 3 (x_357.map encGAtom)) rfl<|dk<|awp_seq<|sr<|s_mov (.int .i64 0) rfl<|dk<|?_
         obtain ⟨due_385,hb2,hc1⟩:=ob hc1
         refine awp_cut ([(6,(.ptr 0 0 0)),(7,(.ptr 1 0 0)),(9,(.lst 3 (r_30.map encGSet))),(10,(.ptr 2 0 0)),(14,(.int .i64 (i_250:Int))),(15,(.lst 3 (due_385.map encGAtom)))],[.box 4 (.agg [(.str x_16.Name),(.lst 8 (x_16.Columns.map encGColumn)),(.lst 1 (x_16.Unique.map encI)),(.bool x_16.Root)]),.box 2 (.agg [(.int .i64 x_23),(.lst 1 (x_24.map (encL 3 encGAtom)))]),.box 2 (.agg [(.int .i64 r_32.1.Id),(.lst 1 (r_32.1.Cells.map (encL 3 encGAtom)))])]) ?_ ?_
         ·refine awp_loop (X:={q:((List GAtom) × Nat) // laws_FnCells_L2 x_354 (r_30.drop q.2) q.1 = some due_385}) (fun q => ([(6,(.ptr 0 0 0)),(7,(.ptr 1 0 0)),(9,(.lst 3 (r_30.map encGSet))),(10,(.ptr 2 0 0)),(14,(.int .i64 (i_250:Int))),(15,(.lst 3 (q.1.1.map encGAtom))),(16,(.int .i64 (q.1.2:Int)))],[.box 4 (.agg [(.str x_16.Name),(.lst 8 (x_16.Columns.map encGColumn)),(.lst 1 (x_16.Unique.map encI)),(.bool x_16.Root)]),.box 2 (.agg [(.int .i64 x_23),(.lst 1 (x_24.map (encL 3 encGAtom)))]),.box 2 (.agg [(.int .i64 r_32.1.Id),(.lst 1 (r_32.1.Cells.map (encL 3 encGAtom)))])])) (fun q => r_30.length - q.1.2) ⟨(x_357,0),hb2⟩ ⟨[],[0,1,2],_,_,rfl,rfl,⟨.refl _,⟨.refl _,⟨.refl _,⟨.refl _,⟨.refl _,⟨.refl _,⟨.refl _,trivial⟩⟩⟩⟩⟩⟩⟩,(.refl _)⟩ ?_
          rintro ⟨⟨due_375,k_376⟩,hc2⟩
          have hc2:laws_FnCells_L2 x_354 (r_30.drop k_376) due_375 = some due_385:=hc2
          refine (show awp Try.prog false 0 _ (ofL [(6,(.ptr 0 0 0)),(7,(.ptr 1 0 0)),(9,(.lst 3 (r_30.map encGSet))),(10,(.ptr 2 0 0)),(14,(.int .i64 (i_250:Int))),(15,(.lst 3 (due_375.map encGAtom))),(16,(.int .i64 (k_376:Int)))]) [.box 4 (.agg [(.str x_16.Name),(.lst 8 (x_16.Columns.map encGColumn)),(.lst 1 (x_16.Unique.map encI)),(.bool x_16.Root)]),.box 2 (.agg [(.int .i64 x_23),(.lst 1 (x_24.map (encL 3 encGAtom)))]),.box 2 (.agg [(.int .i64 r_32.1.Id),(.lst 1 (r_32.1.Cells.map (encL 3 encGAtom)))])] _ from ?_)
          rcases dropc r_30 k_376 with ⟨hie389,hd392⟩ | ⟨hlt387,x_393,hx388,hd392⟩
          ·rw [hd392,laws_FnCells_L2.eq_1] at hc2
           have hq391:=dlf hie389
           refine awp_seq<|sr<|s_mov (.int .i64 (k_376:Int)) rfl<|s_mov (.lst 3 (r_30.map encGSet)) rfl<|s_dof (o_len (enc:=encGSet) rfl) fun hl394 => s_q (.bool (decide ((k_376:Int) < (r_30.length:Int)))) rfl rfl rfl<|dk<|w_condf rfl hq391<|w_exit<|k_seqx<|k_loopx<|k_blkx<|?_;obtain rfl:=os hc2;exact ⟨[],[0,1,2],_,_,rfl,rfl,⟨.refl _,⟨.refl _,⟨.refl _,⟨.refl _,⟨.refl _,⟨.refl _,trivial⟩⟩⟩⟩⟩⟩,(.refl _)⟩
          ·rw [hd392,laws_FnCells_L2.eq_2] at hc2
           have hq391:=dlt hlt387
           refine awp_seq<|sr<|s_mov (.int .i64 (k_376:Int)) rfl<|s_mov (.lst 3 (r_30.map encGSet)) rfl<|s_dof (o_len (enc:=encGSet) rfl) fun hl395 => s_q (.bool (decide ((k_376:Int) < (r_30.length:Int)))) rfl rfl rfl<|dk<|w_condt rfl hq391<|w_skip<|k_seq<|awp_seq<|w_blk<|sr<|s_mov (.lst 3 (r_30.map encGSet)) rfl<|s_mov (.int .i64 (k_376:Int)) rfl<|s_do (o_iaddrn (enc:=encGSet) rfl rfl hx388)<|s_q (.iptr (encGSet x_393) 0) rfl trivial rfl<|s_q (.str x_393.Column) rfl nle rfl<|s_q (.ptr 0 0 1) rfl trivial rfl<|s_q (.lst 8 (x_16.Columns.map encGColumn)) rfl nle rfl<|s_mov (.int .i64 (i_250:Int)) rfl<|s_do (o_iaddrn (enc:=encGColumn) rfl rfl hx349)<|?_
           refine s_q (.iptr (encGColumn x_354) 0) rfl trivial rfl<|s_q (.str x_354.Name) rfl nle rfl<|s_q (.bool (x_393.Column == x_354.Name)) rfl trivial rfl<|dk<|?_
           rcases oi hc2 with ⟨c396,hc2⟩ | ⟨c396,hc2⟩
           ·refine w_condt rfl c396<|w_reg<|s_mov (.lst 3 (r_30.map encGSet)) rfl<|s_mov (.int .i64 (k_376:Int)) rfl<|s_do (o_iaddrn (enc:=encGSet) rfl rfl hx388)<|s_q (.iptr (encGSet x_393) 1) rfl trivial rfl<|s_q (.lst 3 (x_393.Value.map encGAtom)) rfl nle rfl<|s_mov (.lst 3 (x_393.Value.map encGAtom)) rfl<|w_done<|k_blk<|k_seq<|w_reg<|s_mov (.int .i64 (k_376:Int)) rfl<|s_q (.int .i64 (w64 ((k_376:Int) + 1))) rfl rfl rfl<|s_mov (.int .i64 (w64 ((k_376:Int) + 1))) rfl<|w_done<|?_;exact k_loopn ⟨(x_393.Value,(k_376 + 1)),hc2⟩ (mul hlt387) ⟨[],[0,1,2],_,_,rfl,rfl,⟨.refl _,⟨.refl _,⟨.refl _,⟨.refl _,⟨.refl _,⟨.refl _,⟨.of_eq (congrArg (AV.int _) (w64_incr hlt387 hl395)),trivial⟩⟩⟩⟩⟩⟩⟩,(.refl _)⟩
           ·refine w_condf rfl (bf c396)<|w_skip<|k_blk<|k_seq<|w_reg<|s_mov (.int .i64 (k_376:Int)) rfl<|s_q (.int .i64 (w64 ((k_376:Int) + 1))) rfl rfl rfl<|s_mov (.int .i64 (w64 ((k_376:Int) + 1))) rfl<|w_done<|?_;exact k_loopn ⟨(due_375,(k_376 + 1)),hc2⟩ (mul hlt387) ⟨[],[0,1,2],_,_,rfl,rfl,⟨.refl _,⟨.refl _,⟨.refl _,⟨.refl _,⟨.refl _,⟨.refl _,⟨.of_eq (congrArg (AV.int _) (w64_incr hlt387 hl395)),trivial⟩⟩⟩⟩⟩⟩⟩,(.refl _)⟩
         ·refine awp_seq ?_
          obtain ⟨p402,hb2,hc1⟩:=ob hc1
          refine awp_cut ([(6,(.ptr 0 0 0)),(7,(.ptr 1 0 0)),(9,(.lst 3 (r_30.map encGSet))),(10,(.ptr 2 0 0)),(14,(.int .i64 (i_250:Int))),(15,(.lst 3 (due_385.map encGAtom))),(17,(.ptr 3 0 0)),(18,(.int .i64 p402.1))],[.box 4 (.agg [(.str x_16.Name),(.lst 8 (x_16.Columns.map encGColumn)),(.lst 1 (x_16.Unique.map encI)),(.bool x_16.Root)]),.box 2 (.agg [(.int .i64 x_23),(.lst 1 (x_24.map (encL 3 encGAtom)))]),.box 2 (.agg [(.int .i64 r_32.1.Id),(.lst 1 (r_32.1.Cells.map (encL 3 encGAtom)))]),.box 2 (.agg [(.int .i64 p402.2.1),(.lst 1 (p402.2.2.map (encL 3 encGAtom)))])]) ?_ ?_
          ·refine w_reg ?_
           obtain ⟨r_403,er404,hb2⟩:=ob hb2
           refine s_q (.agg [(.str x_16.Name),(.lst 8 (x_16.Columns.map encGColumn)),(.lst 1 (x_16.Unique.map encI)),(.bool x_16.Root)]) rfl nle rfl<|s_q (.agg [(.int .i64 r_32.1.Id),(.lst 1 (r_32.1.Cells.map (encL 3 encGAtom)))]) rfl nle rfl<|s_q (.ptr 0 0 1) rfl trivial rfl<|s_q (.lst 8 (x_16.Columns.map encGColumn)) rfl nle rfl<|s_mov (.int .i64 (i_250:Int)) rfl<|s_do (o_iaddrn (enc:=encGColumn) rfl rfl hx349)<|s_q (.iptr (encGColumn x_354) 0) rfl trivial rfl<|s_q (.str x_354.Name) rfl nle rfl<|?_;refine s_dol (o_bslice (j:=3) (as':=[(.str x_354.Name),(.str [95,117,117,105,100])]) rfl (fun _ => by decide) ⟨rfl,⟨rfl,trivial⟩⟩ (.refl _) rfl rfl rfl) (.inr ⟨⟨nle,rfl⟩,⟨⟨nle,rfl⟩,trivial⟩⟩) ?_ ?_
           ·refine s_dol (o_box (j:=3) (c:=(.agg [(.int .i64 0),.nil])) rfl trivial rfl rfl) (.inr ⟨⟨nle,rfl⟩,⟨⟨trivial,rfl⟩,⟨(ag_iaddrn (enc:=encGColumn) rfl rfl hx349),⟨⟨nle,rfl⟩,⟨⟨trivial,rfl⟩,⟨⟨nle,rfl⟩,⟨⟨nle,rfl⟩,trivial⟩⟩⟩⟩⟩⟩⟩) trivial ?_;refine s_dol (o_bslice (j:=4) (as':=[(.str x_354.Name),(.str [95,117,117,105,100])]) rfl (fun _ => by decide) ⟨rfl,⟨rfl,trivial⟩⟩ (.refl _) rfl rfl rfl) (.inr ⟨⟨nle,rfl⟩,⟨⟨nle,rfl⟩,trivial⟩⟩) trivial ?_;refine s_dol (o_callc rfl (w_impl_PickColumns _ _ _ _ er404) rfl (.cons (.refl _) (.cons (.refl _) (.cons (.of_eq (congrArg (AV.lst _) (by rfl))) .nil))) rfl) a_same trivial<|s_mov (.tup [(encGRow r_403.1),(.int .i64 r_403.2)]) rfl<|s_q (encGRow r_403.1) rfl nle rfl<|?_
            refine s_q (.int .i64 r_403.2) rfl nle rfl<|s_dol0 (o_storebox (v:=(.agg [(.int .i64 r_403.1.Id),(.lst 1 (r_403.1.Cells.map (encL 3 encGAtom)))])) (y':=(.agg [(.int .i64 r_403.1.Id),(.lst 1 (r_403.1.Cells.map (encL 3 encGAtom)))])) rfl rfl rfl trivial ⟨rfl,nle⟩ ⟨⟨rfl,trivial⟩,⟨⟨rfl,trivial⟩,trivial⟩⟩ rfl) trivial trivial<|s_mov (.int .i64 r_403.2) rfl<|w_done<|?_;obtain rfl:=os hb2;exact ⟨[],[0,1,2,3],_,_,rfl,rfl,⟨.refl _,⟨.refl _,⟨.refl _,⟨.refl _,⟨.refl _,⟨.refl _,⟨.refl _,⟨.refl _,trivial⟩⟩⟩⟩⟩⟩⟩⟩,(.refl _)⟩
           ·refine s_dol (o_callc rfl (w_impl_PickColumns _ _ _ _ er404) rfl (.cons (.refl _) (.cons (.refl _) (.cons (.of_eq (congrArg (AV.lst _) (by rfl))) .nil))) rfl) a_same ?_ ?_
            ·refine s_dol (o_box (j:=4) (c:=(.agg [(.int .i64 0),.nil])) rfl trivial rfl rfl) (.inr ⟨⟨nle,rfl⟩,⟨⟨trivial,rfl⟩,⟨(ag_iaddrn (enc:=encGColumn) rfl rfl hx349),⟨⟨nle,rfl⟩,⟨⟨trivial,rfl⟩,⟨⟨nle,rfl⟩,⟨⟨nle,rfl⟩,trivial⟩⟩⟩⟩⟩⟩⟩) trivial<|s_dol (o_callc rfl (w_impl_PickColumns _ _ _ _ er404) rfl (.cons (.refl _) (.cons (.refl _) (.cons (.of_eq (congrArg (AV.lst _) (by rfl))) .nil))) rfl) a_same trivial<|s_mov (.tup [(encGRow r_403.1),(.int .i64 r_403.2)]) rfl<|s_q (encGRow r_403.1) rfl nle rfl<|s_q (.int .i64 r_403.2) rfl nle rfl<|s_dol0 (o_storebox (v:=(.agg [(.int .i64 r_403.1.Id),(.lst 1 (r_403.1.Cells.map (encL 3 encGAtom)))])) (y':=(.agg [(.int .i64 r_403.1.Id),(.lst 1 (r_403.1.Cells.map (encL 3 encGAtom)))])) rfl rfl rfl trivial ⟨rfl,nle⟩ ⟨⟨rfl,trivial⟩,⟨⟨rfl,trivial⟩,trivial⟩⟩ rfl) trivial trivial<|?_
             refine s_mov (.int .i64 r_403.2) rfl<|w_done<|?_;obtain rfl:=os hb2;exact ⟨[],[0,1,2,4],_,_,rfl,rfl,⟨.refl _,⟨.refl _,⟨.refl _,⟨.refl _,⟨.refl _,⟨.refl _,⟨.refl _,⟨.refl _,trivial⟩⟩⟩⟩⟩⟩⟩⟩,(.refl _)⟩
            ·refine s_mov (.tup [(encGRow r_403.1),(.int .i64 r_403.2)]) rfl<|s_q (encGRow r_403.1) rfl nle rfl<|s_q (.int .i64 r_403.2) rfl nle rfl<|s_dol (o_box (j:=4) (c:=(.agg [(.int .i64 0),.nil])) rfl trivial rfl rfl) (.inr ⟨⟨nle,rfl⟩,⟨⟨trivial,rfl⟩,⟨(ag_iaddrn (enc:=encGColumn) rfl rfl hx349),⟨⟨nle,rfl⟩,⟨⟨trivial,rfl⟩,⟨⟨nle,rfl⟩,⟨⟨nle,rfl⟩,trivial⟩⟩⟩⟩⟩⟩⟩) trivial<|s_dol0 (o_storebox (v:=(.agg [(.int .i64 r_403.1.Id),(.lst 1 (r_403.1.Cells.map (encL 3 encGAtom)))])) (y':=(.agg [(.int .i64 r_403.1.Id),(.lst 1 (r_403.1.Cells.map (encL 3 encGAtom)))])) rfl rfl rfl trivial ⟨rfl,nle⟩ ⟨⟨rfl,trivial⟩,⟨⟨rfl,trivial⟩,trivial⟩⟩ rfl) trivial trivial<|s_mov (.int .i64 r_403.2) rfl<|?_
             refine w_done ?_;obtain rfl:=os hb2;exact ⟨[],[0,1,2,4],_,_,rfl,rfl,⟨.refl _,⟨.refl _,⟨.refl _,⟨.refl _,⟨.refl _,⟨.refl _,⟨.refl _,⟨.refl _,trivial⟩⟩⟩⟩⟩⟩⟩⟩,(.refl _)⟩
          ·obtain ⟨d_399,x_400,x_401⟩:=p402
           refine awp_seq ?_
           obtain ⟨s176_420,hb2,hc1⟩:=ob hc1
           refine awp_cut ([(6,(.ptr 0 0 0)),(7,(.ptr 1 0 0)),(9,(.lst 3 (r_30.map encGSet))),(10,(.ptr 2 0 0)),(14,(.int .i64 (i_250:Int))),(176,(.bool s176_420))],[.box 4 (.agg [(.str x_16.Name),(.lst 8 (x_16.Columns.map encGColumn)),(.lst 1 (x_16.Unique.map encI)),(.bool x_16.Root)]),.box 2 (.agg [(.int .i64 x_23),(.lst 1 (x_24.map (encL 3 encGAtom)))]),.box 2 (.agg [(.int .i64 r_32.1.Id),(.lst 1 (r_32.1.Cells.map (encL 3 encGAtom)))])]) ?_ ?_
           ·refine w_reg<|s_mov (.int .i64 d_399) rfl<|s_q (.bool (d_399 != 0)) rfl rfl rfl<|s_mov (.bool (d_399 != 0)) rfl<|?_;refine s_g (v:=(d_399 != 0)) (.ptr 3 0 1) rfl (fun hv => by (try simp only [gs_on hv]);exact ⟨rfl,trivial,rfl⟩) ?_;refine s_g (v:=(d_399 != 0)) (.lst 1 (x_401.map (encL 3 encGAtom))) rfl (fun hv => by (try simp only [gs_on hv]);exact ⟨rfl,nle,rfl⟩) ?_;refine s_g (v:=(d_399 != 0)) (.int .i64 (x_401.length:Int)) rfl (fun hv => by (try simp only [gs_on hv]);exact ⟨rfl,trivial,lenV _ _⟩) ?_;refine s_g (v:=(d_399 != 0)) (.bool ((x_401.length:Int) != 2)) rfl (fun hv => by (try simp only [gs_on hv]);exact ⟨rfl,rfl,rfl⟩) ?_;refine s_pick (x:=true) (y:=((x_401.length:Int) != 2)) rfl (fun hv => by (try simp only [gs_on hv]);rfl) (fun hv => by (try simp only [gs_on hv]);rfl) ?_
            refine s_mov (.bool (bif (d_399 != 0) then true else ((x_401.length:Int) != 2))) rfl ?_
            rcases oi hb2 with ⟨c423,hb2⟩ | ⟨c423,hb2⟩
            ·refine s_lit (s:=148) (b:=true) rfl c423<|s_off rfl rfl<|s_off rfl rfl<|s_off rfl rfl<|s_off rfl rfl<|s_off rfl rfl<|s_offl rfl rfl trivial<|s_off rfl rfl<|s_q (.bool true) rfl trivial rfl<|s_mov (.bool true) rfl<|s_off rfl rfl<|s_off rfl rfl<|s_off rfl rfl<|s_off rfl rfl<|s_off rfl rfl<|s_off rfl rfl<|s_q (.bool true) rfl trivial rfl<|s_mov (.bool true) rfl<|s_off rfl rfl<|s_off rfl rfl<|s_off rfl rfl<|s_off rfl rfl<|s_off rfl rfl<|s_off rfl rfl<|s_off rfl rfl<|s_off rfl rfl<|s_off rfl rfl<|s_off rfl rfl<|s_q (.bool true) rfl trivial rfl<|w_done<|?_;obtain rfl:=os hb2;exact ⟨[],[0,1,2],_,_,rfl,rfl,⟨.refl _,⟨.refl _,⟨.refl _,⟨.refl _,⟨.refl _,⟨.refl _,trivial⟩⟩⟩⟩⟩⟩,(.refl _)⟩
            ·refine s_lit (s:=148) (b:=false) rfl (bf c423)<|s_on rfl<|s_q (.ptr 3 0 1) rfl trivial rfl<|s_on rfl<|s_q (.lst 1 (x_401.map (encL 3 encGAtom))) rfl nle rfl<|s_on rfl<|?_
             obtain ⟨x_424,ex425,hb2⟩:=ob hb2
             refine s_do (o_iaddr (enc:=(encL 3 encGAtom)) rfl rfl (idx0 ex425) (idx1 ex425))<|s_on rfl<|s_q (.lst 3 (x_424.map encGAtom)) rfl ⟨rfl,rfl⟩ rfl<|s_on rfl<|s_mov (.lst 3 (due_385.map encGAtom)) rfl<|s_onl rfl<|?_
             obtain ⟨r_426,er427,hb2⟩:=ob hb2
             refine s_dol (o_call (w_laws_sameDatum _ _ _ er427) rfl (.refl _) rfl) a_same trivial<|s_on rfl<|s_q (.bool (!r_426)) rfl trivial rfl<|s_q (.bool (!r_426)) rfl trivial rfl<|s_mov (.bool (!r_426)) rfl<|?_
             rcases oi hb2 with ⟨c428,hb2⟩ | ⟨c428,hb2⟩
             ·refine s_lit (s:=157) (b:=true) rfl c428<|s_off rfl rfl<|s_off rfl rfl<|s_off rfl rfl<|s_off rfl rfl<|s_off rfl rfl<|s_off rfl rfl<|s_q (.bool true) rfl trivial rfl<|s_mov (.bool true) rfl<|s_off rfl rfl<|s_off rfl rfl<|s_off rfl rfl<|s_off rfl rfl<|s_off rfl rfl<|s_off rfl rfl<|s_off rfl rfl<|s_off rfl rfl<|s_off rfl rfl<|s_off rfl rfl<|s_q (.bool true) rfl trivial rfl<|w_done<|?_;obtain rfl:=os hb2;exact ⟨[],[0,1,2],_,_,rfl,rfl,⟨.refl _,⟨.refl _,⟨.refl _,⟨.refl _,⟨.refl _,⟨.refl _,trivial⟩⟩⟩⟩⟩⟩,(.refl _)⟩
             ·refine s_lit (s:=157) (b:=false) rfl (bf c428)<|s_on rfl<|s_q (.ptr 3 0 1) rfl trivial rfl<|s_on rfl<|s_q (.lst 1 (x_401.map (encL 3 encGAtom))) rfl nle rfl<|s_on rfl<|?_
              obtain ⟨x_429,ex430,hb2⟩:=ob hb2
              refine s_do (o_iaddr (enc:=(encL 3 encGAtom)) rfl rfl (idx0 ex430) (idx1 ex430))<|s_on rfl<|s_q (.lst 3 (x_429.map encGAtom)) rfl ⟨rfl,rfl⟩ rfl<|s_on rfl<|s_dof (o_len (enc:=encGAtom) rfl) fun hl431 => s_on rfl<|s_q (.bool ((x_429.length:Int) != 1)) rfl rfl rfl<|s_q (.bool ((x_429.length:Int) != 1)) rfl trivial rfl<|s_mov (.bool ((x_429.length:Int) != 1)) rfl<|?_
              rcases oi hb2 with ⟨c432,hb2⟩ | ⟨c432,hb2⟩
              ·refine s_lit (s:=165) (b:=true) rfl c432<|s_off rfl rfl<|s_off rfl rfl<|s_off rfl rfl<|s_off rfl rfl<|s_off rfl rfl<|s_off rfl rfl<|s_off rfl rfl<|s_off rfl rfl<|s_off rfl rfl<|s_off rfl rfl<|s_q (.bool true) rfl trivial rfl<|w_done<|?_;obtain rfl:=os hb2;exact ⟨[],[0,1,2],_,_,rfl,rfl,⟨.refl _,⟨.refl _,⟨.refl _,⟨.refl _,⟨.refl _,⟨.refl _,trivial⟩⟩⟩⟩⟩⟩,(.refl _)⟩
              ·refine s_lit (s:=165) (b:=false) rfl (bf c432)<|s_on rfl<|s_q (.ptr 3 0 1) rfl trivial rfl<|s_on rfl<|s_q (.lst 1 (x_401.map (encL 3 encGAtom))) rfl nle rfl<|s_on rfl<|?_
               obtain ⟨x_433,ex434,hb2⟩:=ob hb2
               refine s_do (o_iaddr (enc:=(encL 3 encGAtom)) rfl rfl (idx0 ex434) (idx1 ex434))<|s_on rfl<|s_q (.lst 3 (x_433.map encGAtom)) rfl ⟨rfl,rfl⟩ rfl<|s_on rfl<|?_
               obtain ⟨x_435,ex436,hb2⟩:=ob hb2
               refine s_do (o_iaddr (enc:=encGAtom) rfl rfl (idx0 ex436) (idx1 ex436))<|s_on rfl<|s_q (.iptr (encGAtom x_435) 1) rfl trivial rfl<|s_on rfl<|s_q (.int .i64 x_435.N) rfl nle rfl<|s_on rfl<|s_q (.ptr 1 0 0) rfl trivial rfl<|s_on rfl<|s_q (.int .i64 x_23) rfl nle rfl<|s_on rfl<|s_q (.bool (x_435.N != x_23)) rfl rfl rfl<|s_q (.bool (x_435.N != x_23)) rfl trivial rfl<|w_done<|?_;obtain rfl:=os hb2;exact ⟨[],[0,1,2],_,_,rfl,rfl,⟨.refl _,⟨.refl _,⟨.refl _,⟨.refl _,⟨.refl _,⟨.refl _,trivial⟩⟩⟩⟩⟩⟩,(.refl _)⟩
           ·rcases oi hc1 with ⟨c437,hc1⟩ | ⟨c437,hc1⟩
            ·refine w_condt rfl c437<|sr<|s_mov (.bool false) rfl<|dk<|w_ret<|?_;obtain rfl:=os hc1;obtain rfl:=os hf;exact r_flat ⟨trivial,trivial⟩ rfl (.refl _)
            ·refine w_condf rfl (bf c437)<|w_skip<|k_blk<|k_seq<|w_reg<|s_mov (.int .i64 (i_250:Int)) rfl<|s_q (.int .i64 (w64 ((i_250:Int) + 1))) rfl rfl rfl<|s_mov (.int .i64 (w64 ((i_250:Int) + 1))) rfl<|w_done<|?_;exact k_loopn ⟨(i_250 + 1),hc1⟩ (mul hlt348) ⟨[],[0,1,2],_,_,rfl,rfl,⟨.refl _,⟨.refl _,⟨.refl _,⟨.refl _,⟨.of_eq (congrArg (AV.int _) (w64_incr hlt348 hl356)),trivial⟩⟩⟩⟩⟩,(.refl _)⟩
       ·rintro ⟨_,rfl⟩
        refine sr<|s_mov (.bool true) rfl<|dk<|w_ret<|?_;obtain rfl:=os hf;exact r_flat ⟨trivial,trivial⟩ rfl (.refl _)

end Go.R
