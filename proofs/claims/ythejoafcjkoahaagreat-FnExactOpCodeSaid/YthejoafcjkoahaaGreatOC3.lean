/- Walks. -/
import Derived.Test.YthejoafcjkoahaaGreatOC2
set_option linter.all false
namespace Go.R
open Go Go.Proofs
set_option linter.unusedVariables false
set_option linter.unusedSimpArgs false
set_option maxHeartbeats 8000000
/- spec.l06Conds -/
def c74:ACode :=
 (.seq (.reg (tq 2 (.box 4 (.t 0)) (tm 4 (.c (.int .i64 0)) .done)))
 (.seq (.seq (.reg (tm 5 (.c (.int .i64 0)) .done))
 (.block 0 (.loop (.seq (.seq (.reg (tm 7 (.t 5) (tm 8 (.t 1) (tq 9 (.len (.t 8)) (tq 10 (.bin .lss (.t 7) (.t 9)) .done)))))
 (.cond (.t 10) .skip
 (.exit 0)))
 (.seq (.block 1 (.seq (.reg (tq 13 (.load 4 true (.t 2)) (tm 14 (.t 1) (tm 15 (.t 5) (tq 16 (.iaddr 3 (.t 14) (.t 15)) (tq 17 (.load 3 true (.t 16)) (.l ⟨(some 18),none,.call 127 [(.t 13),(.t 17)]⟩ []
 (tm 6 (.t 18) .done) .non)))))))
 (.seq (.reg (tm 19 (.t 6) (tq 20 (.bin .neq (.t 19) (.c (.int .i64 0))) .done)))
 (.cond (.t 20) (.seq (.reg (tm 21 (.t 6) (tm 4 (.t 21) .done)))
 .ret)
 .skip))))
 (.reg (tm 11 (.t 5) (tq 12 (.bin .add (.t 11) (.c (.int .i64 1))) (tm 5 (.t 12) .done)))))))))
 (.cut (.seq (.reg (tm 4 (.c (.int .i64 0)) .done))
 .ret))))
theorem fc74:fcomp Tryz.prog Tryz.f74 = some (c74.erase,[.mov (.t 4)],22):=by kernel_rfl
def spec_l06Conds_L1 (t_1:GTable):List GCond → Option (Fl Int Unit)
  | [] =>
    some (.go ())
  | x_34 :: xs =>
    (spec_l06Code t_1 x_34).bind fun r_37 =>
    if (r_37 != 0) then
    some (.ret r_37)
    else
    spec_l06Conds_L1 t_1 xs 

def spec_l06Conds (t_1:GTable) (list_2:(List GCond)):Option Int :=
    (spec_l06Conds_L1 t_1 list_2 ).bind fun q => (match q with
    | .ret r => some r
    | .go _ =>
    some 0)
theorem w_spec_l06Conds (t_1:GTable) (list_2:(List GCond)) (r:Int) (hf:spec_l06Conds t_1 list_2 = some r):CallOK Tryz.prog 74 .flat [(encGTable t_1),(.lst 3 (list_2.map encGCond))] (.int .i64 r):=by
 refine CallOK.of_awp mixed Tryz.func74 fc74 nle ?_;rw [argT_eq];unfold spec_l06Conds at hf;unfold c74;refine (show awp Tryz.prog false 0 _ (ofL [(0,(encGTable t_1)),(1,(.lst 3 (list_2.map encGCond)))]) [] _ from ?_);refine sr<|s_do (o_box (j:=0) (c:=(.agg [(.str t_1.Name),(.lst 8 (t_1.Columns.map encGColumn)),(.lst 1 (t_1.Unique.map encI)),(.bool t_1.Root)])) rfl trivial rfl rfl)<|s_mov (.int .i64 0) rfl<|dk<|awp_seq<|sr<|s_mov (.int .i64 0) rfl<|dk<|?_
 obtain ⟨p27,hb1,hf⟩:=ob hf
 refine awp_cutx (X:={q:Unit // p27 = .go q}) (fun q => ([],[])) ?_ ?_
 ·refine awp_loop (X:={q:Nat // spec_l06Conds_L1 t_1 (list_2.drop q)  = some p27}) (fun q => ([(1,(.lst 3 (list_2.map encGCond))),(2,(.ptr 0 0 0)),(5,(.int .i64 (q.1:Int)))],[.box 4 (.agg [(.str t_1.Name),(.lst 8 (t_1.Columns.map encGColumn)),(.lst 1 (t_1.Unique.map encI)),(.bool t_1.Root)])])) (fun q => list_2.length - q.1) ⟨0,hb1⟩ ⟨[],[0],_,_,rfl,rfl,⟨.refl _,⟨.refl _,⟨.refl _,trivial⟩⟩⟩,(.refl _)⟩ ?_
  rintro ⟨i_18,hc1⟩
  have hc1:spec_l06Conds_L1 t_1 (list_2.drop i_18)  = some p27:=hc1
  refine (show awp Tryz.prog false 0 _ (ofL [(1,(.lst 3 (list_2.map encGCond))),(2,(.ptr 0 0 0)),(5,(.int .i64 (i_18:Int)))]) [.box 4 (.agg [(.str t_1.Name),(.lst 8 (t_1.Columns.map encGColumn)),(.lst 1 (t_1.Unique.map encI)),(.bool t_1.Root)])] _ from ?_)
  rcases dropc list_2 i_18 with ⟨hie30,hd33⟩ | ⟨hlt28,x_34,hx29,hd33⟩
  ·rw [hd33,spec_l06Conds_L1.eq_1] at hc1
   have hq32:=dlf hie30
   refine awp_seq<|sr<|s_mov (.int .i64 (i_18:Int)) rfl<|s_mov (.lst 3 (list_2.map encGCond)) rfl<|s_dof (o_len (enc:=encGCond) rfl) fun hl35 => s_q (.bool (decide ((i_18:Int) < (list_2.length:Int)))) rfl rfl rfl<|dk<|w_condf rfl hq32<|w_exit<|k_seqx<|k_loopx<|k_blkx<|?_;obtain rfl:=os hc1;exact k_cutn ⟨_,rfl⟩ ⟨[],[],_,_,rfl,rfl,trivial,(.refl _)⟩
  ·rw [hd33,spec_l06Conds_L1.eq_2] at hc1
   have hq32:=dlt hlt28
   refine awp_seq<|sr<|s_mov (.int .i64 (i_18:Int)) rfl<|s_mov (.lst 3 (list_2.map encGCond)) rfl<|s_dof (o_len (enc:=encGCond) rfl) fun hl36 => s_q (.bool (decide ((i_18:Int) < (list_2.length:Int)))) rfl rfl rfl<|dk<|w_condt rfl hq32<|w_skip<|k_seq<|awp_seq<|w_blk<|sr<|?_
   obtain ⟨r_37,er38,hc1⟩:=ob hc1
   refine s_q (.agg [(.str t_1.Name),(.lst 8 (t_1.Columns.map encGColumn)),(.lst 1 (t_1.Unique.map encI)),(.bool t_1.Root)]) rfl nle rfl<|s_mov (.lst 3 (list_2.map encGCond)) rfl<|s_mov (.int .i64 (i_18:Int)) rfl<|s_do (o_iaddrn (enc:=encGCond) rfl rfl hx29)<|s_q (encGCond x_34) rfl nle rfl<|s_dol (o_call (w_spec_l06Code _ _ _ er38) rfl (.refl _) rfl) a_same trivial<|s_mov (.int .i64 r_37) rfl<|dk<|sr<|s_mov (.int .i64 r_37) rfl<|s_q (.bool (r_37 != 0)) rfl rfl rfl<|dk<|?_
   rcases oi hc1 with ⟨c39,hc1⟩ | ⟨c39,hc1⟩
   ·refine w_condt rfl c39<|sr<|s_mov (.int .i64 r_37) rfl<|s_mov (.int .i64 r_37) rfl<|dk<|w_ret<|?_;obtain rfl:=os hc1;obtain rfl:=os hf;exact r_flat ⟨trivial,trivial⟩ rfl (.refl _)
   ·refine w_condf rfl (bf c39)<|w_skip<|k_blk<|k_seq<|w_reg<|s_mov (.int .i64 (i_18:Int)) rfl<|s_q (.int .i64 (w64 ((i_18:Int) + 1))) rfl rfl rfl<|s_mov (.int .i64 (w64 ((i_18:Int) + 1))) rfl<|w_done<|?_;exact k_loopn ⟨(i_18 + 1),hc1⟩ (mul hlt28) ⟨[],[0],_,_,rfl,rfl,⟨.refl _,⟨.refl _,⟨.of_eq (congrArg (AV.int _) (w64_incr hlt28 hl36)),trivial⟩⟩⟩,(.refl _)⟩
 ·rintro ⟨_,rfl⟩
  refine sr<|s_mov (.int .i64 0) rfl<|dk<|w_ret<|?_;obtain rfl:=os hf;exact r_flat ⟨trivial,trivial⟩ rfl (.refl _)

/- spec.l08Sets -/
def c75:ACode :=
 (.seq (.reg (tq 2 (.box 4 (.t 0)) (tm 4 (.c (.int .i64 0)) .done)))
 (.seq (.seq (.reg (tm 5 (.c (.int .i64 0)) .done))
 (.block 0 (.loop (.seq (.seq (.reg (tm 9 (.t 5) (tm 10 (.t 1) (tq 11 (.len (.t 10)) (tq 12 (.bin .lss (.t 9) (.t 11)) .done)))))
 (.cond (.t 12) .skip
 (.exit 0)))
 (.seq (.block 1 (.seq (.reg (tq 15 (.load 4 true (.t 2)) (tm 16 (.t 1) (tm 17 (.t 5) (tq 18 (.iaddr 3 (.t 16) (.t 17)) (tq 19 (.faddr 0 (.t 18)) (tq 20 (.load 1 false (.t 19)) (.l ⟨(some 21),none,.call 73 [(.t 15),(.t 20)]⟩ []
 (tm 6 (.t 21) .done) .non))))))))
 (.seq (.seq (.reg (tm 22 (.t 6) (tq 23 (.bin .lss (.t 22) (.c (.int .i64 0))) .done)))
 (.cond (.t 23) (.seq (.reg (tm 4 (.c (.int .i64 11)) .done))
 .ret)
 .skip))
 (.seq (.seq (.reg (tm 7 (.c (.int .i64 0)) .done))
 (.block 2 (.loop (.seq (.seq (.reg (tm 24 (.t 7) (tm 25 (.t 5) (tq 26 (.bin .lss (.t 24) (.t 25)) .done))))
 (.cond (.t 26) .skip
 (.exit 2)))
 (.seq (.block 3 (.seq (.reg (tm 29 (.t 1) (tm 30 (.t 7) (tq 31 (.iaddr 3 (.t 29) (.t 30)) (tq 32 (.faddr 0 (.t 31)) (tq 33 (.load 1 false (.t 32)) (tm 34 (.t 1) (tm 35 (.t 5) (tq 36 (.iaddr 3 (.t 34) (.t 35)) (tq 37 (.faddr 0 (.t 36)) (tq 38 (.load 1 false (.t 37)) (tq 39 (.bin .eql (.t 33) (.t 38)) .done))))))))))))
 (.cond (.t 39) (.seq (.reg (tm 4 (.c (.int .i64 8)) .done))
 .ret)
 .skip)))
 (.reg (tm 27 (.t 7) (tq 28 (.bin .add (.t 27) (.c (.int .i64 1))) (tm 7 (.t 28) .done)))))))))
 (.cut (.seq (.reg (tq 40 (.faddr 1 (.t 2)) (tq 41 (.load 1 false (.t 40)) (tm 42 (.t 6) (tq 43 (.iaddr 8 (.t 41) (.t 42)) (tq 44 (.faddr 1 (.t 43)) (tq 45 (.load 1 false (.t 44)) (tm 8 (.t 45) .done))))))))
 (.seq (.reg (tm 46 (.t 1) (tm 47 (.t 5) (tq 48 (.iaddr 3 (.t 46) (.t 47)) (tq 49 (.faddr 1 (.t 48)) (tq 50 (.load 1 false (.t 49)) (tq 51 (.len (.t 50)) (tq 52 (.bin .gtr (.t 51) (.c (.int .i64 0))) (tm 53 (.t 52) (tg 54 53 true (.mov (.t 1)) (tg 55 53 true (.mov (.t 5)) (tg 56 53 true (.iaddr 3 (.t 54) (.t 55)) (tg 57 53 true (.faddr 1 (.t 56)) (tg 58 53 true (.load 1 false (.t 57)) (tg 59 53 true (.iaddr 3 (.t 58) (.c (.int .i64 0))) (tg 60 53 true (.faddr 0 (.t 59)) (tg 61 53 true (.load 1 false (.t 60)) (tg 62 53 true (.mov (.t 8)) (tg 63 53 true (.bin .neq (.t 61) (.t 62)) (tq 64 (.pick (.t 53) (.t 63) (.c (.bool false))) (tm 65 (.t 64) (tg 66 65 false (.mov (.t 1)) (tg 67 65 false (.mov (.t 5)) (tg 68 65 false (.iaddr 3 (.t 66) (.t 67)) (tg 69 65 false (.faddr 2 (.t 68)) (tg 70 65 false (.load 1 false (.t 69)) (tg 71 65 false (.len (.t 70)) (tg 72 65 false (.bin .gtr (.t 71) (.c (.int .i64 0))) (tg 73 65 false (.mov (.t 72)) (tg 74 73 true (.mov (.t 8)) (tg 75 73 true (.bin .neq (.t 74) (.c (.int .i64 4))) (tg 76 65 false (.pick (.t 73) (.t 75) (.c (.bool false))) (tq 77 (.pick (.t 65) (.c (.bool true)) (.t 76)) .done)))))))))))))))))))))))))))))))))
 (.cut (.cond (.t 77) (.seq (.reg (tm 4 (.c (.int .i64 9)) .done))
 .ret)
 .skip)))))))))
 (.reg (tm 13 (.t 5) (tq 14 (.bin .add (.t 13) (.c (.int .i64 1))) (tm 5 (.t 14) .done)))))))))
 (.cut (.seq (.reg (tm 4 (.c (.int .i64 0)) .done))
 .ret))))
theorem fc75:fcomp Tryz.prog Tryz.f75 = some (c75.erase,[.mov (.t 4)],78):=by kernel_rfl
def spec_l08Sets_L2 (i_190:Nat) (list_2:(List GSet)) (x_292:GSet):Nat → Int → Option (Fl Int Unit)
  | 0,_ => none
  | k + 1,n_321 =>
    if (decide (n_321 < (i_190:Int))) then
    (idx list_2 n_321).bind fun x_328 =>
    if (x_328.Column == x_292.Column) then
    some (.ret 8)
    else
    spec_l08Sets_L2 i_190 list_2 x_292 k (w64 (n_321 + 1))
    else
    some (.go ())

def spec_l08Sets_L1 (t_1:GTable) (list_2:(List GSet)):List GSet → Nat → Option (Fl Int Unit)
  | [],i_190 =>
    some (.go ())
  | x_292 :: xs,i_190 =>
    (spec_l04Column t_1 x_292.Column).bind fun r_295 =>
    if (decide (r_295 < 0)) then
    some (.ret 11)
    else
    (spec_l08Sets_L2 i_190 list_2 x_292 FUEL 0).bind fun q => (match q with
    | .ret r => some (.ret r)
    | .go _ =>
    (idx t_1.Columns r_295).bind fun x_331 =>
    ((if (decide ((x_292.Value.length:Int) > 0)) then
    (idx x_292.Value 0).bind fun x_346 =>
    if (x_346.Kind != x_331.Kind) then
    some true
    else
    if (decide ((x_292.Names.length:Int) > 0)) then
    some (x_331.Kind != 4)
    else
    some false
    else
    if (decide ((x_292.Names.length:Int) > 0)) then
    some (x_331.Kind != 4)
    else
    some false:Option Bool)).bind fun s77_342 =>
    if s77_342 then
    some (.ret 9)
    else
    spec_l08Sets_L1 t_1 list_2 xs (i_190 + 1))

def spec_l08Sets (t_1:GTable) (list_2:(List GSet)):Option Int :=
    (spec_l08Sets_L1 t_1 list_2 list_2 0).bind fun q => (match q with
    | .ret r => some r
    | .go _ =>
    some 0)
theorem w_spec_l08Sets (t_1:GTable) (list_2:(List GSet)) (r:Int) (hf:spec_l08Sets t_1 list_2 = some r):CallOK Tryz.prog 75 .flat [(encGTable t_1),(.lst 3 (list_2.map encGSet))] (.int .i64 r):=by
 refine CallOK.of_awp mixed Tryz.func75 fc75 nle ?_;rw [argT_eq];unfold spec_l08Sets at hf;unfold c75;refine (show awp Tryz.prog false 0 _ (ofL [(0,(encGTable t_1)),(1,(.lst 3 (list_2.map encGSet)))]) [] _ from ?_);refine sr<|s_do (o_box (j:=0) (c:=(.agg [(.str t_1.Name),(.lst 8 (t_1.Columns.map encGColumn)),(.lst 1 (t_1.Unique.map encI)),(.bool t_1.Root)])) rfl trivial rfl rfl)<|s_mov (.int .i64 0) rfl<|dk<|awp_seq<|sr<|s_mov (.int .i64 0) rfl<|dk<|?_
 obtain ⟨p285,hb1,hf⟩:=ob hf
 refine awp_cutx (X:={q:Unit // p285 = .go q}) (fun q => ([],[])) ?_ ?_
 ·refine awp_loop (X:={q:Nat // spec_l08Sets_L1 t_1 list_2 (list_2.drop q) q = some p285}) (fun q => ([(1,(.lst 3 (list_2.map encGSet))),(2,(.ptr 0 0 0)),(5,(.int .i64 (q.1:Int)))],[.box 4 (.agg [(.str t_1.Name),(.lst 8 (t_1.Columns.map encGColumn)),(.lst 1 (t_1.Unique.map encI)),(.bool t_1.Root)])])) (fun q => list_2.length - q.1) ⟨0,hb1⟩ ⟨[],[0],_,_,rfl,rfl,⟨.refl _,⟨.refl _,⟨.refl _,trivial⟩⟩⟩,(.refl _)⟩ ?_
  rintro ⟨i_190,hc1⟩
  have hc1:spec_l08Sets_L1 t_1 list_2 (list_2.drop i_190) i_190 = some p285:=hc1
  refine (show awp Tryz.prog false 0 _ (ofL [(1,(.lst 3 (list_2.map encGSet))),(2,(.ptr 0 0 0)),(5,(.int .i64 (i_190:Int)))]) [.box 4 (.agg [(.str t_1.Name),(.lst 8 (t_1.Columns.map encGColumn)),(.lst 1 (t_1.Unique.map encI)),(.bool t_1.Root)])] _ from ?_)
  rcases dropc list_2 i_190 with ⟨hie288,hd291⟩ | ⟨hlt286,x_292,hx287,hd291⟩
  ·rw [hd291,spec_l08Sets_L1.eq_1] at hc1
   have hq290:=dlf hie288
   refine awp_seq<|sr<|s_mov (.int .i64 (i_190:Int)) rfl<|s_mov (.lst 3 (list_2.map encGSet)) rfl<|s_dof (o_len (enc:=encGSet) rfl) fun hl293 => s_q (.bool (decide ((i_190:Int) < (list_2.length:Int)))) rfl rfl rfl<|dk<|w_condf rfl hq290<|w_exit<|k_seqx<|k_loopx<|k_blkx<|?_;obtain rfl:=os hc1;exact k_cutn ⟨_,rfl⟩ ⟨[],[],_,_,rfl,rfl,trivial,(.refl _)⟩
  ·rw [hd291,spec_l08Sets_L1.eq_2] at hc1
   have hq290:=dlt hlt286
   refine awp_seq<|sr<|s_mov (.int .i64 (i_190:Int)) rfl<|s_mov (.lst 3 (list_2.map encGSet)) rfl<|s_dof (o_len (enc:=encGSet) rfl) fun hl294 => s_q (.bool (decide ((i_190:Int) < (list_2.length:Int)))) rfl rfl rfl<|dk<|w_condt rfl hq290<|w_skip<|k_seq<|awp_seq<|w_blk<|sr<|?_
   obtain ⟨r_295,er296,hc1⟩:=ob hc1
   refine s_q (.agg [(.str t_1.Name),(.lst 8 (t_1.Columns.map encGColumn)),(.lst 1 (t_1.Unique.map encI)),(.bool t_1.Root)]) rfl nle rfl<|s_mov (.lst 3 (list_2.map encGSet)) rfl<|s_mov (.int .i64 (i_190:Int)) rfl<|s_do (o_iaddrn (enc:=encGSet) rfl rfl hx287)<|s_q (.iptr (encGSet x_292) 0) rfl trivial rfl<|s_q (.str x_292.Column) rfl nle rfl<|s_dol (o_call (w_spec_l04Column _ _ _ er296) rfl (.refl _) rfl) a_same trivial<|s_mov (.int .i64 r_295) rfl<|dk<|awp_seq<|sr<|s_mov (.int .i64 r_295) rfl<|s_q (.bool (decide (r_295 < 0))) rfl rfl rfl<|dk<|?_
   rcases oi hc1 with ⟨c297,hc1⟩ | ⟨c297,hc1⟩
   ·refine w_condt rfl c297<|sr<|s_mov (.int .i64 11) rfl<|dk<|w_ret<|?_;obtain rfl:=os hc1;obtain rfl:=os hf;exact r_flat ⟨trivial,trivial⟩ rfl (.refl _)
   ·refine w_condf rfl (bf c297)<|w_skip<|k_seq<|awp_seq<|sr<|s_mov (.int .i64 0) rfl<|dk<|?_
    obtain ⟨p326,hb2,hc1⟩:=ob hc1
    refine awp_cutx (X:={q:Unit // p326 = .go q}) (fun q => ([(1,(.lst 3 (list_2.map encGSet))),(2,(.ptr 0 0 0)),(5,(.int .i64 (i_190:Int))),(6,(.int .i64 r_295))],[.box 4 (.agg [(.str t_1.Name),(.lst 8 (t_1.Columns.map encGColumn)),(.lst 1 (t_1.Unique.map encI)),(.bool t_1.Root)])])) ?_ ?_
    ·refine awp_loop (X:={q:(Nat × Int) // spec_l08Sets_L2 i_190 list_2 x_292 q.1 q.2 = some p326}) (fun q => ([(1,(.lst 3 (list_2.map encGSet))),(2,(.ptr 0 0 0)),(5,(.int .i64 (i_190:Int))),(6,(.int .i64 r_295)),(7,(.int .i64 q.1.2))],[.box 4 (.agg [(.str t_1.Name),(.lst 8 (t_1.Columns.map encGColumn)),(.lst 1 (t_1.Unique.map encI)),(.bool t_1.Root)])])) (fun q => q.1.1) ⟨(FUEL,0),hb2⟩ ⟨[],[0],_,_,rfl,rfl,⟨.refl _,⟨.refl _,⟨.refl _,⟨.refl _,⟨.refl _,trivial⟩⟩⟩⟩⟩,(.refl _)⟩ ?_
     rintro ⟨⟨k,n_321⟩,hc2⟩
     have hc2:spec_l08Sets_L2 i_190 list_2 x_292 k n_321 = some p326:=hc2
     refine (show awp Tryz.prog false 0 _ (ofL [(1,(.lst 3 (list_2.map encGSet))),(2,(.ptr 0 0 0)),(5,(.int .i64 (i_190:Int))),(6,(.int .i64 r_295)),(7,(.int .i64 n_321))]) [.box 4 (.agg [(.str t_1.Name),(.lst 8 (t_1.Columns.map encGColumn)),(.lst 1 (t_1.Unique.map encI)),(.bool t_1.Root)])] _ from ?_)
     rcases k with _ | k
     ·rw [spec_l08Sets_L2.eq_1] at hc2
      cases hc2
     ·rw [spec_l08Sets_L2.eq_2] at hc2;refine awp_seq<|sr<|s_mov (.int .i64 n_321) rfl<|s_mov (.int .i64 (i_190:Int)) rfl<|s_q (.bool (decide (n_321 < (i_190:Int)))) rfl rfl rfl<|dk<|?_
      rcases oi hc2 with ⟨c327,hc2⟩ | ⟨c327,hc2⟩
      ·refine w_condt rfl c327<|w_skip<|k_seq<|awp_seq<|w_blk<|sr<|?_
       obtain ⟨x_328,ex329,hc2⟩:=ob hc2
       refine s_mov (.lst 3 (list_2.map encGSet)) rfl<|s_mov (.int .i64 n_321) rfl<|s_do (o_iaddr (enc:=encGSet) rfl rfl (idx0 ex329) (idx1 ex329))<|s_q (.iptr (encGSet x_328) 0) rfl trivial rfl<|s_q (.str x_328.Column) rfl nle rfl<|s_mov (.lst 3 (list_2.map encGSet)) rfl<|s_mov (.int .i64 (i_190:Int)) rfl<|s_do (o_iaddrn (enc:=encGSet) rfl rfl hx287)<|s_q (.iptr (encGSet x_292) 0) rfl trivial rfl<|s_q (.str x_292.Column) rfl nle rfl<|s_q (.bool (x_328.Column == x_292.Column)) rfl trivial rfl<|dk<|?_
       rcases oi hc2 with ⟨c330,hc2⟩ | ⟨c330,hc2⟩
       ·refine w_condt rfl c330<|sr<|s_mov (.int .i64 8) rfl<|dk<|w_ret<|?_;obtain rfl:=os hc2;obtain rfl:=os hc1;obtain rfl:=os hf;exact r_flat ⟨trivial,trivial⟩ rfl (.refl _)
       ·refine w_condf rfl (bf c330)<|w_skip<|k_blk<|k_seq<|w_reg<|s_mov (.int .i64 n_321) rfl<|s_q (.int .i64 (w64 (n_321 + 1))) rfl rfl rfl<|s_mov (.int .i64 (w64 (n_321 + 1))) rfl<|w_done<|?_;exact k_loopn ⟨(k,w64 (n_321 + 1)),hc2⟩ (Nat.lt_succ_self _) ⟨[],[0],_,_,rfl,rfl,⟨.refl _,⟨.refl _,⟨.refl _,⟨.refl _,⟨.refl _,trivial⟩⟩⟩⟩⟩,(.refl _)⟩
      ·refine w_condf rfl (bf c327)<|w_exit<|k_seqx<|k_loopx<|k_blkx<|?_;obtain rfl:=os hc2;exact k_cutn ⟨_,rfl⟩ ⟨[],[0],_,_,rfl,rfl,⟨.refl _,⟨.refl _,⟨.refl _,⟨.refl _,trivial⟩⟩⟩⟩,(.refl _)⟩
    ·rintro ⟨_,rfl⟩
     refine sr<|?_
     obtain ⟨x_331,ex332,hc1⟩:=ob hc1
     refine s_q (.ptr 0 0 1) rfl trivial rfl<|s_q (.lst 8 (t_1.Columns.map encGColumn)) rfl nle rfl<|s_mov (.int .i64 r_295) rfl<|s_do (o_iaddr (enc:=encGColumn) rfl rfl (idx0 ex332) (idx1 ex332))<|s_q (.iptr (encGColumn x_331) 1) rfl trivial rfl<|s_q (.int .i64 x_331.Kind) rfl nle rfl<|s_mov (.int .i64 x_331.Kind) rfl<|dk<|awp_seq<|?_
     obtain ⟨s77_342,hb2,hc1⟩:=ob hc1
     refine awp_cut ([(1,(.lst 3 (list_2.map encGSet))),(2,(.ptr 0 0 0)),(5,(.int .i64 (i_190:Int))),(77,(.bool s77_342))],[.box 4 (.agg [(.str t_1.Name),(.lst 8 (t_1.Columns.map encGColumn)),(.lst 1 (t_1.Unique.map encI)),(.bool t_1.Root)])]) ?_ ?_
     ·refine w_reg<|s_mov (.lst 3 (list_2.map encGSet)) rfl<|s_mov (.int .i64 (i_190:Int)) rfl<|s_do (o_iaddrn (enc:=encGSet) rfl rfl hx287)<|s_q (.iptr (encGSet x_292) 1) rfl trivial rfl<|s_q (.lst 3 (x_292.Value.map encGAtom)) rfl nle rfl<|s_dof (o_len (enc:=encGAtom) rfl) fun hl344 => s_q (.bool (decide ((x_292.Value.length:Int) > 0))) rfl rfl rfl<|s_mov (.bool (decide ((x_292.Value.length:Int) > 0))) rfl<|?_
      rcases oi hb2 with ⟨c345,hb2⟩ | ⟨c345,hb2⟩
      ·refine s_lit (s:=53) (b:=true) rfl c345<|s_on rfl<|s_mov (.lst 3 (list_2.map encGSet)) rfl<|s_on rfl<|s_mov (.int .i64 (i_190:Int)) rfl<|s_on rfl<|s_do (o_iaddrn (enc:=encGSet) rfl rfl hx287)<|s_on rfl<|s_q (.iptr (encGSet x_292) 1) rfl trivial rfl<|s_on rfl<|s_q (.lst 3 (x_292.Value.map encGAtom)) rfl nle rfl<|s_on rfl<|?_
       obtain ⟨x_346,ex347,hb2⟩:=ob hb2
       refine s_do (o_iaddr (enc:=encGAtom) rfl rfl (idx0 ex347) (idx1 ex347))<|s_on rfl<|s_q (.iptr (encGAtom x_346) 0) rfl trivial rfl<|s_on rfl<|s_q (.int .i64 x_346.Kind) rfl nle rfl<|s_on rfl<|s_mov (.int .i64 x_331.Kind) rfl<|s_on rfl<|s_q (.bool (x_346.Kind != x_331.Kind)) rfl rfl rfl<|s_q (.bool (x_346.Kind != x_331.Kind)) rfl trivial rfl<|s_mov (.bool (x_346.Kind != x_331.Kind)) rfl<|?_
       rcases oi hb2 with ⟨c348,hb2⟩ | ⟨c348,hb2⟩
       ·refine s_lit (s:=65) (b:=true) rfl c348<|s_off rfl rfl<|s_off rfl rfl<|s_off rfl rfl<|s_off rfl rfl<|s_off rfl rfl<|s_off rfl rfl<|s_off rfl rfl<|s_off rfl rfl<|s_offs rfl<|s_offs rfl<|s_off rfl rfl<|s_q (.bool true) rfl trivial rfl<|w_done<|?_;obtain rfl:=os hb2;exact ⟨[],[0],_,_,rfl,rfl,⟨.refl _,⟨.refl _,⟨.refl _,⟨.refl _,trivial⟩⟩⟩⟩,(.refl _)⟩
       ·refine s_lit (s:=65) (b:=false) rfl (bf c348)<|s_on rfl<|s_mov (.lst 3 (list_2.map encGSet)) rfl<|s_on rfl<|s_mov (.int .i64 (i_190:Int)) rfl<|s_on rfl<|s_do (o_iaddrn (enc:=encGSet) rfl rfl hx287)<|s_on rfl<|s_q (.iptr (encGSet x_292) 2) rfl trivial rfl<|s_on rfl<|s_q (.lst 1 (x_292.Names.map AV.str)) rfl nle rfl<|s_on rfl<|s_dof (o_len (enc:=AV.str) rfl) fun hl349 => s_on rfl<|s_q (.bool (decide ((x_292.Names.length:Int) > 0))) rfl rfl rfl<|s_on rfl<|s_mov (.bool (decide ((x_292.Names.length:Int) > 0))) rfl<|?_
        rcases oi hb2 with ⟨c350,hb2⟩ | ⟨c350,hb2⟩
        ·refine s_lit (s:=73) (b:=true) rfl c350<|s_on rfl<|s_mov (.int .i64 x_331.Kind) rfl<|s_on rfl<|s_q (.bool (x_331.Kind != 4)) rfl rfl rfl<|s_on rfl<|s_q (.bool (x_331.Kind != 4)) rfl trivial rfl<|s_q (.bool (x_331.Kind != 4)) rfl trivial rfl<|w_done<|?_;obtain rfl:=os hb2;exact ⟨[],[0],_,_,rfl,rfl,⟨.refl _,⟨.refl _,⟨.refl _,⟨.refl _,trivial⟩⟩⟩⟩,(.refl _)⟩
        ·refine s_lit (s:=73) (b:=false) rfl (bf c350)<|s_off rfl rfl<|s_off rfl rfl<|s_on rfl<|s_q (.bool false) rfl trivial rfl<|s_q (.bool false) rfl trivial rfl<|w_done<|?_;obtain rfl:=os hb2;exact ⟨[],[0],_,_,rfl,rfl,⟨.refl _,⟨.refl _,⟨.refl _,⟨.refl _,trivial⟩⟩⟩⟩,(.refl _)⟩
      ·refine s_lit (s:=53) (b:=false) rfl (bf c345)<|s_off rfl rfl<|s_off rfl rfl<|s_off rfl rfl<|s_off rfl rfl<|s_off rfl rfl<|s_off rfl rfl<|s_off rfl rfl<|s_off rfl rfl<|s_off rfl rfl<|s_off rfl rfl<|s_q (.bool false) rfl trivial rfl<|s_mov (.bool false) rfl<|s_on rfl<|s_mov (.lst 3 (list_2.map encGSet)) rfl<|s_on rfl<|s_mov (.int .i64 (i_190:Int)) rfl<|s_on rfl<|s_do (o_iaddrn (enc:=encGSet) rfl rfl hx287)<|s_on rfl<|s_q (.iptr (encGSet x_292) 2) rfl trivial rfl<|s_on rfl<|s_q (.lst 1 (x_292.Names.map AV.str)) rfl nle rfl<|s_on rfl<|s_dof (o_len (enc:=AV.str) rfl) fun hl351 => s_on rfl<|s_q (.bool (decide ((x_292.Names.length:Int) > 0))) rfl rfl rfl<|?_
       refine s_on rfl<|s_mov (.bool (decide ((x_292.Names.length:Int) > 0))) rfl<|?_
       rcases oi hb2 with ⟨c352,hb2⟩ | ⟨c352,hb2⟩
       ·refine s_lit (s:=73) (b:=true) rfl c352<|s_on rfl<|s_mov (.int .i64 x_331.Kind) rfl<|s_on rfl<|s_q (.bool (x_331.Kind != 4)) rfl rfl rfl<|s_on rfl<|s_q (.bool (x_331.Kind != 4)) rfl trivial rfl<|s_q (.bool (x_331.Kind != 4)) rfl trivial rfl<|w_done<|?_;obtain rfl:=os hb2;exact ⟨[],[0],_,_,rfl,rfl,⟨.refl _,⟨.refl _,⟨.refl _,⟨.refl _,trivial⟩⟩⟩⟩,(.refl _)⟩
       ·refine s_lit (s:=73) (b:=false) rfl (bf c352)<|s_off rfl rfl<|s_off rfl rfl<|s_on rfl<|s_q (.bool false) rfl trivial rfl<|s_q (.bool false) rfl trivial rfl<|w_done<|?_;obtain rfl:=os hb2;exact ⟨[],[0],_,_,rfl,rfl,⟨.refl _,⟨.refl _,⟨.refl _,⟨.refl _,trivial⟩⟩⟩⟩,(.refl _)⟩
     ·rcases oi hc1 with ⟨c353,hc1⟩ | ⟨c353,hc1⟩
      ·refine w_condt rfl c353<|sr<|s_mov (.int .i64 9) rfl<|dk<|w_ret<|?_;obtain rfl:=os hc1;obtain rfl:=os hf;exact r_flat ⟨trivial,trivial⟩ rfl (.refl _)
      ·refine w_condf rfl (bf c353)<|w_skip<|k_blk<|k_seq<|w_reg<|s_mov (.int .i64 (i_190:Int)) rfl<|s_q (.int .i64 (w64 ((i_190:Int) + 1))) rfl rfl rfl<|s_mov (.int .i64 (w64 ((i_190:Int) + 1))) rfl<|w_done<|?_;exact k_loopn ⟨(i_190 + 1),hc1⟩ (mul hlt286) ⟨[],[0],_,_,rfl,rfl,⟨.refl _,⟨.refl _,⟨.of_eq (congrArg (AV.int _) (w64_incr hlt286 hl294)),trivial⟩⟩⟩,(.refl _)⟩
 ·rintro ⟨_,rfl⟩
  refine sr<|s_mov (.int .i64 0) rfl<|dk<|w_ret<|?_;obtain rfl:=os hf;exact r_flat ⟨trivial,trivial⟩ rfl (.refl _)

/- spec.l07Code -/
def c128:ACode :=
 (.seq (.reg (tq 2 (.box 4 (.t 0)) (tq 3 (.box 3 (.t 1)) (tm 4 (.c (.int .i64 0)) .done))))
 (.seq (.reg (tq 7 (.load 4 true (.t 2)) (tq 8 (.faddr 0 (.t 3)) (tq 9 (.load 1 false (.t 8)) (tq 10 (.call 73 [(.t 7),(.t 9)]) (tm 5 (.t 10) .done))))))
 (.seq (.seq (.reg (tm 11 (.t 5) (tq 12 (.bin .lss (.t 11) (.c (.int .i64 0))) .done)))
 (.cond (.t 12) (.seq (.reg (tm 4 (.c (.int .i64 11)) .done))
 .ret)
 .skip))
 (.seq (.reg (tq 13 (.faddr 1 (.t 2)) (tq 14 (.load 1 false (.t 13)) (tm 15 (.t 5) (tq 16 (.iaddr 8 (.t 14) (.t 15)) (tq 17 (.faddr 1 (.t 16)) (tq 18 (.load 1 false (.t 17)) (tm 6 (.t 18) .done))))))))
 (.seq (.seq (.reg (tq 19 (.faddr 2 (.t 3)) (tq 20 (.load 1 false (.t 19)) (tq 21 (.len (.t 20)) (tq 22 (.bin .gtr (.t 21) (.c (.int .i64 0))) (tm 23 (.t 22) (tg 24 23 true (.faddr 2 (.t 3)) (tg 25 23 true (.load 1 false (.t 24)) (tg 26 23 true (.iaddr 3 (.t 25) (.c (.int .i64 0))) (tg 27 23 true (.faddr 0 (.t 26)) (tg 28 23 true (.load 1 false (.t 27)) (tg 29 23 true (.mov (.t 6)) (tg 30 23 true (.bin .neq (.t 28) (.t 29)) (tq 31 (.pick (.t 23) (.t 30) (.c (.bool false))) .done))))))))))))))
 (.cut (.cond (.t 31) (.seq (.reg (tm 4 (.c (.int .i64 9)) .done))
 .ret)
 .skip)))
 (.seq (.seq (.reg (tq 32 (.faddr 1 (.t 3)) (tq 33 (.load 1 false (.t 32)) (tq 34 (.bin .leq (.t 33) (.c (.int .i64 5))) (tm 35 (.t 34) (tg 36 35 true (.mov (.t 6)) (tg 37 35 true (.bin .neq (.t 36) (.c (.int .i64 1))) (tg 38 35 true (.mov (.t 37)) (tg 39 38 false (.faddr 2 (.t 3)) (tg 40 38 false (.load 1 false (.t 39)) (tg 41 38 false (.len (.t 40)) (tg 42 38 false (.bin .neq (.t 41) (.c (.int .i64 1))) (tg 43 35 true (.pick (.t 38) (.c (.bool true)) (.t 42)) (tq 44 (.pick (.t 35) (.t 43) (.c (.bool false))) .done))))))))))))))
 (.cut (.cond (.t 44) (.seq (.reg (tm 4 (.c (.int .i64 9)) .done))
 .ret)
 .skip)))
 (.seq (.reg (tm 4 (.c (.int .i64 0)) .done))
 .ret)))))))
theorem fc128:fcomp Tryz.prog Tryz.f128 = some (c128.erase,[.mov (.t 4)],45):=by kernel_rfl
def spec_l07Code (t_1:GTable) (m_2:GMut):Option Int :=
    (spec_l04Column t_1 m_2.Column).bind fun r_3 =>
    if (decide (r_3 < 0)) then
    some 11
    else
    (idx t_1.Columns r_3).bind fun x_6 =>
    ((if (decide ((m_2.Value.length:Int) > 0)) then
    (idx m_2.Value 0).bind fun x_16 =>
    some (x_16.Kind != x_6.Kind)
    else
    some false:Option Bool)).bind fun s31_12 =>
    if s31_12 then
    some 9
    else
    ((some ():Option Unit)).bind fun _ =>
    if (bif (decide (m_2.Func ≤ 5)) then (bif (x_6.Kind != 1) then true else ((m_2.Value.length:Int) != 1)) else false) then
    some 9
    else
    some 0
theorem w_spec_l07Code (t_1:GTable) (m_2:GMut) (r:Int) (hf:spec_l07Code t_1 m_2 = some r):CallOK Tryz.prog 128 .flat [(encGTable t_1),(encGMut m_2)] (.int .i64 r):=by
 refine CallOK.of_awp mixed Tryz.func128 fc128 nle ?_;rw [argT_eq];unfold spec_l07Code at hf;unfold c128;refine (show awp Tryz.prog false 0 _ (ofL [(0,(encGTable t_1)),(1,(encGMut m_2))]) [] _ from ?_);refine sr<|s_do (o_box (j:=0) (c:=(.agg [(.str t_1.Name),(.lst 8 (t_1.Columns.map encGColumn)),(.lst 1 (t_1.Unique.map encI)),(.bool t_1.Root)])) rfl trivial rfl rfl)<|s_do (o_box (j:=1) (c:=(.agg [(.str m_2.Column),(.int .i64 m_2.Func),(.lst 3 (m_2.Value.map encGAtom))])) rfl trivial rfl rfl)<|s_mov (.int .i64 0) rfl<|dk<|sr<|?_
 obtain ⟨r_3,er4,hf⟩:=ob hf
 refine s_q (.agg [(.str t_1.Name),(.lst 8 (t_1.Columns.map encGColumn)),(.lst 1 (t_1.Unique.map encI)),(.bool t_1.Root)]) rfl nle rfl<|s_q (.ptr 1 0 0) rfl trivial rfl<|s_q (.str m_2.Column) rfl nle rfl<|s_do (o_call (w_spec_l04Column _ _ _ er4) rfl (.refl _) rfl)<|s_mov (.int .i64 r_3) rfl<|dk<|awp_seq<|sr<|s_mov (.int .i64 r_3) rfl<|s_q (.bool (decide (r_3 < 0))) rfl rfl rfl<|dk<|?_
 rcases oi hf with ⟨c5,hf⟩ | ⟨c5,hf⟩
 ·refine w_condt rfl c5<|sr<|s_mov (.int .i64 11) rfl<|dk<|w_ret<|?_;obtain rfl:=os hf;exact r_flat ⟨trivial,trivial⟩ rfl (.refl _)
 ·refine w_condf rfl (bf c5)<|w_skip<|k_seq<|sr<|?_
  obtain ⟨x_6,ex7,hf⟩:=ob hf
  refine s_q (.ptr 0 0 1) rfl trivial rfl<|s_q (.lst 8 (t_1.Columns.map encGColumn)) rfl nle rfl<|s_mov (.int .i64 r_3) rfl<|s_do (o_iaddr (enc:=encGColumn) rfl rfl (idx0 ex7) (idx1 ex7))<|s_q (.iptr (encGColumn x_6) 1) rfl trivial rfl<|s_q (.int .i64 x_6.Kind) rfl nle rfl<|s_mov (.int .i64 x_6.Kind) rfl<|dk<|awp_seq<|awp_seq<|?_
  obtain ⟨s31_12,hb1,hf⟩:=ob hf
  refine awp_cut ([(3,(.ptr 0 0 0)),(6,(.int .i64 x_6.Kind)),(31,(.bool s31_12))],[.box 3 (.agg [(.str m_2.Column),(.int .i64 m_2.Func),(.lst 3 (m_2.Value.map encGAtom))])]) ?_ ?_
  ·refine w_reg<|s_q (.ptr 1 0 2) rfl trivial rfl<|s_q (.lst 3 (m_2.Value.map encGAtom)) rfl nle rfl<|s_dof (o_len (enc:=encGAtom) rfl) fun hl14 => s_q (.bool (decide ((m_2.Value.length:Int) > 0))) rfl rfl rfl<|s_mov (.bool (decide ((m_2.Value.length:Int) > 0))) rfl<|?_
   rcases oi hb1 with ⟨c15,hb1⟩ | ⟨c15,hb1⟩
   ·refine s_lit (s:=23) (b:=true) rfl c15<|s_on rfl<|s_q (.ptr 1 0 2) rfl trivial rfl<|s_on rfl<|s_q (.lst 3 (m_2.Value.map encGAtom)) rfl nle rfl<|s_on rfl<|?_
    obtain ⟨x_16,ex17,hb1⟩:=ob hb1
    refine s_do (o_iaddr (enc:=encGAtom) rfl rfl (idx0 ex17) (idx1 ex17))<|s_on rfl<|s_q (.iptr (encGAtom x_16) 0) rfl trivial rfl<|s_on rfl<|s_q (.int .i64 x_16.Kind) rfl nle rfl<|s_on rfl<|s_mov (.int .i64 x_6.Kind) rfl<|s_on rfl<|s_q (.bool (x_16.Kind != x_6.Kind)) rfl rfl rfl<|s_q (.bool (x_16.Kind != x_6.Kind)) rfl trivial rfl<|w_done<|?_;obtain rfl:=os hb1;exact ⟨[],[1],_,_,rfl,rfl,⟨.refl _,⟨.refl _,⟨.refl _,trivial⟩⟩⟩,(.refl _)⟩
   ·refine s_lit (s:=23) (b:=false) rfl (bf c15)<|s_off rfl rfl<|s_off rfl rfl<|s_off rfl rfl<|s_off rfl rfl<|s_off rfl rfl<|s_off rfl rfl<|s_off rfl rfl<|s_q (.bool false) rfl trivial rfl<|w_done<|?_;obtain rfl:=os hb1;exact ⟨[],[1],_,_,rfl,rfl,⟨.refl _,⟨.refl _,⟨.refl _,trivial⟩⟩⟩,(.refl _)⟩
  ·rcases oi hf with ⟨c18,hf⟩ | ⟨c18,hf⟩
   ·refine w_condt rfl c18<|sr<|s_mov (.int .i64 9) rfl<|dk<|w_ret<|?_;obtain rfl:=os hf;exact r_flat ⟨trivial,trivial⟩ rfl (.refl _)
   ·refine w_condf rfl (bf c18)<|w_skip<|k_seq<|awp_seq<|awp_seq<|?_
    obtain ⟨p20,hb1,hf⟩:=ob hf
    refine awp_cut ([(44,(.bool (bif (decide (m_2.Func ≤ 5)) then (bif (x_6.Kind != 1) then true else ((m_2.Value.length:Int) != 1)) else false)))],[]) ?_ ?_
    ·refine w_reg<|s_q (.ptr 0 0 1) rfl trivial rfl<|s_q (.int .i64 m_2.Func) rfl nle rfl<|s_q (.bool (decide (m_2.Func ≤ 5))) rfl rfl rfl<|s_mov (.bool (decide (m_2.Func ≤ 5))) rfl<|?_;refine s_g (v:=(decide (m_2.Func ≤ 5))) (.int .i64 x_6.Kind) rfl (fun hv => by (try simp only [gs_on hv]);exact ⟨rfl,trivial,rfl⟩) ?_;refine s_g (v:=(decide (m_2.Func ≤ 5))) (.bool (x_6.Kind != 1)) rfl (fun hv => by (try simp only [gs_on hv]);exact ⟨rfl,rfl,rfl⟩) ?_;refine s_g (v:=(decide (m_2.Func ≤ 5))) (.bool (x_6.Kind != 1)) rfl (fun hv => by (try simp only [gs_on hv]);exact ⟨rfl,trivial,rfl⟩) ?_;refine s_gg (v1:=(decide (m_2.Func ≤ 5))) (b1:=true) (v2:=(x_6.Kind != 1)) (.ptr 0 0 2) rfl (fun hv hw => by (try simp only [gs_on hv,gs_on hw]);exact ⟨rfl,trivial,rfl⟩) ?_
     refine s_gg (v1:=(decide (m_2.Func ≤ 5))) (b1:=true) (v2:=(x_6.Kind != 1)) (.lst 3 (m_2.Value.map encGAtom)) rfl (fun hv hw => by (try simp only [gs_on hv,gs_on hw]);exact ⟨rfl,nle,rfl⟩) ?_;refine s_gg (v1:=(decide (m_2.Func ≤ 5))) (b1:=true) (v2:=(x_6.Kind != 1)) (.int .i64 (m_2.Value.length:Int)) rfl (fun hv hw => by (try simp only [gs_on hv,gs_on hw]);exact ⟨rfl,trivial,lenV _ _⟩) ?_;refine s_gg (v1:=(decide (m_2.Func ≤ 5))) (b1:=true) (v2:=(x_6.Kind != 1)) (.bool ((m_2.Value.length:Int) != 1)) rfl (fun hv hw => by (try simp only [gs_on hv,gs_on hw]);exact ⟨rfl,rfl,rfl⟩) ?_;refine s_gp (v1:=(decide (m_2.Func ≤ 5))) (b1:=true) (v2:=(x_6.Kind != 1)) (x:=true) (y:=((m_2.Value.length:Int) != 1)) rfl (fun hv => by (try simp only [gs_on hv]);rfl) (fun hv hw => by (try simp only [gs_on hv,gs_on hw]);rfl) (fun hv hw => by (try simp only [gs_on hv,gs_on hw]);rfl) ?_
     refine s_pick (x:=(bif (x_6.Kind != 1) then true else ((m_2.Value.length:Int) != 1))) (y:=false) rfl (fun hv => by (try simp only [gs_on hv]);rfl) (fun hv => by (try simp only [gs_on hv]);rfl) ?_;refine w_done ?_;obtain rfl:=os hb1;exact ⟨[],[],_,_,rfl,rfl,⟨.refl _,trivial⟩,(.refl _)⟩
    ·rcases oi hf with ⟨c22,hf⟩ | ⟨c22,hf⟩
     ·refine w_condt rfl c22<|sr<|s_mov (.int .i64 9) rfl<|dk<|w_ret<|?_;obtain rfl:=os hf;exact r_flat ⟨trivial,trivial⟩ rfl (.refl _)
     ·refine w_condf rfl (bf c22)<|w_skip<|k_seq<|sr<|s_mov (.int .i64 0) rfl<|dk<|w_ret<|?_;obtain rfl:=os hf;exact r_flat ⟨trivial,trivial⟩ rfl (.refl _)

/- spec.l07Codes -/
def c76:ACode :=
 (.seq (.reg (tq 2 (.box 4 (.t 0)) (tm 4 (.c (.int .i64 0)) .done)))
 (.seq (.seq (.reg (tm 5 (.c (.int .i64 0)) .done))
 (.block 0 (.loop (.seq (.seq (.reg (tm 7 (.t 5) (tm 8 (.t 1) (tq 9 (.len (.t 8)) (tq 10 (.bin .lss (.t 7) (.t 9)) .done)))))
 (.cond (.t 10) .skip
 (.exit 0)))
 (.seq (.block 1 (.seq (.reg (tq 13 (.load 4 true (.t 2)) (tm 14 (.t 1) (tm 15 (.t 5) (tq 16 (.iaddr 3 (.t 14) (.t 15)) (tq 17 (.load 3 true (.t 16)) (.l ⟨(some 18),none,.call 128 [(.t 13),(.t 17)]⟩ []
 (tm 6 (.t 18) .done) .non)))))))
 (.seq (.reg (tm 19 (.t 6) (tq 20 (.bin .neq (.t 19) (.c (.int .i64 0))) .done)))
 (.cond (.t 20) (.seq (.reg (tm 21 (.t 6) (tm 4 (.t 21) .done)))
 .ret)
 .skip))))
 (.reg (tm 11 (.t 5) (tq 12 (.bin .add (.t 11) (.c (.int .i64 1))) (tm 5 (.t 12) .done)))))))))
 (.cut (.seq (.reg (tm 4 (.c (.int .i64 0)) .done))
 .ret))))
theorem fc76:fcomp Tryz.prog Tryz.f76 = some (c76.erase,[.mov (.t 4)],22):=by kernel_rfl
def spec_l07Codes_L1 (t_1:GTable):List GMut → Option (Fl Int Unit)
  | [] =>
    some (.go ())
  | x_34 :: xs =>
    (spec_l07Code t_1 x_34).bind fun r_37 =>
    if (r_37 != 0) then
    some (.ret r_37)
    else
    spec_l07Codes_L1 t_1 xs 

def spec_l07Codes (t_1:GTable) (list_2:(List GMut)):Option Int :=
    (spec_l07Codes_L1 t_1 list_2 ).bind fun q => (match q with
    | .ret r => some r
    | .go _ =>
    some 0)
theorem w_spec_l07Codes (t_1:GTable) (list_2:(List GMut)) (r:Int) (hf:spec_l07Codes t_1 list_2 = some r):CallOK Tryz.prog 76 .flat [(encGTable t_1),(.lst 3 (list_2.map encGMut))] (.int .i64 r):=by
 refine CallOK.of_awp mixed Tryz.func76 fc76 nle ?_;rw [argT_eq];unfold spec_l07Codes at hf;unfold c76;refine (show awp Tryz.prog false 0 _ (ofL [(0,(encGTable t_1)),(1,(.lst 3 (list_2.map encGMut)))]) [] _ from ?_);refine sr<|s_do (o_box (j:=0) (c:=(.agg [(.str t_1.Name),(.lst 8 (t_1.Columns.map encGColumn)),(.lst 1 (t_1.Unique.map encI)),(.bool t_1.Root)])) rfl trivial rfl rfl)<|s_mov (.int .i64 0) rfl<|dk<|awp_seq<|sr<|s_mov (.int .i64 0) rfl<|dk<|?_
 obtain ⟨p27,hb1,hf⟩:=ob hf
 refine awp_cutx (X:={q:Unit // p27 = .go q}) (fun q => ([],[])) ?_ ?_
 ·refine awp_loop (X:={q:Nat // spec_l07Codes_L1 t_1 (list_2.drop q)  = some p27}) (fun q => ([(1,(.lst 3 (list_2.map encGMut))),(2,(.ptr 0 0 0)),(5,(.int .i64 (q.1:Int)))],[.box 4 (.agg [(.str t_1.Name),(.lst 8 (t_1.Columns.map encGColumn)),(.lst 1 (t_1.Unique.map encI)),(.bool t_1.Root)])])) (fun q => list_2.length - q.1) ⟨0,hb1⟩ ⟨[],[0],_,_,rfl,rfl,⟨.refl _,⟨.refl _,⟨.refl _,trivial⟩⟩⟩,(.refl _)⟩ ?_
  rintro ⟨i_18,hc1⟩
  have hc1:spec_l07Codes_L1 t_1 (list_2.drop i_18)  = some p27:=hc1
  refine (show awp Tryz.prog false 0 _ (ofL [(1,(.lst 3 (list_2.map encGMut))),(2,(.ptr 0 0 0)),(5,(.int .i64 (i_18:Int)))]) [.box 4 (.agg [(.str t_1.Name),(.lst 8 (t_1.Columns.map encGColumn)),(.lst 1 (t_1.Unique.map encI)),(.bool t_1.Root)])] _ from ?_)
  rcases dropc list_2 i_18 with ⟨hie30,hd33⟩ | ⟨hlt28,x_34,hx29,hd33⟩
  ·rw [hd33,spec_l07Codes_L1.eq_1] at hc1
   have hq32:=dlf hie30
   refine awp_seq<|sr<|s_mov (.int .i64 (i_18:Int)) rfl<|s_mov (.lst 3 (list_2.map encGMut)) rfl<|s_dof (o_len (enc:=encGMut) rfl) fun hl35 => s_q (.bool (decide ((i_18:Int) < (list_2.length:Int)))) rfl rfl rfl<|dk<|w_condf rfl hq32<|w_exit<|k_seqx<|k_loopx<|k_blkx<|?_;obtain rfl:=os hc1;exact k_cutn ⟨_,rfl⟩ ⟨[],[],_,_,rfl,rfl,trivial,(.refl _)⟩
  ·rw [hd33,spec_l07Codes_L1.eq_2] at hc1
   have hq32:=dlt hlt28
   refine awp_seq<|sr<|s_mov (.int .i64 (i_18:Int)) rfl<|s_mov (.lst 3 (list_2.map encGMut)) rfl<|s_dof (o_len (enc:=encGMut) rfl) fun hl36 => s_q (.bool (decide ((i_18:Int) < (list_2.length:Int)))) rfl rfl rfl<|dk<|w_condt rfl hq32<|w_skip<|k_seq<|awp_seq<|w_blk<|sr<|?_
   obtain ⟨r_37,er38,hc1⟩:=ob hc1
   refine s_q (.agg [(.str t_1.Name),(.lst 8 (t_1.Columns.map encGColumn)),(.lst 1 (t_1.Unique.map encI)),(.bool t_1.Root)]) rfl nle rfl<|s_mov (.lst 3 (list_2.map encGMut)) rfl<|s_mov (.int .i64 (i_18:Int)) rfl<|s_do (o_iaddrn (enc:=encGMut) rfl rfl hx29)<|s_q (encGMut x_34) rfl nle rfl<|s_dol (o_call (w_spec_l07Code _ _ _ er38) rfl (.refl _) rfl) a_same trivial<|s_mov (.int .i64 r_37) rfl<|dk<|sr<|s_mov (.int .i64 r_37) rfl<|s_q (.bool (r_37 != 0)) rfl rfl rfl<|dk<|?_
   rcases oi hc1 with ⟨c39,hc1⟩ | ⟨c39,hc1⟩
   ·refine w_condt rfl c39<|sr<|s_mov (.int .i64 r_37) rfl<|s_mov (.int .i64 r_37) rfl<|dk<|w_ret<|?_;obtain rfl:=os hc1;obtain rfl:=os hf;exact r_flat ⟨trivial,trivial⟩ rfl (.refl _)
   ·refine w_condf rfl (bf c39)<|w_skip<|k_blk<|k_seq<|w_reg<|s_mov (.int .i64 (i_18:Int)) rfl<|s_q (.int .i64 (w64 ((i_18:Int) + 1))) rfl rfl rfl<|s_mov (.int .i64 (w64 ((i_18:Int) + 1))) rfl<|w_done<|?_;exact k_loopn ⟨(i_18 + 1),hc1⟩ (mul hlt28) ⟨[],[0],_,_,rfl,rfl,⟨.refl _,⟨.refl _,⟨.of_eq (congrArg (AV.int _) (w64_incr hlt28 hl36)),trivial⟩⟩⟩,(.refl _)⟩
 ·rintro ⟨_,rfl⟩
  refine sr<|s_mov (.int .i64 0) rfl<|dk<|w_ret<|?_;obtain rfl:=os hf;exact r_flat ⟨trivial,trivial⟩ rfl (.refl _)

/- spec.l08Code -/
def c34:ACode :=
 (.seq (.reg (tq 2 (.box 1 (.t 0)) (tq 3 (.box 8 (.t 1)) (tm 4 (.c (.int .i64 0)) .done))))
 (.seq (.seq (.reg (tq 10 (.faddr 0 (.t 3)) (tq 11 (.load 1 false (.t 10)) (tq 12 (.bin .gtr (.t 11) (.c (.int .i64 6))) .done))))
 (.cond (.t 12) (.seq (.seq (.reg (tq 13 (.faddr 0 (.t 3)) (tq 14 (.load 1 false (.t 13)) (tq 15 (.bin .eql (.t 14) (.c (.int .i64 10))) (tm 16 (.t 15) (tg 17 16 true (.faddr 2 (.t 3)) (tg 18 16 true (.load 1 false (.t 17)) (tg 19 16 true (.call 72 [(.t 18)]) (tg 20 16 true (.not (.t 19)) (tq 21 (.pick (.t 16) (.t 20) (.c (.bool false))) .done))))))))))
 (.cut (.cond (.t 21) (.seq (.reg (tm 4 (.c (.int .i64 3)) .done))
 .ret)
 .skip)))
 (.seq (.reg (tm 4 (.c (.int .i64 0)) .done))
 .ret))
 .skip))
 (.seq (.reg (tq 22 (.load 1 true (.t 2)) (tq 23 (.faddr 1 (.t 3)) (tq 24 (.load 1 false (.t 23)) (tq 25 (.call 50 [(.t 22),(.t 24)]) (tm 5 (.t 25) .done))))))
 (.seq (.seq (.reg (tm 26 (.t 5) (tq 27 (.bin .lss (.t 26) (.c (.int .i64 0))) .done)))
 (.cond (.t 27) (.seq (.reg (tm 4 (.c (.int .i64 10)) .done))
 .ret)
 .skip))
 (.seq (.seq (.reg (tq 28 (.faddr 0 (.t 3)) (tq 29 (.load 1 false (.t 28)) (tq 30 (.bin .eql (.t 29) (.c (.int .i64 1))) (tm 31 (.t 30) (tg 32 31 true (.faddr 2 (.t 3)) (tg 33 31 true (.load 1 false (.t 32)) (tg 34 31 true (.bin .neq (.t 33) (.c (.str []))) (tq 35 (.pick (.t 31) (.t 34) (.c (.bool false))) (tm 36 (.t 35) (tg 37 36 true (.faddr 2 (.t 3)) (tg 38 36 true (.load 1 false (.t 37)) (tg 39 36 true (.call 72 [(.t 38)]) (tg 40 36 true (.not (.t 39)) (tq 41 (.pick (.t 36) (.t 40) (.c (.bool false))) .done)))))))))))))))
 (.cut (.cond (.t 41) (.seq (.reg (tm 4 (.c (.int .i64 3)) .done))
 .ret)
 .skip)))
 (.seq (.reg (tq 42 (.faddr 0 (.t 2)) (tq 43 (.load 1 false (.t 42)) (tm 44 (.t 5) (tq 45 (.iaddr 4 (.t 43) (.t 44)) (tq 46 (.load 4 true (.t 45)) (tq 6 (.box 4 (.c (.agg [(.str []),.nil,.nil,(.bool false)]))) (.q ⟨none,none,.store 4 (.t 6) (.t 46)⟩
 .done))))))))
 (.seq (.seq (.reg (tm 7 (.c (.int .i64 0)) .done))
 (.block 0 (.loop (.seq (.seq (.reg (tm 47 (.t 7) (tq 48 (.faddr 6 (.t 3)) (tq 49 (.load 1 false (.t 48)) (tq 50 (.len (.t 49)) (tq 51 (.bin .lss (.t 47) (.t 50)) .done))))))
 (.cond (.t 51) .skip
 (.exit 0)))
 (.seq (.block 1 (.seq (.reg (tq 54 (.faddr 6 (.t 3)) (tq 55 (.load 1 false (.t 54)) (tm 56 (.t 7) (tq 57 (.iaddr 1 (.t 55) (.t 56)) (tq 58 (.load 1 false (.t 57)) (tq 59 (.bin .neq (.t 58) (.c (.str [95,117,117,105,100]))) (tm 60 (.t 59) (tg 61 60 true (.load 4 true (.t 6)) (tg 62 60 true (.faddr 6 (.t 3)) (tg 63 60 true (.load 1 false (.t 62)) (tg 64 60 true (.mov (.t 7)) (tg 65 60 true (.iaddr 1 (.t 63) (.t 64)) (tg 66 60 true (.load 1 false (.t 65)) (.l ⟨(some 67),(some (60,true)),.call 73 [(.t 61),(.t 66)]⟩ []
 (tg 68 60 true (.bin .lss (.t 67) (.c (.int .i64 0))) (tq 69 (.pick (.t 60) (.t 68) (.c (.bool false))) .done)) .non)))))))))))))))
 (.cut (.cond (.t 69) (.seq (.reg (tm 4 (.c (.int .i64 11)) .done))
 .ret)
 .skip))))
 (.reg (tm 52 (.t 7) (tq 53 (.bin .add (.t 52) (.c (.int .i64 1))) (tm 7 (.t 53) .done)))))))))
 (.cut (.seq (.seq (.reg (tq 70 (.load 4 true (.t 6)) (tq 71 (.faddr 3 (.t 3)) (tq 72 (.load 1 false (.t 71)) (tq 73 (.call 74 [(.t 70),(.t 72)]) (tm 8 (.t 73) .done))))))
 (.seq (.reg (tm 74 (.t 8) (tq 75 (.bin .neq (.t 74) (.c (.int .i64 0))) .done)))
 (.cond (.t 75) (.seq (.reg (tm 76 (.t 8) (tm 4 (.t 76) .done)))
 .ret)
 .skip)))
 (.seq (.seq (.reg (tq 77 (.load 4 true (.t 6)) (tq 78 (.faddr 4 (.t 3)) (tq 79 (.load 1 false (.t 78)) (tq 80 (.call 75 [(.t 77),(.t 79)]) (tm 9 (.t 80) .done))))))
 (.seq (.reg (tm 81 (.t 9) (tq 82 (.bin .neq (.t 81) (.c (.int .i64 0))) .done)))
 (.cond (.t 82) (.seq (.reg (tm 83 (.t 9) (tm 4 (.t 83) .done)))
 .ret)
 .skip)))
 (.seq (.reg (tq 84 (.load 4 true (.t 6)) (tq 85 (.faddr 5 (.t 3)) (tq 86 (.load 1 false (.t 85)) (tq 87 (.call 76 [(.t 84),(.t 86)]) (tm 4 (.t 87) .done))))))
 .ret)))))))))))
theorem fc34:fcomp Tryz.prog Tryz.f34 = some (c34.erase,[.mov (.t 4)],88):=by kernel_rfl
def spec_l08Code_L1 (x_25:GTable):List Str → Option (Fl Int Unit)
  | [] =>
    some (.go ())
  | x_94 :: xs =>
    ((if (!(x_94 == [95,117,117,105,100])) then
    (spec_l04Column x_25 x_94).bind fun r_103 =>
    some (decide (r_103 < 0))
    else
    some false:Option Bool)).bind fun s69_100 =>
    if s69_100 then
    some (.ret 11)
    else
    spec_l08Code_L1 x_25 xs 

def spec_l08Code (s_1:GSchema) (o_2:GOp):Option Int :=
    if (decide (o_2.Kind > 6)) then
    ((if (o_2.Kind == 10) then
    (spec_NameOK o_2.Name).bind fun r_10 =>
    some (!r_10)
    else
    some false:Option Bool)).bind fun s21_7 =>
    if s21_7 then
    some 3
    else
    some 0
    else
    (spec_l04Find s_1 o_2.Table).bind fun r_13 =>
    if (decide (r_13 < 0)) then
    some 10
    else
    ((if (bif (o_2.Kind == 1) then (!(o_2.Name == [])) else false) then
    (spec_NameOK o_2.Name).bind fun r_22 =>
    some (!r_22)
    else
    some false:Option Bool)).bind fun s41_19 =>
    if s41_19 then
    some 3
    else
    (idx s_1.Tables r_13).bind fun x_25 =>
    (spec_l08Code_L1 x_25 o_2.Columns ).bind fun q => (match q with
    | .ret r => some r
    | .go _ =>
    (spec_l06Conds x_25 o_2.Where).bind fun r_106 =>
    if (r_106 != 0) then
    some r_106
    else
    (spec_l08Sets x_25 o_2.Row).bind fun r_109 =>
    if (r_109 != 0) then
    some r_109
    else
    (spec_l07Codes x_25 o_2.Muts).bind fun r_112 =>
    some r_112)
theorem w_spec_l08Code (s_1:GSchema) (o_2:GOp) (r:Int) (hf:spec_l08Code s_1 o_2 = some r):CallOK Tryz.prog 34 .flat [(encGSchema s_1),(encGOp o_2)] (.int .i64 r):=by
 refine CallOK.of_awp mixed Tryz.func34 fc34 nle ?_;rw [argT_eq];unfold spec_l08Code at hf;unfold c34;refine (show awp Tryz.prog false 0 _ (ofL [(0,(encGSchema s_1)),(1,(encGOp o_2))]) [] _ from ?_);refine sr<|s_do (o_box (j:=0) (c:=(.agg [(.lst 4 (s_1.Tables.map encGTable))])) rfl trivial rfl rfl)<|s_do (o_box (j:=1) (c:=(.agg [(.int .i64 o_2.Kind),(.str o_2.Table),(.str o_2.Name),(.lst 3 (o_2.Where.map encGCond)),(.lst 3 (o_2.Row.map encGSet)),(.lst 3 (o_2.Muts.map encGMut)),(.lst 1 (o_2.Columns.map AV.str)),(.bool o_2.Until)])) rfl trivial rfl rfl)<|s_mov (.int .i64 0) rfl<|dk<|awp_seq<|sr<|s_q (.ptr 1 0 0) rfl trivial rfl<|s_q (.int .i64 o_2.Kind) rfl nle rfl<|?_
 refine s_q (.bool (decide (o_2.Kind > 6))) rfl rfl rfl<|dk<|?_
 rcases oi hf with ⟨c3,hf⟩ | ⟨c3,hf⟩
 ·refine w_condt rfl c3<|awp_seq<|awp_seq<|?_
  obtain ⟨s21_7,hb1,hf⟩:=ob hf
  refine awp_cut ([(21,(.bool s21_7))],[]) ?_ ?_
  ·refine w_reg ?_
   rcases oi hb1 with ⟨c9,hb1⟩ | ⟨c9,hb1⟩
   ·obtain ⟨r_10,er11,hb1⟩:=ob hb1
    refine s_q (.ptr 1 0 0) rfl trivial rfl<|s_q (.int .i64 o_2.Kind) rfl nle rfl<|s_q (.bool (o_2.Kind == 10)) rfl rfl rfl<|s_mov (.bool (o_2.Kind == 10)) rfl<|s_lit (s:=16) (b:=true) rfl c9<|s_on rfl<|s_q (.ptr 1 0 2) rfl trivial rfl<|s_on rfl<|s_q (.str o_2.Name) rfl nle rfl<|s_on rfl<|s_do (o_call (w_spec_NameOK _ _ er11) rfl (.refl _) rfl)<|s_on rfl<|s_q (.bool (!r_10)) rfl trivial rfl<|s_q (.bool (!r_10)) rfl trivial rfl<|w_done<|?_;obtain rfl:=os hb1;exact ⟨[],[],_,_,rfl,rfl,⟨.refl _,trivial⟩,(.refl _)⟩
   ·refine s_q (.ptr 1 0 0) rfl trivial rfl<|s_q (.int .i64 o_2.Kind) rfl nle rfl<|s_q (.bool (o_2.Kind == 10)) rfl rfl rfl<|s_mov (.bool (o_2.Kind == 10)) rfl<|s_lit (s:=16) (b:=false) rfl (bf c9)<|s_off rfl rfl<|s_off rfl rfl<|s_off rfl rfl<|s_off rfl rfl<|s_q (.bool false) rfl trivial rfl<|w_done<|?_;obtain rfl:=os hb1;exact ⟨[],[],_,_,rfl,rfl,⟨.refl _,trivial⟩,(.refl _)⟩
  ·rcases oi hf with ⟨c12,hf⟩ | ⟨c12,hf⟩
   ·refine w_condt rfl c12<|sr<|s_mov (.int .i64 3) rfl<|dk<|w_ret<|?_;obtain rfl:=os hf;exact r_flat ⟨trivial,trivial⟩ rfl (.refl _)
   ·refine w_condf rfl (bf c12)<|w_skip<|k_seq<|sr<|s_mov (.int .i64 0) rfl<|dk<|w_ret<|?_;obtain rfl:=os hf;exact r_flat ⟨trivial,trivial⟩ rfl (.refl _)
 ·refine w_condf rfl (bf c3)<|w_skip<|k_seq<|sr<|?_
  obtain ⟨r_13,er14,hf⟩:=ob hf
  refine s_q (.agg [(.lst 4 (s_1.Tables.map encGTable))]) rfl nle rfl<|s_q (.ptr 1 0 1) rfl trivial rfl<|s_q (.str o_2.Table) rfl nle rfl<|s_do (o_call (w_spec_l04Find _ _ _ er14) rfl (.refl _) rfl)<|s_mov (.int .i64 r_13) rfl<|dk<|awp_seq<|sr<|s_mov (.int .i64 r_13) rfl<|s_q (.bool (decide (r_13 < 0))) rfl rfl rfl<|dk<|?_
  rcases oi hf with ⟨c15,hf⟩ | ⟨c15,hf⟩
  ·refine w_condt rfl c15<|sr<|s_mov (.int .i64 10) rfl<|dk<|w_ret<|?_;obtain rfl:=os hf;exact r_flat ⟨trivial,trivial⟩ rfl (.refl _)
  ·refine w_condf rfl (bf c15)<|w_skip<|k_seq<|awp_seq<|awp_seq<|?_
   obtain ⟨s41_19,hb1,hf⟩:=ob hf
   refine awp_cut ([(2,(.ptr 0 0 0)),(3,(.ptr 1 0 0)),(5,(.int .i64 r_13)),(41,(.bool s41_19))],[.box 1 (.agg [(.lst 4 (s_1.Tables.map encGTable))]),.box 8 (.agg [(.int .i64 o_2.Kind),(.str o_2.Table),(.str o_2.Name),(.lst 3 (o_2.Where.map encGCond)),(.lst 3 (o_2.Row.map encGSet)),(.lst 3 (o_2.Muts.map encGMut)),(.lst 1 (o_2.Columns.map AV.str)),(.bool o_2.Until)])]) ?_ ?_
   ·refine w_reg<|s_q (.ptr 1 0 0) rfl trivial rfl<|s_q (.int .i64 o_2.Kind) rfl nle rfl<|s_q (.bool (o_2.Kind == 1)) rfl rfl rfl<|s_mov (.bool (o_2.Kind == 1)) rfl<|?_;refine s_g (v:=(o_2.Kind == 1)) (.ptr 1 0 2) rfl (fun hv => by (try simp only [gs_on hv]);exact ⟨rfl,trivial,rfl⟩) ?_;refine s_g (v:=(o_2.Kind == 1)) (.str o_2.Name) rfl (fun hv => by (try simp only [gs_on hv]);exact ⟨rfl,nle,rfl⟩) ?_;refine s_g (v:=(o_2.Kind == 1)) (.bool (!(o_2.Name == []))) rfl (fun hv => by (try simp only [gs_on hv]);exact ⟨rfl,trivial,rfl⟩) ?_;refine s_pick (x:=(!(o_2.Name == []))) (y:=false) rfl (fun hv => by (try simp only [gs_on hv]);rfl) (fun hv => by (try simp only [gs_on hv]);rfl) ?_;refine s_mov (.bool (bif (o_2.Kind == 1) then (!(o_2.Name == [])) else false)) rfl ?_
    rcases oi hb1 with ⟨c21,hb1⟩ | ⟨c21,hb1⟩
    ·refine s_lit (s:=36) (b:=true) rfl c21<|s_on rfl<|s_q (.ptr 1 0 2) rfl trivial rfl<|s_on rfl<|s_q (.str o_2.Name) rfl nle rfl<|s_on rfl<|?_
     obtain ⟨r_22,er23,hb1⟩:=ob hb1
     refine s_do (o_call (w_spec_NameOK _ _ er23) rfl (.refl _) rfl)<|s_on rfl<|s_q (.bool (!r_22)) rfl trivial rfl<|s_q (.bool (!r_22)) rfl trivial rfl<|w_done<|?_;obtain rfl:=os hb1;exact ⟨[],[0,1],_,_,rfl,rfl,⟨.refl _,⟨.refl _,⟨.refl _,⟨.refl _,trivial⟩⟩⟩⟩,(.refl _)⟩
    ·refine s_lit (s:=36) (b:=false) rfl (bf c21)<|s_off rfl rfl<|s_off rfl rfl<|s_off rfl rfl<|s_off rfl rfl<|s_q (.bool false) rfl trivial rfl<|w_done<|?_;obtain rfl:=os hb1;exact ⟨[],[0,1],_,_,rfl,rfl,⟨.refl _,⟨.refl _,⟨.refl _,⟨.refl _,trivial⟩⟩⟩⟩,(.refl _)⟩
   ·rcases oi hf with ⟨c24,hf⟩ | ⟨c24,hf⟩
    ·refine w_condt rfl c24<|sr<|s_mov (.int .i64 3) rfl<|dk<|w_ret<|?_;obtain rfl:=os hf;exact r_flat ⟨trivial,trivial⟩ rfl (.refl _)
    ·refine w_condf rfl (bf c24)<|w_skip<|k_seq<|sr<|?_
     obtain ⟨x_25,ex26,hf⟩:=ob hf
     refine s_q (.ptr 0 0 0) rfl trivial rfl<|s_q (.lst 4 (s_1.Tables.map encGTable)) rfl nle rfl<|s_mov (.int .i64 r_13) rfl<|s_do (o_iaddr (enc:=encGTable) rfl rfl (idx0 ex26) (idx1 ex26))<|s_q (encGTable x_25) rfl nle rfl<|s_do (o_box (j:=2) (c:=(.agg [(.str []),.nil,.nil,(.bool false)])) rfl trivial rfl rfl)<|s_do0 (o_storebox (v:=(.agg [(.str x_25.Name),(.lst 8 (x_25.Columns.map encGColumn)),(.lst 1 (x_25.Unique.map encI)),(.bool x_25.Root)])) (y':=(.agg [(.str x_25.Name),(.lst 8 (x_25.Columns.map encGColumn)),(.lst 1 (x_25.Unique.map encI)),(.bool x_25.Root)])) rfl rfl rfl trivial ⟨rfl,nle⟩ ⟨⟨rfl,trivial⟩,⟨⟨rfl,trivial⟩,⟨⟨rfl,trivial⟩,⟨⟨rfl,trivial⟩,trivial⟩⟩⟩⟩ rfl)<|?_
     refine dk<|awp_seq<|sr<|s_mov (.int .i64 0) rfl<|dk<|?_
     obtain ⟨p87,hb1,hf⟩:=ob hf
     refine awp_cutx (X:={q:Unit // p87 = .go q}) (fun q => ([(3,(.ptr 0 0 0)),(6,(.ptr 1 0 0))],[.box 8 (.agg [(.int .i64 o_2.Kind),(.str o_2.Table),(.str o_2.Name),(.lst 3 (o_2.Where.map encGCond)),(.lst 3 (o_2.Row.map encGSet)),(.lst 3 (o_2.Muts.map encGMut)),(.lst 1 (o_2.Columns.map AV.str)),(.bool o_2.Until)]),.box 4 (.agg [(.str x_25.Name),(.lst 8 (x_25.Columns.map encGColumn)),(.lst 1 (x_25.Unique.map encI)),(.bool x_25.Root)])])) ?_ ?_
     ·refine awp_loop (X:={q:Nat // spec_l08Code_L1 x_25 (o_2.Columns.drop q)  = some p87}) (fun q => ([(3,(.ptr 0 0 0)),(6,(.ptr 1 0 0)),(7,(.int .i64 (q.1:Int)))],[.box 8 (.agg [(.int .i64 o_2.Kind),(.str o_2.Table),(.str o_2.Name),(.lst 3 (o_2.Where.map encGCond)),(.lst 3 (o_2.Row.map encGSet)),(.lst 3 (o_2.Muts.map encGMut)),(.lst 1 (o_2.Columns.map AV.str)),(.bool o_2.Until)]),.box 4 (.agg [(.str x_25.Name),(.lst 8 (x_25.Columns.map encGColumn)),(.lst 1 (x_25.Unique.map encI)),(.bool x_25.Root)])])) (fun q => o_2.Columns.length - q.1) ⟨0,hb1⟩ ⟨[],[1,2],_,_,rfl,rfl,⟨.refl _,⟨.refl _,⟨.refl _,trivial⟩⟩⟩,(.refl _)⟩ ?_
      rintro ⟨i_66,hc1⟩
      have hc1:spec_l08Code_L1 x_25 (o_2.Columns.drop i_66)  = some p87:=hc1
      refine (show awp Tryz.prog false 0 _ (ofL [(3,(.ptr 0 0 0)),(6,(.ptr 1 0 0)),(7,(.int .i64 (i_66:Int)))]) [.box 8 (.agg [(.int .i64 o_2.Kind),(.str o_2.Table),(.str o_2.Name),(.lst 3 (o_2.Where.map encGCond)),(.lst 3 (o_2.Row.map encGSet)),(.lst 3 (o_2.Muts.map encGMut)),(.lst 1 (o_2.Columns.map AV.str)),(.bool o_2.Until)]),.box 4 (.agg [(.str x_25.Name),(.lst 8 (x_25.Columns.map encGColumn)),(.lst 1 (x_25.Unique.map encI)),(.bool x_25.Root)])] _ from ?_)
      rcases dropc o_2.Columns i_66 with ⟨hie90,hd93⟩ | ⟨hlt88,x_94,hx89,hd93⟩
      ·rw [hd93,spec_l08Code_L1.eq_1] at hc1
       have hq92:=dlf hie90
       refine awp_seq<|sr<|s_mov (.int .i64 (i_66:Int)) rfl<|s_q (.ptr 0 0 6) rfl trivial rfl<|s_q (.lst 1 (o_2.Columns.map AV.str)) rfl nle rfl<|s_dof (o_len (enc:=AV.str) rfl) fun hl95 => s_q (.bool (decide ((i_66:Int) < (o_2.Columns.length:Int)))) rfl rfl rfl<|dk<|w_condf rfl hq92<|w_exit<|k_seqx<|k_loopx<|k_blkx<|?_;obtain rfl:=os hc1;exact k_cutn ⟨_,rfl⟩ ⟨[],[0,1],_,_,rfl,rfl,⟨.refl _,⟨.refl _,trivial⟩⟩,(.refl _)⟩
      ·rw [hd93,spec_l08Code_L1.eq_2] at hc1
       have hq92:=dlt hlt88
       refine awp_seq<|sr<|s_mov (.int .i64 (i_66:Int)) rfl<|s_q (.ptr 0 0 6) rfl trivial rfl<|s_q (.lst 1 (o_2.Columns.map AV.str)) rfl nle rfl<|s_dof (o_len (enc:=AV.str) rfl) fun hl96 => s_q (.bool (decide ((i_66:Int) < (o_2.Columns.length:Int)))) rfl rfl rfl<|dk<|w_condt rfl hq92<|w_skip<|k_seq<|awp_seq<|w_blk<|awp_seq<|?_
       obtain ⟨s69_100,hb2,hc1⟩:=ob hc1
       refine awp_cut ([(3,(.ptr 0 0 0)),(6,(.ptr 1 0 0)),(7,(.int .i64 (i_66:Int))),(69,(.bool s69_100))],[.box 8 (.agg [(.int .i64 o_2.Kind),(.str o_2.Table),(.str o_2.Name),(.lst 3 (o_2.Where.map encGCond)),(.lst 3 (o_2.Row.map encGSet)),(.lst 3 (o_2.Muts.map encGMut)),(.lst 1 (o_2.Columns.map AV.str)),(.bool o_2.Until)]),.box 4 (.agg [(.str x_25.Name),(.lst 8 (x_25.Columns.map encGColumn)),(.lst 1 (x_25.Unique.map encI)),(.bool x_25.Root)])]) ?_ ?_
       ·refine w_reg<|s_q (.ptr 0 0 6) rfl trivial rfl<|s_q (.lst 1 (o_2.Columns.map AV.str)) rfl nle rfl<|s_mov (.int .i64 (i_66:Int)) rfl<|s_do (o_iaddrn (enc:=AV.str) rfl rfl hx89)<|s_q (.str x_94) rfl ⟨rfl,rfl⟩ rfl<|s_q (.bool (!(x_94 == [95,117,117,105,100]))) rfl trivial rfl<|s_mov (.bool (!(x_94 == [95,117,117,105,100]))) rfl<|?_
        rcases oi hb2 with ⟨c102,hb2⟩ | ⟨c102,hb2⟩
        ·refine s_lit (s:=60) (b:=true) rfl c102<|s_on rfl<|s_q (.agg [(.str x_25.Name),(.lst 8 (x_25.Columns.map encGColumn)),(.lst 1 (x_25.Unique.map encI)),(.bool x_25.Root)]) rfl nle rfl<|s_on rfl<|s_q (.ptr 0 0 6) rfl trivial rfl<|s_on rfl<|s_q (.lst 1 (o_2.Columns.map AV.str)) rfl nle rfl<|s_on rfl<|s_mov (.int .i64 (i_66:Int)) rfl<|s_on rfl<|s_do (o_iaddrn (enc:=AV.str) rfl rfl hx89)<|s_on rfl<|s_q (.str x_94) rfl ⟨rfl,rfl⟩ rfl<|s_onl rfl<|?_
         obtain ⟨r_103,er104,hb2⟩:=ob hb2
         refine s_dol (o_call (w_spec_l04Column _ _ _ er104) rfl (.refl _) rfl) a_same trivial<|s_on rfl<|s_q (.bool (decide (r_103 < 0))) rfl rfl rfl<|s_q (.bool (decide (r_103 < 0))) rfl trivial rfl<|w_done<|?_;obtain rfl:=os hb2;exact ⟨[],[0,1],_,_,rfl,rfl,⟨.refl _,⟨.refl _,⟨.refl _,⟨.refl _,trivial⟩⟩⟩⟩,(.refl _)⟩
        ·refine s_lit (s:=60) (b:=false) rfl (bf c102)<|s_off rfl rfl<|s_off rfl rfl<|s_off rfl rfl<|s_off rfl rfl<|s_off rfl rfl<|s_off rfl rfl<|s_offl rfl rfl trivial<|s_off rfl rfl<|s_q (.bool false) rfl trivial rfl<|w_done<|?_;obtain rfl:=os hb2;exact ⟨[],[0,1],_,_,rfl,rfl,⟨.refl _,⟨.refl _,⟨.refl _,⟨.refl _,trivial⟩⟩⟩⟩,(.refl _)⟩
       ·rcases oi hc1 with ⟨c105,hc1⟩ | ⟨c105,hc1⟩
        ·refine w_condt rfl c105<|sr<|s_mov (.int .i64 11) rfl<|dk<|w_ret<|?_;obtain rfl:=os hc1;obtain rfl:=os hf;exact r_flat ⟨trivial,trivial⟩ rfl (.refl _)
        ·refine w_condf rfl (bf c105)<|w_skip<|k_blk<|k_seq<|w_reg<|s_mov (.int .i64 (i_66:Int)) rfl<|s_q (.int .i64 (w64 ((i_66:Int) + 1))) rfl rfl rfl<|s_mov (.int .i64 (w64 ((i_66:Int) + 1))) rfl<|w_done<|?_;exact k_loopn ⟨(i_66 + 1),hc1⟩ (mul hlt88) ⟨[],[0,1],_,_,rfl,rfl,⟨.refl _,⟨.refl _,⟨.of_eq (congrArg (AV.int _) (w64_incr hlt88 hl96)),trivial⟩⟩⟩,(.refl _)⟩
     ·rintro ⟨_,rfl⟩
      refine awp_seq<|sr<|?_
      obtain ⟨r_106,er107,hf⟩:=ob hf
      refine s_q (.agg [(.str x_25.Name),(.lst 8 (x_25.Columns.map encGColumn)),(.lst 1 (x_25.Unique.map encI)),(.bool x_25.Root)]) rfl nle rfl<|s_q (.ptr 0 0 3) rfl trivial rfl<|s_q (.lst 3 (o_2.Where.map encGCond)) rfl nle rfl<|s_do (o_call (w_spec_l06Conds _ _ _ er107) rfl (.refl _) rfl)<|s_mov (.int .i64 r_106) rfl<|dk<|sr<|s_mov (.int .i64 r_106) rfl<|s_q (.bool (r_106 != 0)) rfl rfl rfl<|dk<|?_
      rcases oi hf with ⟨c108,hf⟩ | ⟨c108,hf⟩
      ·refine w_condt rfl c108<|sr<|s_mov (.int .i64 r_106) rfl<|s_mov (.int .i64 r_106) rfl<|dk<|w_ret<|?_;obtain rfl:=os hf;exact r_flat ⟨trivial,trivial⟩ rfl (.refl _)
      ·refine w_condf rfl (bf c108)<|w_skip<|k_seq<|awp_seq<|sr<|?_
       obtain ⟨r_109,er110,hf⟩:=ob hf
       refine s_q (.agg [(.str x_25.Name),(.lst 8 (x_25.Columns.map encGColumn)),(.lst 1 (x_25.Unique.map encI)),(.bool x_25.Root)]) rfl nle rfl<|s_q (.ptr 0 0 4) rfl trivial rfl<|s_q (.lst 3 (o_2.Row.map encGSet)) rfl nle rfl<|s_do (o_call (w_spec_l08Sets _ _ _ er110) rfl (.refl _) rfl)<|s_mov (.int .i64 r_109) rfl<|dk<|sr<|s_mov (.int .i64 r_109) rfl<|s_q (.bool (r_109 != 0)) rfl rfl rfl<|dk<|?_
       rcases oi hf with ⟨c111,hf⟩ | ⟨c111,hf⟩
       ·refine w_condt rfl c111<|sr<|s_mov (.int .i64 r_109) rfl<|s_mov (.int .i64 r_109) rfl<|dk<|w_ret<|?_;obtain rfl:=os hf;exact r_flat ⟨trivial,trivial⟩ rfl (.refl _)
       ·refine w_condf rfl (bf c111)<|w_skip<|k_seq<|sr<|?_
        obtain ⟨r_112,er113,hf⟩:=ob hf
        refine s_q (.agg [(.str x_25.Name),(.lst 8 (x_25.Columns.map encGColumn)),(.lst 1 (x_25.Unique.map encI)),(.bool x_25.Root)]) rfl nle rfl<|s_q (.ptr 0 0 5) rfl trivial rfl<|s_q (.lst 3 (o_2.Muts.map encGMut)) rfl nle rfl<|s_do (o_call (w_spec_l07Codes _ _ _ er113) rfl (.refl _) rfl)<|s_mov (.int .i64 r_112) rfl<|dk<|w_ret<|?_;obtain rfl:=os hf;exact r_flat ⟨trivial,trivial⟩ rfl (.refl _)

/- spec.OpCode -/
def c14:ACode :=
 (.seq (.reg (tq 2 (.box 1 (.t 0)) (tq 3 (.box 8 (.t 1)) (tm 4 (.c (.int .i64 0)) (tm 5 (.c (.int .i64 0)) .done)))))
 (.seq (.seq (.reg (tq 6 (.load 1 true (.t 2)) (tq 7 (.call 20 [(.t 6)]) (tq 8 (.not (.t 7)) (tm 9 (.t 8) (tg 10 9 false (.load 8 true (.t 3)) (tg 11 9 false (.call 33 [(.t 10)]) (tg 12 9 false (.not (.t 11)) (tq 13 (.pick (.t 9) (.c (.bool true)) (.t 12)) .done)))))))))
 (.cut (.cond (.t 13) (.seq (.reg (tm 4 (.c (.int .i64 0)) (tm 5 (.c (.int .i64 1)) .done)))
 .ret)
 .skip)))
 (.seq (.reg (tq 14 (.load 1 true (.t 2)) (tq 15 (.load 8 true (.t 3)) (tq 16 (.call 34 [(.t 14),(.t 15)]) (tm 4 (.t 16) (tm 5 (.c (.int .i64 0)) .done))))))
 .ret)))
theorem fc14:fcomp Tryz.prog Tryz.f14 = some (c14.erase,[.mov (.t 4),.mov (.t 5)],17):=by kernel_rfl
def spec_OpCode (s_1:GSchema) (o_2:GOp):Option (Int × Int) :=
    (((spec_SchemaOK s_1).bind fun r_10 =>
    if (!r_10) then
    some true
    else
    (spec_OpOK o_2).bind fun r_13 =>
    some (!r_13):Option Bool)).bind fun s13_8 =>
    if s13_8 then
    some (0,1)
    else
    (spec_l08Code s_1 o_2).bind fun r_16 =>
    some (r_16,0)
theorem w_spec_OpCode (s_1:GSchema) (o_2:GOp) (r:(Int × Int)) (hf:spec_OpCode s_1 o_2 = some r):CallOK Tryz.prog 14 .flat [(encGSchema s_1),(encGOp o_2)] (.tup [(.int .i64 r.1),(.int .i64 r.2)]):=by
 refine CallOK.of_awp mixed Tryz.func14 fc14 nle ?_;rw [argT_eq];unfold spec_OpCode at hf;unfold c14;refine (show awp Tryz.prog false 0 _ (ofL [(0,(encGSchema s_1)),(1,(encGOp o_2))]) [] _ from ?_);refine sr<|s_do (o_box (j:=0) (c:=(.agg [(.lst 4 (s_1.Tables.map encGTable))])) rfl trivial rfl rfl)<|s_do (o_box (j:=1) (c:=(.agg [(.int .i64 o_2.Kind),(.str o_2.Table),(.str o_2.Name),(.lst 3 (o_2.Where.map encGCond)),(.lst 3 (o_2.Row.map encGSet)),(.lst 3 (o_2.Muts.map encGMut)),(.lst 1 (o_2.Columns.map AV.str)),(.bool o_2.Until)])) rfl trivial rfl rfl)<|s_mov (.int .i64 0) rfl<|s_mov (.int .i64 0) rfl<|dk<|awp_seq<|awp_seq<|?_
 obtain ⟨s13_8,hb1,hf⟩:=ob hf
 refine awp_cut ([(2,(.ptr 0 0 0)),(3,(.ptr 1 0 0)),(13,(.bool s13_8))],[.box 1 (.agg [(.lst 4 (s_1.Tables.map encGTable))]),.box 8 (.agg [(.int .i64 o_2.Kind),(.str o_2.Table),(.str o_2.Name),(.lst 3 (o_2.Where.map encGCond)),(.lst 3 (o_2.Row.map encGSet)),(.lst 3 (o_2.Muts.map encGMut)),(.lst 1 (o_2.Columns.map AV.str)),(.bool o_2.Until)])]) ?_ ?_
 ·refine w_reg ?_
  obtain ⟨r_10,er11,hb1⟩:=ob hb1
  rcases oi hb1 with ⟨c12,hb1⟩ | ⟨c12,hb1⟩
  ·refine s_q (.agg [(.lst 4 (s_1.Tables.map encGTable))]) rfl nle rfl<|s_do (o_call (w_spec_SchemaOK _ _ er11) rfl (.refl _) rfl)<|s_q (.bool (!r_10)) rfl trivial rfl<|s_mov (.bool (!r_10)) rfl<|s_lit (s:=9) (b:=true) rfl c12<|s_off rfl rfl<|s_off rfl rfl<|s_off rfl rfl<|s_q (.bool true) rfl trivial rfl<|w_done<|?_;obtain rfl:=os hb1;exact ⟨[],[0,1],_,_,rfl,rfl,⟨.refl _,⟨.refl _,⟨.refl _,trivial⟩⟩⟩,(.refl _)⟩
  ·obtain ⟨r_13,er14,hb1⟩:=ob hb1
   refine s_q (.agg [(.lst 4 (s_1.Tables.map encGTable))]) rfl nle rfl<|s_do (o_call (w_spec_SchemaOK _ _ er11) rfl (.refl _) rfl)<|s_q (.bool (!r_10)) rfl trivial rfl<|s_mov (.bool (!r_10)) rfl<|s_lit (s:=9) (b:=false) rfl (bf c12)<|s_on rfl<|s_q (.agg [(.int .i64 o_2.Kind),(.str o_2.Table),(.str o_2.Name),(.lst 3 (o_2.Where.map encGCond)),(.lst 3 (o_2.Row.map encGSet)),(.lst 3 (o_2.Muts.map encGMut)),(.lst 1 (o_2.Columns.map AV.str)),(.bool o_2.Until)]) rfl nle rfl<|s_on rfl<|s_do (o_call (w_spec_OpOK _ _ er14) rfl (.refl _) rfl)<|s_on rfl<|s_q (.bool (!r_13)) rfl trivial rfl<|s_q (.bool (!r_13)) rfl trivial rfl<|w_done<|?_;obtain rfl:=os hb1;exact ⟨[],[0,1],_,_,rfl,rfl,⟨.refl _,⟨.refl _,⟨.refl _,trivial⟩⟩⟩,(.refl _)⟩
 ·rcases oi hf with ⟨c15,hf⟩ | ⟨c15,hf⟩
  ·refine w_condt rfl c15<|sr<|s_mov (.int .i64 0) rfl<|s_mov (.int .i64 1) rfl<|dk<|w_ret<|?_;obtain rfl:=os hf;exact r_flat ⟨trivial,⟨trivial,trivial⟩⟩ rfl (.refl _)
  ·refine w_condf rfl (bf c15)<|w_skip<|k_seq<|sr<|?_
   obtain ⟨r_16,er17,hf⟩:=ob hf
   refine s_q (.agg [(.lst 4 (s_1.Tables.map encGTable))]) rfl nle rfl<|s_q (.agg [(.int .i64 o_2.Kind),(.str o_2.Table),(.str o_2.Name),(.lst 3 (o_2.Where.map encGCond)),(.lst 3 (o_2.Row.map encGSet)),(.lst 3 (o_2.Muts.map encGMut)),(.lst 1 (o_2.Columns.map AV.str)),(.bool o_2.Until)]) rfl nle rfl<|s_do (o_call (w_spec_l08Code _ _ _ er17) rfl (.refl _) rfl)<|s_mov (.int .i64 r_16) rfl<|s_mov (.int .i64 0) rfl<|dk<|w_ret<|?_;obtain rfl:=os hf;exact r_flat ⟨trivial,⟨trivial,trivial⟩⟩ rfl (.refl _)

/- impl.within -/
def c58:ACode :=
 (.seq (.reg (tm 6 (.c (.bool false)) .done))
 (.seq (.reg (tm 7 (.t 0) (tm 8 (.t 1) (tq 9 (.bin .geq (.t 7) (.t 8)) (tm 10 (.t 9) (tg 11 10 true (.mov (.t 0)) (tg 12 10 true (.mov (.t 2)) (tg 13 10 true (.bin .leq (.t 11) (.t 12)) (tq 14 (.pick (.t 10) (.t 13) (.c (.bool false))) (tm 6 (.t 14) .done))))))))))
 .ret))
theorem fc58:fcomp Tryz.prog Tryz.f58 = some (c58.erase,[.mov (.t 6)],15):=by kernel_rfl
def impl_within (n_1:Int) (low_2:Int) (high_3:Int):Option Bool :=
    if (decide (n_1 ≥ low_2)) then
    some (decide (n_1 ≤ high_3))
    else
    some false
theorem w_impl_within (n_1:Int) (low_2:Int) (high_3:Int) (r:Bool) (hf:impl_within n_1 low_2 high_3 = some r):CallOK Tryz.prog 58 .flat [(.int .i64 n_1),(.int .i64 low_2),(.int .i64 high_3)] (.bool r):=by
 refine CallOK.of_awp mixed Tryz.func58 fc58 nle ?_;rw [argT_eq];unfold impl_within at hf;unfold c58;refine (show awp Tryz.prog false 0 _ (ofL [(0,(.int .i64 n_1)),(1,(.int .i64 low_2)),(2,(.int .i64 high_3))]) [] _ from ?_);refine sr<|s_mov (.bool false) rfl<|dk<|sr<|?_
 rcases oi hf with ⟨c4,hf⟩ | ⟨c4,hf⟩
 ·refine s_mov (.int .i64 n_1) rfl<|s_mov (.int .i64 low_2) rfl<|s_q (.bool (decide (n_1 ≥ low_2))) rfl rfl rfl<|s_mov (.bool (decide (n_1 ≥ low_2))) rfl<|s_lit (s:=10) (b:=true) rfl c4<|s_on rfl<|s_mov (.int .i64 n_1) rfl<|s_on rfl<|s_mov (.int .i64 high_3) rfl<|s_on rfl<|s_q (.bool (decide (n_1 ≤ high_3))) rfl rfl rfl<|s_q (.bool (decide (n_1 ≤ high_3))) rfl trivial rfl<|s_mov (.bool (decide (n_1 ≤ high_3))) rfl<|dk<|w_ret<|?_;obtain rfl:=os hf;exact r_flat ⟨trivial,trivial⟩ rfl (.refl _)
 ·refine s_mov (.int .i64 n_1) rfl<|s_mov (.int .i64 low_2) rfl<|s_q (.bool (decide (n_1 ≥ low_2))) rfl rfl rfl<|s_mov (.bool (decide (n_1 ≥ low_2))) rfl<|s_lit (s:=10) (b:=false) rfl (bf c4)<|s_off rfl rfl<|s_off rfl rfl<|s_off rfl rfl<|s_q (.bool false) rfl trivial rfl<|s_mov (.bool false) rfl<|dk<|w_ret<|?_;obtain rfl:=os hf;exact r_flat ⟨trivial,trivial⟩ rfl (.refl _)

/- impl.isDigit -/
def c146:ACode :=
 (.seq (.reg (tm 2 (.c (.bool false)) .done))
 (.seq (.reg (tm 3 (.t 0) (tq 4 (.bin .geq (.t 3) (.c (.int .u8 48))) (tm 5 (.t 4) (tg 6 5 true (.mov (.t 0)) (tg 7 5 true (.bin .leq (.t 6) (.c (.int .u8 57))) (tq 8 (.pick (.t 5) (.t 7) (.c (.bool false))) (tm 2 (.t 8) .done))))))))
 .ret))
theorem fc146:fcomp Tryz.prog Tryz.f146 = some (c146.erase,[.mov (.t 2)],9):=by kernel_rfl
def impl_isDigit (b_1:Int):Option Bool :=
    if (decide (b_1 ≥ 48)) then
    some (decide (b_1 ≤ 57))
    else
    some false
theorem w_impl_isDigit (b_1:Int) (r:Bool) (hf:impl_isDigit b_1 = some r):CallOK Tryz.prog 146 .flat [(.int .u8 b_1)] (.bool r):=by
 refine CallOK.of_awp mixed Tryz.func146 fc146 nle ?_;rw [argT_eq];unfold impl_isDigit at hf;unfold c146;refine (show awp Tryz.prog false 0 _ (ofL [(0,(.int .u8 b_1))]) [] _ from ?_);refine sr<|s_mov (.bool false) rfl<|dk<|sr<|?_
 rcases oi hf with ⟨c2,hf⟩ | ⟨c2,hf⟩
 ·refine s_mov (.int .u8 b_1) rfl<|s_q (.bool (decide (b_1 ≥ 48))) rfl rfl rfl<|s_mov (.bool (decide (b_1 ≥ 48))) rfl<|s_lit (s:=5) (b:=true) rfl c2<|s_on rfl<|s_mov (.int .u8 b_1) rfl<|s_on rfl<|s_q (.bool (decide (b_1 ≤ 57))) rfl rfl rfl<|s_q (.bool (decide (b_1 ≤ 57))) rfl trivial rfl<|s_mov (.bool (decide (b_1 ≤ 57))) rfl<|dk<|w_ret<|?_;obtain rfl:=os hf;exact r_flat ⟨trivial,trivial⟩ rfl (.refl _)
 ·refine s_mov (.int .u8 b_1) rfl<|s_q (.bool (decide (b_1 ≥ 48))) rfl rfl rfl<|s_mov (.bool (decide (b_1 ≥ 48))) rfl<|s_lit (s:=5) (b:=false) rfl (bf c2)<|s_off rfl rfl<|s_off rfl rfl<|s_q (.bool false) rfl trivial rfl<|s_mov (.bool false) rfl<|dk<|w_ret<|?_;obtain rfl:=os hf;exact r_flat ⟨trivial,trivial⟩ rfl (.refl _)

/- impl.NameOK -/
def c91:ACode :=
 (.seq (.reg (tm 2 (.c (.bool false)) .done))
 (.seq (.seq (.reg (tm 6 (.t 0) (tq 7 (.lenS (.t 6)) (tm 8 (.c (.int .i64 0)) .done))))
 (.block 0 (.loop (.seq (.reg (tq 9 (.bin .lss (.t 8) (.t 7)) .done))
 (.seq (.cond (.t 9) .skip
 (.exit 0))
 (.seq (.block 1 (.seq (.reg (tm 10 (.t 8) (tm 3 (.t 10) .done)))
 (.seq (.reg (tm 11 (.t 0) (tm 12 (.t 3) (tq 13 (.idxs (.t 11) (.t 12)) (tm 4 (.t 13) .done)))))
 (.seq (.reg (tm 14 (.t 4) (tq 15 (.bin .geq (.t 14) (.c (.int .u8 97))) (tm 16 (.t 15) (tg 17 16 true (.mov (.t 4)) (tg 18 16 true (.bin .leq (.t 17) (.c (.int .u8 122))) (tq 19 (.pick (.t 16) (.t 18) (.c (.bool false))) (tm 20 (.t 19) (tg 21 20 false (.mov (.t 4)) (tg 22 20 false (.bin .geq (.t 21) (.c (.int .u8 65))) (tg 23 20 false (.mov (.t 22)) (tg 24 23 true (.mov (.t 4)) (tg 25 23 true (.bin .leq (.t 24) (.c (.int .u8 90))) (tg 26 20 false (.pick (.t 23) (.t 25) (.c (.bool false))) (tq 27 (.pick (.t 20) (.c (.bool true)) (.t 26)) (tm 28 (.t 27) (tg 29 28 false (.mov (.t 4)) (tg 30 28 false (.bin .eql (.t 29) (.c (.int .u8 95))) (tq 31 (.pick (.t 28) (.c (.bool true)) (.t 30)) (tm 5 (.t 31) .done))))))))))))))))))))
 (.cut (.seq (.reg (tm 32 (.t 5) (tq 33 (.not (.t 32)) (tm 34 (.t 33) (tg 35 34 true (.mov (.t 3)) (tg 36 34 true (.bin .eql (.t 35) (.c (.int .i64 0))) (tg 37 34 true (.mov (.t 36)) (tg 38 37 false (.mov (.t 4)) (tg 39 37 false (.call 146 [(.t 38)]) (tg 40 37 false (.not (.t 39)) (tg 41 34 true (.pick (.t 37) (.c (.bool true)) (.t 40)) (tq 42 (.pick (.t 34) (.t 41) (.c (.bool false))) .done))))))))))))
 (.cut (.cond (.t 42) (.seq (.reg (tm 2 (.c (.bool false)) .done))
 .ret)
 .skip))))))))
 (.reg (tq 43 (.bin .add (.t 8) (.c (.int .i64 1))) (tm 8 (.t 43) .done)))))))))
 (.cut (.seq (.reg (tm 44 (.t 0) (tq 45 (.lenS (.t 44)) (tq 46 (.call 58 [(.t 45),(.c (.int .i64 1)),(.c (.int .i64 40))]) (tm 2 (.t 46) .done)))))
 .ret))))
theorem fc91:fcomp Tryz.prog Tryz.f91 = some (c91.erase,[.mov (.t 2)],47):=by kernel_rfl
def impl_NameOK_L1 :List UInt8 → Nat → Option (Fl Bool Unit)
  | [],s8_34 =>
    some (.go ())
  | x_57 :: xs,s8_34 =>
    ((some ():Option Unit)).bind fun _ =>
    ((if (!(bif (bif (bif (decide ((x_57.toNat:Int) ≥ 97)) then (decide ((x_57.toNat:Int) ≤ 122)) else false) then true else (bif (decide ((x_57.toNat:Int) ≥ 65)) then (decide ((x_57.toNat:Int) ≤ 90)) else false)) then true else ((x_57.toNat:Int) == 95))) then
    if ((s8_34:Int) == 0) then
    some true
    else
    (impl_isDigit (x_57.toNat:Int)).bind fun r_67 =>
    some (!r_67)
    else
    some false:Option Bool)).bind fun s42_63 =>
    if s42_63 then
    some (.ret false)
    else
    impl_NameOK_L1 xs (s8_34 + 1)

def impl_NameOK (t_1:Str):Option Bool :=
    (impl_NameOK_L1 t_1 0).bind fun q => (match q with
    | .ret r => some r
    | .go _ =>
    (impl_within (t_1.length:Int) 1 40).bind fun r_71 =>
    some r_71)
theorem w_impl_NameOK (t_1:Str) (r:Bool) (hf:impl_NameOK t_1 = some r):CallOK Tryz.prog 91 .flat [(.str t_1)] (.bool r):=by
 refine CallOK.of_awp mixed Tryz.func91 fc91 nle ?_;rw [argT_eq];unfold impl_NameOK at hf;unfold c91;refine (show awp Tryz.prog false 0 _ (ofL [(0,(.str t_1))]) [] _ from ?_);refine sr<|s_mov (.bool false) rfl<|dk<|awp_seq<|sr<|s_mov (.str t_1) rfl<|s_dof (o_lenS rfl) fun hl2 => s_mov (.int .i64 0) rfl<|dk<|?_
 obtain ⟨p50,hb1,hf⟩:=ob hf
 refine awp_cutx (X:={q:Unit // p50 = .go q}) (fun q => ([(0,(.str t_1))],[])) ?_ ?_
 ·refine awp_loop (X:={q:Nat // impl_NameOK_L1 (t_1.drop q) q = some p50}) (fun q => ([(0,(.str t_1)),(7,(.int .i64 (t_1.length:Int))),(8,(.int .i64 (q.1:Int)))],[])) (fun q => t_1.length - q.1) ⟨0,hb1⟩ ⟨[],[],_,_,rfl,rfl,⟨.refl _,⟨.refl _,⟨.refl _,trivial⟩⟩⟩,(.refl _)⟩ ?_
  rintro ⟨s8_34,hc1⟩
  have hc1:impl_NameOK_L1 (t_1.drop s8_34) s8_34 = some p50:=hc1
  refine (show awp Tryz.prog false 0 _ (ofL [(0,(.str t_1)),(7,(.int .i64 (t_1.length:Int))),(8,(.int .i64 (s8_34:Int)))]) [] _ from ?_)
  rcases dropc t_1 s8_34 with ⟨hie53,hd56⟩ | ⟨hlt51,x_57,hx52,hd56⟩
  ·rw [hd56,impl_NameOK_L1.eq_1] at hc1
   have hq55:=dlf hie53
   refine sr<|s_q (.bool (decide ((s8_34:Int) < (t_1.length:Int)))) rfl rfl rfl<|dk<|awp_seq<|w_condf rfl hq55<|w_exit<|k_seqx<|k_loopx<|k_blkx<|?_;obtain rfl:=os hc1;exact k_cutn ⟨_,rfl⟩ ⟨[],[],_,_,rfl,rfl,⟨.refl _,trivial⟩,(.refl _)⟩
  ·rw [hd56,impl_NameOK_L1.eq_2] at hc1
   have hq55:=dlt hlt51
   refine sr<|s_q (.bool (decide ((s8_34:Int) < (t_1.length:Int)))) rfl rfl rfl<|dk<|awp_seq<|w_condt rfl hq55<|w_skip<|k_seq<|awp_seq<|w_blk<|sr<|s_mov (.int .i64 (s8_34:Int)) rfl<|s_mov (.int .i64 (s8_34:Int)) rfl<|dk<|sr<|s_mov (.str t_1) rfl<|s_mov (.int .i64 (s8_34:Int)) rfl<|s_do (o_idxsn rfl rfl hx52)<|s_mov (.int .u8 (x_57.toNat:Int)) rfl<|dk<|awp_seq<|?_
   obtain ⟨p58,hb2,hc1⟩:=ob hc1
   refine awp_cut ([(0,(.str t_1)),(3,(.int .i64 (s8_34:Int))),(4,(.int .u8 (x_57.toNat:Int))),(5,(.bool (bif (bif (bif (decide ((x_57.toNat:Int) ≥ 97)) then (decide ((x_57.toNat:Int) ≤ 122)) else false) then true else (bif (decide ((x_57.toNat:Int) ≥ 65)) then (decide ((x_57.toNat:Int) ≤ 90)) else false)) then true else ((x_57.toNat:Int) == 95)))),(7,(.int .i64 (t_1.length:Int))),(8,(.int .i64 (s8_34:Int)))],[]) ?_ ?_
   ·refine w_reg<|s_mov (.int .u8 (x_57.toNat:Int)) rfl<|s_q (.bool (decide ((x_57.toNat:Int) ≥ 97))) rfl rfl rfl<|s_mov (.bool (decide ((x_57.toNat:Int) ≥ 97))) rfl<|?_;refine s_g (v:=(decide ((x_57.toNat:Int) ≥ 97))) (.int .u8 (x_57.toNat:Int)) rfl (fun hv => by (try simp only [gs_on hv]);exact ⟨rfl,trivial,rfl⟩) ?_;refine s_g (v:=(decide ((x_57.toNat:Int) ≥ 97))) (.bool (decide ((x_57.toNat:Int) ≤ 122))) rfl (fun hv => by (try simp only [gs_on hv]);exact ⟨rfl,rfl,rfl⟩) ?_;refine s_pick (x:=(decide ((x_57.toNat:Int) ≤ 122))) (y:=false) rfl (fun hv => by (try simp only [gs_on hv]);rfl) (fun hv => by (try simp only [gs_on hv]);rfl) ?_;refine s_mov (.bool (bif (decide ((x_57.toNat:Int) ≥ 97)) then (decide ((x_57.toNat:Int) ≤ 122)) else false)) rfl ?_
    refine s_g (v:=(bif (decide ((x_57.toNat:Int) ≥ 97)) then (decide ((x_57.toNat:Int) ≤ 122)) else false)) (.int .u8 (x_57.toNat:Int)) rfl (fun hv => by (try simp only [gs_on hv]);exact ⟨rfl,trivial,rfl⟩) ?_;refine s_g (v:=(bif (decide ((x_57.toNat:Int) ≥ 97)) then (decide ((x_57.toNat:Int) ≤ 122)) else false)) (.bool (decide ((x_57.toNat:Int) ≥ 65))) rfl (fun hv => by (try simp only [gs_on hv]);exact ⟨rfl,rfl,rfl⟩) ?_;refine s_g (v:=(bif (decide ((x_57.toNat:Int) ≥ 97)) then (decide ((x_57.toNat:Int) ≤ 122)) else false)) (.bool (decide ((x_57.toNat:Int) ≥ 65))) rfl (fun hv => by (try simp only [gs_on hv]);exact ⟨rfl,trivial,rfl⟩) ?_;refine s_gg (v1:=(bif (decide ((x_57.toNat:Int) ≥ 97)) then (decide ((x_57.toNat:Int) ≤ 122)) else false)) (b1:=false) (v2:=(decide ((x_57.toNat:Int) ≥ 65))) (.int .u8 (x_57.toNat:Int)) rfl (fun hv hw => by (try simp only [gs_on hv,gs_on hw]);exact ⟨rfl,trivial,rfl⟩) ?_
    refine s_gg (v1:=(bif (decide ((x_57.toNat:Int) ≥ 97)) then (decide ((x_57.toNat:Int) ≤ 122)) else false)) (b1:=false) (v2:=(decide ((x_57.toNat:Int) ≥ 65))) (.bool (decide ((x_57.toNat:Int) ≤ 90))) rfl (fun hv hw => by (try simp only [gs_on hv,gs_on hw]);exact ⟨rfl,rfl,rfl⟩) ?_;refine s_gp (v1:=(bif (decide ((x_57.toNat:Int) ≥ 97)) then (decide ((x_57.toNat:Int) ≤ 122)) else false)) (b1:=false) (v2:=(decide ((x_57.toNat:Int) ≥ 65))) (x:=(decide ((x_57.toNat:Int) ≤ 90))) (y:=false) rfl (fun hv => by (try simp only [gs_on hv]);rfl) (fun hv hw => by (try simp only [gs_on hv,gs_on hw]);rfl) (fun hv hw => by (try simp only [gs_on hv,gs_on hw]);rfl) ?_;refine s_pick (x:=true) (y:=(bif (decide ((x_57.toNat:Int) ≥ 65)) then (decide ((x_57.toNat:Int) ≤ 90)) else false)) rfl (fun hv => by (try simp only [gs_on hv]);rfl) (fun hv => by (try simp only [gs_on hv]);rfl) ?_
    refine s_mov (.bool (bif (bif (decide ((x_57.toNat:Int) ≥ 97)) then (decide ((x_57.toNat:Int) ≤ 122)) else false) then true else (bif (decide ((x_57.toNat:Int) ≥ 65)) then (decide ((x_57.toNat:Int) ≤ 90)) else false))) rfl ?_;refine s_g (v:=(bif (bif (decide ((x_57.toNat:Int) ≥ 97)) then (decide ((x_57.toNat:Int) ≤ 122)) else false) then true else (bif (decide ((x_57.toNat:Int) ≥ 65)) then (decide ((x_57.toNat:Int) ≤ 90)) else false))) (.int .u8 (x_57.toNat:Int)) rfl (fun hv => by (try simp only [gs_on hv]);exact ⟨rfl,trivial,rfl⟩) ?_;refine s_g (v:=(bif (bif (decide ((x_57.toNat:Int) ≥ 97)) then (decide ((x_57.toNat:Int) ≤ 122)) else false) then true else (bif (decide ((x_57.toNat:Int) ≥ 65)) then (decide ((x_57.toNat:Int) ≤ 90)) else false))) (.bool ((x_57.toNat:Int) == 95)) rfl (fun hv => by (try simp only [gs_on hv]);exact ⟨rfl,rfl,rfl⟩) ?_
    refine s_pick (x:=true) (y:=((x_57.toNat:Int) == 95)) rfl (fun hv => by (try simp only [gs_on hv]);rfl) (fun hv => by (try simp only [gs_on hv]);rfl) ?_;refine s_mov (.bool (bif (bif (bif (decide ((x_57.toNat:Int) ≥ 97)) then (decide ((x_57.toNat:Int) ≤ 122)) else false) then true else (bif (decide ((x_57.toNat:Int) ≥ 65)) then (decide ((x_57.toNat:Int) ≤ 90)) else false)) then true else ((x_57.toNat:Int) == 95))) rfl<|w_done<|?_;obtain rfl:=os hb2;exact ⟨[],[],_,_,rfl,rfl,⟨.refl _,⟨.refl _,⟨.refl _,⟨.refl _,⟨.refl _,⟨.refl _,trivial⟩⟩⟩⟩⟩⟩,(.refl _)⟩
   ·refine awp_seq ?_
    obtain ⟨s42_63,hb2,hc1⟩:=ob hc1
    refine awp_cut ([(0,(.str t_1)),(7,(.int .i64 (t_1.length:Int))),(8,(.int .i64 (s8_34:Int))),(42,(.bool s42_63))],[]) ?_ ?_
    ·refine w_reg ?_
     rcases oi hb2 with ⟨c65,hb2⟩ | ⟨c65,hb2⟩
     ·rcases oi hb2 with ⟨c66,hb2⟩ | ⟨c66,hb2⟩
      ·refine s_mov (.bool (bif (bif (bif (decide ((x_57.toNat:Int) ≥ 97)) then (decide ((x_57.toNat:Int) ≤ 122)) else false) then true else (bif (decide ((x_57.toNat:Int) ≥ 65)) then (decide ((x_57.toNat:Int) ≤ 90)) else false)) then true else ((x_57.toNat:Int) == 95))) rfl<|s_q (.bool (!(bif (bif (bif (decide ((x_57.toNat:Int) ≥ 97)) then (decide ((x_57.toNat:Int) ≤ 122)) else false) then true else (bif (decide ((x_57.toNat:Int) ≥ 65)) then (decide ((x_57.toNat:Int) ≤ 90)) else false)) then true else ((x_57.toNat:Int) == 95)))) rfl trivial rfl<|s_mov (.bool (!(bif (bif (bif (decide ((x_57.toNat:Int) ≥ 97)) then (decide ((x_57.toNat:Int) ≤ 122)) else false) then true else (bif (decide ((x_57.toNat:Int) ≥ 65)) then (decide ((x_57.toNat:Int) ≤ 90)) else false)) then true else ((x_57.toNat:Int) == 95)))) rfl<|?_
       refine s_lit (s:=34) (b:=true) rfl c65<|s_on rfl<|s_mov (.int .i64 (s8_34:Int)) rfl<|s_on rfl<|s_q (.bool ((s8_34:Int) == 0)) rfl rfl rfl<|s_on rfl<|s_mov (.bool ((s8_34:Int) == 0)) rfl<|s_lit (s:=37) (b:=true) rfl c66<|s_off rfl rfl<|s_off rfl rfl<|s_off rfl rfl<|s_on rfl<|s_q (.bool true) rfl trivial rfl<|s_q (.bool true) rfl trivial rfl<|w_done<|?_;obtain rfl:=os hb2;exact ⟨[],[],_,_,rfl,rfl,⟨.refl _,⟨.refl _,⟨.refl _,⟨.refl _,trivial⟩⟩⟩⟩,(.refl _)⟩
      ·obtain ⟨r_67,er68,hb2⟩:=ob hb2
       refine s_mov (.bool (bif (bif (bif (decide ((x_57.toNat:Int) ≥ 97)) then (decide ((x_57.toNat:Int) ≤ 122)) else false) then true else (bif (decide ((x_57.toNat:Int) ≥ 65)) then (decide ((x_57.toNat:Int) ≤ 90)) else false)) then true else ((x_57.toNat:Int) == 95))) rfl<|s_q (.bool (!(bif (bif (bif (decide ((x_57.toNat:Int) ≥ 97)) then (decide ((x_57.toNat:Int) ≤ 122)) else false) then true else (bif (decide ((x_57.toNat:Int) ≥ 65)) then (decide ((x_57.toNat:Int) ≤ 90)) else false)) then true else ((x_57.toNat:Int) == 95)))) rfl trivial rfl<|s_mov (.bool (!(bif (bif (bif (decide ((x_57.toNat:Int) ≥ 97)) then (decide ((x_57.toNat:Int) ≤ 122)) else false) then true else (bif (decide ((x_57.toNat:Int) ≥ 65)) then (decide ((x_57.toNat:Int) ≤ 90)) else false)) then true else ((x_57.toNat:Int) == 95)))) rfl<|?_
       refine s_lit (s:=34) (b:=true) rfl c65<|s_on rfl<|s_mov (.int .i64 (s8_34:Int)) rfl<|s_on rfl<|s_q (.bool ((s8_34:Int) == 0)) rfl rfl rfl<|s_on rfl<|s_mov (.bool ((s8_34:Int) == 0)) rfl<|s_lit (s:=37) (b:=false) rfl (bf c66)<|s_on rfl<|s_mov (.int .u8 (x_57.toNat:Int)) rfl<|s_on rfl<|s_do (o_call (w_impl_isDigit _ _ er68) rfl (.refl _) rfl)<|s_on rfl<|s_q (.bool (!r_67)) rfl trivial rfl<|s_on rfl<|s_q (.bool (!r_67)) rfl trivial rfl<|s_q (.bool (!r_67)) rfl trivial rfl<|w_done<|?_;obtain rfl:=os hb2;exact ⟨[],[],_,_,rfl,rfl,⟨.refl _,⟨.refl _,⟨.refl _,⟨.refl _,trivial⟩⟩⟩⟩,(.refl _)⟩
     ·refine s_mov (.bool (bif (bif (bif (decide ((x_57.toNat:Int) ≥ 97)) then (decide ((x_57.toNat:Int) ≤ 122)) else false) then true else (bif (decide ((x_57.toNat:Int) ≥ 65)) then (decide ((x_57.toNat:Int) ≤ 90)) else false)) then true else ((x_57.toNat:Int) == 95))) rfl<|s_q (.bool (!(bif (bif (bif (decide ((x_57.toNat:Int) ≥ 97)) then (decide ((x_57.toNat:Int) ≤ 122)) else false) then true else (bif (decide ((x_57.toNat:Int) ≥ 65)) then (decide ((x_57.toNat:Int) ≤ 90)) else false)) then true else ((x_57.toNat:Int) == 95)))) rfl trivial rfl<|s_mov (.bool (!(bif (bif (bif (decide ((x_57.toNat:Int) ≥ 97)) then (decide ((x_57.toNat:Int) ≤ 122)) else false) then true else (bif (decide ((x_57.toNat:Int) ≥ 65)) then (decide ((x_57.toNat:Int) ≤ 90)) else false)) then true else ((x_57.toNat:Int) == 95)))) rfl<|?_
      refine s_lit (s:=34) (b:=false) rfl (bf c65)<|s_off rfl rfl<|s_off rfl rfl<|s_off rfl rfl<|s_offs rfl<|s_offs rfl<|s_offs rfl<|s_off rfl rfl<|s_q (.bool false) rfl trivial rfl<|w_done<|?_;obtain rfl:=os hb2;exact ⟨[],[],_,_,rfl,rfl,⟨.refl _,⟨.refl _,⟨.refl _,⟨.refl _,trivial⟩⟩⟩⟩,(.refl _)⟩
    ·rcases oi hc1 with ⟨c69,hc1⟩ | ⟨c69,hc1⟩
     ·refine w_condt rfl c69<|sr<|s_mov (.bool false) rfl<|dk<|w_ret<|?_;obtain rfl:=os hc1;obtain rfl:=os hf;exact r_flat ⟨trivial,trivial⟩ rfl (.refl _)
     ·refine w_condf rfl (bf c69)<|w_skip<|k_blk<|k_seq<|w_reg<|s_q (.int .i64 (w64 ((s8_34:Int) + 1))) rfl rfl rfl<|s_mov (.int .i64 (w64 ((s8_34:Int) + 1))) rfl<|w_done<|?_;exact k_loopn ⟨(s8_34 + 1),hc1⟩ (mul hlt51) ⟨[],[],_,_,rfl,rfl,⟨.refl _,⟨.refl _,⟨.of_eq (congrArg (AV.int _) (w64_incr hlt51 hl2)),trivial⟩⟩⟩,(.refl _)⟩
 ·rintro ⟨_,rfl⟩
  refine sr<|?_
  obtain ⟨r_71,er72,hf⟩:=ob hf
  refine s_mov (.str t_1) rfl<|s_dof (o_lenS rfl) fun hl70 => s_do (o_call (w_impl_within _ _ _ _ er72) rfl (.refl _) rfl)<|s_mov (.bool r_71) rfl<|dk<|w_ret<|?_;obtain rfl:=os hf;exact r_flat ⟨trivial,trivial⟩ rfl (.refl _)

/- impl.isNumber -/
def c170:ACode :=
 (.seq (.reg (tm 2 (.c (.bool false)) .done))
 (.seq (.reg (tm 3 (.t 0) (tq 4 (.call 58 [(.t 3),(.c (.int .i64 (-1000000000))),(.c (.int .i64 1000000000))]) (tm 2 (.t 4) .done))))
 .ret))
theorem fc170:fcomp Tryz.prog Tryz.f170 = some (c170.erase,[.mov (.t 2)],5):=by kernel_rfl
def impl_isNumber (n_1:Int):Option Bool :=
    (impl_within n_1 (-1000000000) 1000000000).bind fun r_2 =>
    some r_2
theorem w_impl_isNumber (n_1:Int) (r:Bool) (hf:impl_isNumber n_1 = some r):CallOK Tryz.prog 170 .flat [(.int .i64 n_1)] (.bool r):=by
  refine CallOK.of_awp mixed Tryz.func170 fc170 nle ?_
  rw [argT_eq]
  unfold impl_isNumber at hf
  unfold c170
  refine (show awp Tryz.prog false 0 _ (ofL [(0,(.int .i64 n_1))]) [] _ from ?_)
  refine awp_seq ?_
  refine w_reg ?_
  refine s_do (o_mov (.bool false) rfl) ?_
  refine w_done ?_
  refine k_seq ?_
  refine awp_seq ?_
  refine w_reg ?_
  obtain ⟨r_2,er3,hf⟩:=ob hf
  refine s_do (o_mov (.int .i64 n_1) rfl) ?_
  refine s_do (o_call (w_impl_within _ _ _ _ er3) rfl (.refl _) rfl) ?_
  refine s_do (o_mov (.bool r_2) rfl) ?_
  refine w_done ?_
  refine k_seq ?_
  refine w_ret ?_
  obtain rfl:=os hf
  exact r_flat ⟨trivial,trivial⟩ rfl (.refl _)

/- impl.ColumnOK -/
def c130:ACode :=
 (.seq (.reg (tq 1 (.box 8 (.t 0)) (tm 2 (.c (.bool false)) .done)))
 (.seq (.seq (.reg (tq 3 (.faddr 0 (.t 1)) (tq 4 (.load 1 false (.t 3)) (tq 5 (.call 91 [(.t 4)]) (tq 6 (.not (.t 5)) (tm 7 (.t 6) (tg 8 7 false (.faddr 2 (.t 1)) (tg 9 7 false (.load 1 false (.t 8)) (tg 10 7 false (.call 58 [(.t 9),(.c (.int .i64 0)),(.c (.int .i64 1))]) (tg 11 7 false (.not (.t 10)) (tq 12 (.pick (.t 7) (.c (.bool true)) (.t 11)) (tm 13 (.t 12) (tg 14 13 false (.faddr 3 (.t 1)) (tg 15 13 false (.load 1 false (.t 14)) (tg 16 13 false (.call 58 [(.t 15),(.c (.int .i64 1)),(.c (.int .i64 8))]) (tg 17 13 false (.not (.t 16)) (tq 18 (.pick (.t 13) (.c (.bool true)) (.t 17)) .done)))))))))))))))))
 (.cut (.cond (.t 18) (.seq (.reg (tm 2 (.c (.bool false)) .done))
 .ret)
 .skip)))
 (.seq (.seq (.reg (tq 19 (.faddr 1 (.t 1)) (tq 20 (.load 1 false (.t 19)) .done)))
 (.block 0 (.seq (.reg (tq 22 (.bin .eql (.t 20) (.c (.int .i64 1))) (tm 21 (.t 22) .done)))
 (.cond (.t 21) (.seq (.reg (tq 23 (.faddr 4 (.t 1)) (tq 24 (.load 1 false (.t 23)) (tq 25 (.call 170 [(.t 24)]) (tm 26 (.t 25) (tg 27 26 true (.faddr 5 (.t 1)) (tg 28 26 true (.load 1 false (.t 27)) (tg 29 26 true (.call 170 [(.t 28)]) (tq 30 (.pick (.t 26) (.t 29) (.c (.bool false))) (tm 31 (.t 30) (tg 32 31 true (.faddr 4 (.t 1)) (tg 33 31 true (.load 1 false (.t 32)) (tg 34 31 true (.faddr 5 (.t 1)) (tg 35 31 true (.load 1 false (.t 34)) (tg 36 31 true (.bin .leq (.t 33) (.t 35)) (tq 37 (.pick (.t 31) (.t 36) (.c (.bool false))) (tm 38 (.t 37) (tg 39 38 true (.faddr 6 (.t 1)) (tg 40 38 true (.load 1 false (.t 39)) (tg 41 38 true (.bin .eql (.t 40) (.c (.str []))) (tq 42 (.pick (.t 38) (.t 41) (.c (.bool false))) (tm 43 (.t 42) (tg 44 43 true (.faddr 7 (.t 1)) (tg 45 43 true (.load 1 false (.t 44)) (tg 46 43 true (.not (.t 45)) (tq 47 (.pick (.t 43) (.t 46) (.c (.bool false))) (tm 2 (.t 47) .done)))))))))))))))))))))))))))
 .ret)
 (.seq (.seq (.reg (tq 49 (.bin .eql (.t 20) (.c (.int .i64 2))) (tm 48 (.t 49) .done)))
 (.cond (.t 48) .skip
 (.reg (tq 50 (.bin .eql (.t 20) (.c (.int .i64 3))) (tm 48 (.t 50) .done)))))
 (.cut (.cond (.t 48) (.seq (.reg (tq 51 (.faddr 4 (.t 1)) (tq 52 (.load 1 false (.t 51)) (tq 53 (.bin .eql (.t 52) (.c (.int .i64 0))) (tm 54 (.t 53) (tg 55 54 true (.faddr 5 (.t 1)) (tg 56 54 true (.load 1 false (.t 55)) (tg 57 54 true (.bin .eql (.t 56) (.c (.int .i64 0))) (tq 58 (.pick (.t 54) (.t 57) (.c (.bool false))) (tm 59 (.t 58) (tg 60 59 true (.faddr 6 (.t 1)) (tg 61 59 true (.load 1 false (.t 60)) (tg 62 59 true (.bin .eql (.t 61) (.c (.str []))) (tq 63 (.pick (.t 59) (.t 62) (.c (.bool false))) (tm 64 (.t 63) (tg 65 64 true (.faddr 7 (.t 1)) (tg 66 64 true (.load 1 false (.t 65)) (tg 67 64 true (.not (.t 66)) (tq 68 (.pick (.t 64) (.t 67) (.c (.bool false))) (tm 2 (.t 68) .done))))))))))))))))))))
 .ret)
 (.seq (.reg (tq 70 (.bin .eql (.t 20) (.c (.int .i64 4))) (tm 69 (.t 70) .done)))
 (.cond (.t 69) (.seq (.reg (tq 71 (.faddr 4 (.t 1)) (tq 72 (.load 1 false (.t 71)) (tq 73 (.bin .eql (.t 72) (.c (.int .i64 0))) (tm 74 (.t 73) (tg 75 74 true (.faddr 5 (.t 1)) (tg 76 74 true (.load 1 false (.t 75)) (tg 77 74 true (.bin .eql (.t 76) (.c (.int .i64 0))) (tq 78 (.pick (.t 74) (.t 77) (.c (.bool false))) (tm 79 (.t 78) (tg 80 79 true (.faddr 6 (.t 1)) (tg 81 79 true (.load 1 false (.t 80)) (tg 82 79 true (.call 91 [(.t 81)]) (tq 83 (.pick (.t 79) (.t 82) (.c (.bool false))) (tm 84 (.t 83) (tg 85 84 true (.faddr 2 (.t 1)) (tg 86 84 true (.load 1 false (.t 85)) (tg 87 84 true (.bin .eql (.t 86) (.c (.int .i64 0))) (tq 88 (.pick (.t 84) (.t 87) (.c (.bool false))) (tm 2 (.t 88) .done))))))))))))))))))))
 .ret)
 .skip)))))))))
 (.seq (.reg (tm 2 (.c (.bool false)) .done))
 .ret))))
theorem fc130:fcomp Tryz.prog Tryz.f130 = some (c130.erase,[.mov (.t 2)],89):=by kernel_rfl
def impl_ColumnOK (c_1:GColumn):Option Bool :=
    (((impl_NameOK c_1.Name).bind fun r_12 =>
    if (!r_12) then
    some true
    else
    (impl_within c_1.Min 0 1).bind fun r_15 =>
    if (!r_15) then
    some true
    else
    (impl_within c_1.Max 1 8).bind fun r_18 =>
    some (!r_18):Option Bool)).bind fun s18_10 =>
    if s18_10 then
    some false
    else
    if (c_1.Kind == 1) then
    (impl_isNumber c_1.Low).bind fun r_22 =>
    if r_22 then
    (impl_isNumber c_1.High).bind fun r_25 =>
    some (bif (bif (bif r_25 then (decide (c_1.Low ≤ c_1.High)) else false) then (c_1.Ref == []) else false) then (!c_1.Strong) else false)
    else
    some false
    else
    ((if (c_1.Kind == 2) then
    some true
    else
    some (c_1.Kind == 3):Option Bool)).bind fun s48_28 =>
    if s48_28 then
    some (bif (bif (bif (c_1.Low == 0) then (c_1.High == 0) else false) then (c_1.Ref == []) else false) then (!c_1.Strong) else false)
    else
    if (c_1.Kind == 4) then
    if (bif (c_1.Low == 0) then (c_1.High == 0) else false) then
    (impl_NameOK c_1.Ref).bind fun r_34 =>
    some (bif r_34 then (c_1.Min == 0) else false)
    else
    some false
    else
    some false
theorem w_impl_ColumnOK (c_1:GColumn) (r:Bool) (hf:impl_ColumnOK c_1 = some r):CallOK Tryz.prog 130 .flat [(encGColumn c_1)] (.bool r):=by
 refine CallOK.of_awp mixed Tryz.func130 fc130 nle ?_;rw [argT_eq];unfold impl_ColumnOK at hf;unfold c130;refine (show awp Tryz.prog false 0 _ (ofL [(0,(encGColumn c_1))]) [] _ from ?_);refine sr<|s_do (o_box (j:=0) (c:=(.agg [(.str c_1.Name),(.int .i64 c_1.Kind),(.int .i64 c_1.Min),(.int .i64 c_1.Max),(.int .i64 c_1.Low),(.int .i64 c_1.High),(.str c_1.Ref),(.bool c_1.Strong)])) rfl trivial rfl rfl)<|s_mov (.bool false) rfl<|dk<|awp_seq<|awp_seq<|?_
 obtain ⟨s18_10,hb1,hf⟩:=ob hf
 refine awp_cut ([(1,(.ptr 0 0 0)),(18,(.bool s18_10))],[.box 8 (.agg [(.str c_1.Name),(.int .i64 c_1.Kind),(.int .i64 c_1.Min),(.int .i64 c_1.Max),(.int .i64 c_1.Low),(.int .i64 c_1.High),(.str c_1.Ref),(.bool c_1.Strong)])]) ?_ ?_
 ·refine w_reg<|s_q (.ptr 0 0 0) rfl trivial rfl<|s_q (.str c_1.Name) rfl nle rfl<|?_
  obtain ⟨r_12,er13,hb1⟩:=ob hb1
  refine s_do (o_call (w_impl_NameOK _ _ er13) rfl (.refl _) rfl)<|s_q (.bool (!r_12)) rfl trivial rfl<|s_mov (.bool (!r_12)) rfl<|?_
  rcases oi hb1 with ⟨c14,hb1⟩ | ⟨c14,hb1⟩
  ·refine s_lit (s:=7) (b:=true) rfl c14<|s_off rfl rfl<|s_off rfl rfl<|s_off rfl rfl<|s_off rfl rfl<|s_q (.bool true) rfl trivial rfl<|s_mov (.bool true) rfl<|s_off rfl rfl<|s_off rfl rfl<|s_off rfl rfl<|s_off rfl rfl<|s_q (.bool true) rfl trivial rfl<|w_done<|?_;obtain rfl:=os hb1;exact ⟨[],[0],_,_,rfl,rfl,⟨.refl _,⟨.refl _,trivial⟩⟩,(.refl _)⟩
  ·refine s_lit (s:=7) (b:=false) rfl (bf c14)<|s_on rfl<|s_q (.ptr 0 0 2) rfl trivial rfl<|s_on rfl<|s_q (.int .i64 c_1.Min) rfl nle rfl<|s_on rfl<|?_
   obtain ⟨r_15,er16,hb1⟩:=ob hb1
   refine s_do (o_call (w_impl_within _ _ _ _ er16) rfl (.refl _) rfl)<|s_on rfl<|s_q (.bool (!r_15)) rfl trivial rfl<|s_q (.bool (!r_15)) rfl trivial rfl<|s_mov (.bool (!r_15)) rfl<|?_
   rcases oi hb1 with ⟨c17,hb1⟩ | ⟨c17,hb1⟩
   ·refine s_lit (s:=13) (b:=true) rfl c17<|s_off rfl rfl<|s_off rfl rfl<|s_off rfl rfl<|s_off rfl rfl<|s_q (.bool true) rfl trivial rfl<|w_done<|?_;obtain rfl:=os hb1;exact ⟨[],[0],_,_,rfl,rfl,⟨.refl _,⟨.refl _,trivial⟩⟩,(.refl _)⟩
   ·refine s_lit (s:=13) (b:=false) rfl (bf c17)<|s_on rfl<|s_q (.ptr 0 0 3) rfl trivial rfl<|s_on rfl<|s_q (.int .i64 c_1.Max) rfl nle rfl<|s_on rfl<|?_
    obtain ⟨r_18,er19,hb1⟩:=ob hb1
    refine s_do (o_call (w_impl_within _ _ _ _ er19) rfl (.refl _) rfl)<|s_on rfl<|s_q (.bool (!r_18)) rfl trivial rfl<|s_q (.bool (!r_18)) rfl trivial rfl<|w_done<|?_;obtain rfl:=os hb1;exact ⟨[],[0],_,_,rfl,rfl,⟨.refl _,⟨.refl _,trivial⟩⟩,(.refl _)⟩
 ·rcases oi hf with ⟨c20,hf⟩ | ⟨c20,hf⟩
  ·refine w_condt rfl c20<|sr<|s_mov (.bool false) rfl<|dk<|w_ret<|?_;obtain rfl:=os hf;exact r_flat ⟨trivial,trivial⟩ rfl (.refl _)
  ·refine w_condf rfl (bf c20)<|w_skip<|k_seq<|awp_seq<|sr<|s_q (.ptr 0 0 1) rfl trivial rfl<|s_q (.int .i64 c_1.Kind) rfl nle rfl<|dk<|w_blk<|sr<|s_q (.bool (c_1.Kind == 1)) rfl rfl rfl<|s_mov (.bool (c_1.Kind == 1)) rfl<|dk<|?_
   rcases oi hf with ⟨c21,hf⟩ | ⟨c21,hf⟩
   ·refine w_condt rfl c21<|sr<|s_q (.ptr 0 0 4) rfl trivial rfl<|s_q (.int .i64 c_1.Low) rfl nle rfl<|?_
    obtain ⟨r_22,er23,hf⟩:=ob hf
    refine s_do (o_call (w_impl_isNumber _ _ er23) rfl (.refl _) rfl)<|s_mov (.bool r_22) rfl<|?_
    rcases oi hf with ⟨c24,hf⟩ | ⟨c24,hf⟩
    ·refine s_lit (s:=26) (b:=true) rfl c24<|s_on rfl<|s_q (.ptr 0 0 5) rfl trivial rfl<|s_on rfl<|s_q (.int .i64 c_1.High) rfl nle rfl<|s_on rfl<|?_
     obtain ⟨r_25,er26,hf⟩:=ob hf
     refine s_do (o_call (w_impl_isNumber _ _ er26) rfl (.refl _) rfl)<|s_q (.bool r_25) rfl trivial rfl<|s_mov (.bool r_25) rfl<|?_;refine s_g (v:=r_25) (.ptr 0 0 4) rfl (fun hv => by (try simp only [gs_on hv]);exact ⟨rfl,trivial,rfl⟩) ?_;refine s_g (v:=r_25) (.int .i64 c_1.Low) rfl (fun hv => by (try simp only [gs_on hv]);exact ⟨rfl,nle,rfl⟩) ?_;refine s_g (v:=r_25) (.ptr 0 0 5) rfl (fun hv => by (try simp only [gs_on hv]);exact ⟨rfl,trivial,rfl⟩) ?_;refine s_g (v:=r_25) (.int .i64 c_1.High) rfl (fun hv => by (try simp only [gs_on hv]);exact ⟨rfl,nle,rfl⟩) ?_;refine s_g (v:=r_25) (.bool (decide (c_1.Low ≤ c_1.High))) rfl (fun hv => by (try simp only [gs_on hv]);exact ⟨rfl,rfl,rfl⟩) ?_
     refine s_pick (x:=(decide (c_1.Low ≤ c_1.High))) (y:=false) rfl (fun hv => by (try simp only [gs_on hv]);rfl) (fun hv => by (try simp only [gs_on hv]);rfl) ?_;refine s_mov (.bool (bif r_25 then (decide (c_1.Low ≤ c_1.High)) else false)) rfl ?_;refine s_g (v:=(bif r_25 then (decide (c_1.Low ≤ c_1.High)) else false)) (.ptr 0 0 6) rfl (fun hv => by (try simp only [gs_on hv]);exact ⟨rfl,trivial,rfl⟩) ?_;refine s_g (v:=(bif r_25 then (decide (c_1.Low ≤ c_1.High)) else false)) (.str c_1.Ref) rfl (fun hv => by (try simp only [gs_on hv]);exact ⟨rfl,nle,rfl⟩) ?_;refine s_g (v:=(bif r_25 then (decide (c_1.Low ≤ c_1.High)) else false)) (.bool (c_1.Ref == [])) rfl (fun hv => by (try simp only [gs_on hv]);exact ⟨rfl,trivial,rfl⟩) ?_
     refine s_pick (x:=(c_1.Ref == [])) (y:=false) rfl (fun hv => by (try simp only [gs_on hv]);rfl) (fun hv => by (try simp only [gs_on hv]);rfl) ?_;refine s_mov (.bool (bif (bif r_25 then (decide (c_1.Low ≤ c_1.High)) else false) then (c_1.Ref == []) else false)) rfl ?_;refine s_g (v:=(bif (bif r_25 then (decide (c_1.Low ≤ c_1.High)) else false) then (c_1.Ref == []) else false)) (.ptr 0 0 7) rfl (fun hv => by (try simp only [gs_on hv]);exact ⟨rfl,trivial,rfl⟩) ?_;refine s_g (v:=(bif (bif r_25 then (decide (c_1.Low ≤ c_1.High)) else false) then (c_1.Ref == []) else false)) (.bool c_1.Strong) rfl (fun hv => by (try simp only [gs_on hv]);exact ⟨rfl,nle,rfl⟩) ?_;refine s_g (v:=(bif (bif r_25 then (decide (c_1.Low ≤ c_1.High)) else false) then (c_1.Ref == []) else false)) (.bool (!c_1.Strong)) rfl (fun hv => by (try simp only [gs_on hv]);exact ⟨rfl,trivial,rfl⟩) ?_
     refine s_pick (x:=(!c_1.Strong)) (y:=false) rfl (fun hv => by (try simp only [gs_on hv]);rfl) (fun hv => by (try simp only [gs_on hv]);rfl) ?_;refine s_mov (.bool (bif (bif (bif r_25 then (decide (c_1.Low ≤ c_1.High)) else false) then (c_1.Ref == []) else false) then (!c_1.Strong) else false)) rfl<|dk<|w_ret<|?_;obtain rfl:=os hf;exact r_flat ⟨trivial,trivial⟩ rfl (.refl _)
    ·refine s_lit (s:=26) (b:=false) rfl (bf c24)<|s_off rfl rfl<|s_off rfl rfl<|s_off rfl rfl<|s_q (.bool false) rfl trivial rfl<|s_mov (.bool false) rfl<|s_off rfl rfl<|s_off rfl rfl<|s_off rfl rfl<|s_off rfl rfl<|s_off rfl rfl<|s_q (.bool false) rfl trivial rfl<|s_mov (.bool false) rfl<|s_off rfl rfl<|s_off rfl rfl<|s_off rfl rfl<|s_q (.bool false) rfl trivial rfl<|s_mov (.bool false) rfl<|s_off rfl rfl<|s_off rfl rfl<|s_off rfl rfl<|s_q (.bool false) rfl trivial rfl<|s_mov (.bool false) rfl<|dk<|w_ret<|?_;obtain rfl:=os hf;exact r_flat ⟨trivial,trivial⟩ rfl (.refl _)
   ·refine w_condf rfl (bf c21)<|awp_seq<|?_
    obtain ⟨s48_28,hb1,hf⟩:=ob hf
    refine awp_cut ([(1,(.ptr 0 0 0)),(20,(.int .i64 c_1.Kind)),(48,(.bool s48_28))],[.box 8 (.agg [(.str c_1.Name),(.int .i64 c_1.Kind),(.int .i64 c_1.Min),(.int .i64 c_1.Max),(.int .i64 c_1.Low),(.int .i64 c_1.High),(.str c_1.Ref),(.bool c_1.Strong)])]) ?_ ?_
    ·refine sr<|s_q (.bool (c_1.Kind == 2)) rfl rfl rfl<|s_mov (.bool (c_1.Kind == 2)) rfl<|dk<|?_
     rcases oi hb1 with ⟨c30,hb1⟩ | ⟨c30,hb1⟩
     ·refine w_condt rfl c30<|w_skip<|?_;obtain rfl:=os hb1;exact ⟨[],[0],_,_,rfl,rfl,⟨.refl _,⟨.refl _,⟨.refl _,trivial⟩⟩⟩,(.refl _)⟩
     ·refine w_condf rfl (bf c30)<|w_reg<|s_q (.bool (c_1.Kind == 3)) rfl rfl rfl<|s_mov (.bool (c_1.Kind == 3)) rfl<|w_done<|?_;obtain rfl:=os hb1;exact ⟨[],[0],_,_,rfl,rfl,⟨.refl _,⟨.refl _,⟨.refl _,trivial⟩⟩⟩,(.refl _)⟩
    ·rcases oi hf with ⟨c31,hf⟩ | ⟨c31,hf⟩
     ·refine w_condt rfl c31<|sr<|s_q (.ptr 0 0 4) rfl trivial rfl<|s_q (.int .i64 c_1.Low) rfl nle rfl<|s_q (.bool (c_1.Low == 0)) rfl rfl rfl<|s_mov (.bool (c_1.Low == 0)) rfl<|?_;refine s_g (v:=(c_1.Low == 0)) (.ptr 0 0 5) rfl (fun hv => by (try simp only [gs_on hv]);exact ⟨rfl,trivial,rfl⟩) ?_;refine s_g (v:=(c_1.Low == 0)) (.int .i64 c_1.High) rfl (fun hv => by (try simp only [gs_on hv]);exact ⟨rfl,nle,rfl⟩) ?_;refine s_g (v:=(c_1.Low == 0)) (.bool (c_1.High == 0)) rfl (fun hv => by (try simp only [gs_on hv]);exact ⟨rfl,rfl,rfl⟩) ?_;refine s_pick (x:=(c_1.High == 0)) (y:=false) rfl (fun hv => by (try simp only [gs_on hv]);rfl) (fun hv => by (try simp only [gs_on hv]);rfl) ?_
      refine s_mov (.bool (bif (c_1.Low == 0) then (c_1.High == 0) else false)) rfl ?_;refine s_g (v:=(bif (c_1.Low == 0) then (c_1.High == 0) else false)) (.ptr 0 0 6) rfl (fun hv => by (try simp only [gs_on hv]);exact ⟨rfl,trivial,rfl⟩) ?_;refine s_g (v:=(bif (c_1.Low == 0) then (c_1.High == 0) else false)) (.str c_1.Ref) rfl (fun hv => by (try simp only [gs_on hv]);exact ⟨rfl,nle,rfl⟩) ?_;refine s_g (v:=(bif (c_1.Low == 0) then (c_1.High == 0) else false)) (.bool (c_1.Ref == [])) rfl (fun hv => by (try simp only [gs_on hv]);exact ⟨rfl,trivial,rfl⟩) ?_;refine s_pick (x:=(c_1.Ref == [])) (y:=false) rfl (fun hv => by (try simp only [gs_on hv]);rfl) (fun hv => by (try simp only [gs_on hv]);rfl) ?_
      refine s_mov (.bool (bif (bif (c_1.Low == 0) then (c_1.High == 0) else false) then (c_1.Ref == []) else false)) rfl ?_;refine s_g (v:=(bif (bif (c_1.Low == 0) then (c_1.High == 0) else false) then (c_1.Ref == []) else false)) (.ptr 0 0 7) rfl (fun hv => by (try simp only [gs_on hv]);exact ⟨rfl,trivial,rfl⟩) ?_;refine s_g (v:=(bif (bif (c_1.Low == 0) then (c_1.High == 0) else false) then (c_1.Ref == []) else false)) (.bool c_1.Strong) rfl (fun hv => by (try simp only [gs_on hv]);exact ⟨rfl,nle,rfl⟩) ?_;refine s_g (v:=(bif (bif (c_1.Low == 0) then (c_1.High == 0) else false) then (c_1.Ref == []) else false)) (.bool (!c_1.Strong)) rfl (fun hv => by (try simp only [gs_on hv]);exact ⟨rfl,trivial,rfl⟩) ?_
      refine s_pick (x:=(!c_1.Strong)) (y:=false) rfl (fun hv => by (try simp only [gs_on hv]);rfl) (fun hv => by (try simp only [gs_on hv]);rfl) ?_;refine s_mov (.bool (bif (bif (bif (c_1.Low == 0) then (c_1.High == 0) else false) then (c_1.Ref == []) else false) then (!c_1.Strong) else false)) rfl<|dk<|w_ret<|?_;obtain rfl:=os hf;exact r_flat ⟨trivial,trivial⟩ rfl (.refl _)
     ·refine w_condf rfl (bf c31)<|sr<|s_q (.bool (c_1.Kind == 4)) rfl rfl rfl<|s_mov (.bool (c_1.Kind == 4)) rfl<|dk<|?_
      rcases oi hf with ⟨c32,hf⟩ | ⟨c32,hf⟩
      ·refine w_condt rfl c32<|sr<|s_q (.ptr 0 0 4) rfl trivial rfl<|s_q (.int .i64 c_1.Low) rfl nle rfl<|s_q (.bool (c_1.Low == 0)) rfl rfl rfl<|s_mov (.bool (c_1.Low == 0)) rfl<|?_;refine s_g (v:=(c_1.Low == 0)) (.ptr 0 0 5) rfl (fun hv => by (try simp only [gs_on hv]);exact ⟨rfl,trivial,rfl⟩) ?_;refine s_g (v:=(c_1.Low == 0)) (.int .i64 c_1.High) rfl (fun hv => by (try simp only [gs_on hv]);exact ⟨rfl,nle,rfl⟩) ?_;refine s_g (v:=(c_1.Low == 0)) (.bool (c_1.High == 0)) rfl (fun hv => by (try simp only [gs_on hv]);exact ⟨rfl,rfl,rfl⟩) ?_;refine s_pick (x:=(c_1.High == 0)) (y:=false) rfl (fun hv => by (try simp only [gs_on hv]);rfl) (fun hv => by (try simp only [gs_on hv]);rfl) ?_
       refine s_mov (.bool (bif (c_1.Low == 0) then (c_1.High == 0) else false)) rfl ?_
       rcases oi hf with ⟨c33,hf⟩ | ⟨c33,hf⟩
       ·refine s_lit (s:=79) (b:=true) rfl c33<|s_on rfl<|s_q (.ptr 0 0 6) rfl trivial rfl<|s_on rfl<|s_q (.str c_1.Ref) rfl nle rfl<|s_on rfl<|?_
        obtain ⟨r_34,er35,hf⟩:=ob hf
        refine s_do (o_call (w_impl_NameOK _ _ er35) rfl (.refl _) rfl)<|s_q (.bool r_34) rfl trivial rfl<|s_mov (.bool r_34) rfl<|?_;refine s_g (v:=r_34) (.ptr 0 0 2) rfl (fun hv => by (try simp only [gs_on hv]);exact ⟨rfl,trivial,rfl⟩) ?_;refine s_g (v:=r_34) (.int .i64 c_1.Min) rfl (fun hv => by (try simp only [gs_on hv]);exact ⟨rfl,nle,rfl⟩) ?_;refine s_g (v:=r_34) (.bool (c_1.Min == 0)) rfl (fun hv => by (try simp only [gs_on hv]);exact ⟨rfl,rfl,rfl⟩) ?_;refine s_pick (x:=(c_1.Min == 0)) (y:=false) rfl (fun hv => by (try simp only [gs_on hv]);rfl) (fun hv => by (try simp only [gs_on hv]);rfl) ?_;refine s_mov (.bool (bif r_34 then (c_1.Min == 0) else false)) rfl<|dk<|w_ret<|?_;obtain rfl:=os hf
        exact r_flat ⟨trivial,trivial⟩ rfl (.refl _)
       ·refine s_lit (s:=79) (b:=false) rfl (bf c33)<|s_off rfl rfl<|s_off rfl rfl<|s_off rfl rfl<|s_q (.bool false) rfl trivial rfl<|s_mov (.bool false) rfl<|s_off rfl rfl<|s_off rfl rfl<|s_off rfl rfl<|s_q (.bool false) rfl trivial rfl<|s_mov (.bool false) rfl<|dk<|w_ret<|?_;obtain rfl:=os hf;exact r_flat ⟨trivial,trivial⟩ rfl (.refl _)
      ·refine w_condf rfl (bf c32)<|w_skip<|k_blk<|k_seq<|sr<|s_mov (.bool false) rfl<|dk<|w_ret<|?_;obtain rfl:=os hf;exact r_flat ⟨trivial,trivial⟩ rfl (.refl _)

/- slices.IndexFunc[[]impl.Column,impl.Column] -/
def c133:ACode :=
 (.seq (.reg (tm 4 (.c (.int .i64 0)) .done))
 (.seq (.seq (.reg (tm 6 (.t 0) (tq 7 (.len (.t 6)) (tm 8 (.c (.int .i64 0)) .done))))
 (.block 0 (.loop (.seq (.reg (tq 9 (.bin .lss (.t 8) (.t 7)) .done))
 (.seq (.cond (.t 9) .skip
 (.exit 0))
 (.seq (.block 1 (.seq (.reg (tm 10 (.t 8) (tm 5 (.t 10) .done)))
 (.seq (.reg (tm 11 (.t 1) (tm 12 (.t 0) (tm 13 (.t 5) (tq 14 (.iaddr 8 (.t 12) (.t 13)) (tq 15 (.load 8 true (.t 14)) (tq 16 (.calv (.t 11) [(.t 15)]) .done)))))))
 (.cond (.t 16) (.seq (.reg (tm 17 (.t 5) (tm 4 (.t 17) .done)))
 .ret)
 .skip))))
 (.reg (tq 18 (.bin .add (.t 8) (.c (.int .i64 1))) (tm 8 (.t 18) .done)))))))))
 (.cut (.seq (.reg (tq 4 (.mov (.c (.int .i64 (-1)))) .done))
 .ret))))
theorem fc133:fcomp Tryz.prog Tryz.f133 = some (c133.erase,[.mov (.t 4)],19):=by kernel_rfl
def slices_IndexFunc_impl_Column_impl_Column_L1 (f_2:(GColumn → Option Bool)):List GColumn → Nat → Option (Fl Int Unit)
  | [],s8_17 =>
    some (.go ())
  | x_31 :: xs,s8_17 =>
    (f_2 x_31).bind fun r_32 =>
    if r_32 then
    some (.ret (s8_17:Int))
    else
    slices_IndexFunc_impl_Column_impl_Column_L1 f_2 xs (s8_17 + 1)

def slices_IndexFunc_impl_Column_impl_Column (s_1:(List GColumn)) (f_2:(GColumn → Option Bool)):Option Int :=
    (slices_IndexFunc_impl_Column_impl_Column_L1 f_2 s_1 0).bind fun q => (match q with
    | .ret r => some r
    | .go _ =>
    some (-1))
theorem w_slices_IndexFunc_impl_Column_impl_Column (s_1:(List GColumn)) (f_2:(GColumn → Option Bool)) (r:Int) (hf:slices_IndexFunc_impl_Column_impl_Column s_1 f_2 = some r) (kf_f_2:Nat) (cf_f_2:List AV) (okf_f_2:okFn Tryz.prog kf_f_2 = true) (hcf_f_2:∀ h p,closeWs h p cf_f_2 = some cf_f_2) (hrf_f_2:∀ f,rens f cf_f_2 = cf_f_2) (hpf_f_2:∀ a0 r,f_2 a0 = some r → CallOK Tryz.prog kf_f_2 .flat ([(encGColumn a0)] ++ cf_f_2) (.bool r)):CallOK Tryz.prog 133 .flat [(.lst 8 (s_1.map encGColumn)),(.fn kf_f_2 cf_f_2)] (.int .i64 r):=by
 refine CallOK.of_awp mixed Tryz.func133 fc133 nle ?_;rw [argT_eq];unfold slices_IndexFunc_impl_Column_impl_Column at hf;unfold c133;refine (show awp Tryz.prog false 0 _ (ofL [(0,(.lst 8 (s_1.map encGColumn))),(1,(.fn kf_f_2 cf_f_2))]) [] _ from ?_);refine sr<|s_mov (.int .i64 0) rfl<|dk<|awp_seq<|sr<|s_mov (.lst 8 (s_1.map encGColumn)) rfl<|s_dof (o_len (enc:=encGColumn) rfl) fun hl3 => s_mov (.int .i64 0) rfl<|dk<|?_
 obtain ⟨p24,hb1,hf⟩:=ob hf
 refine awp_cutx (X:={q:Unit // p24 = .go q}) (fun q => ([],[])) ?_ ?_
 ·refine awp_loop (X:={q:Nat // slices_IndexFunc_impl_Column_impl_Column_L1 f_2 (s_1.drop q) q = some p24}) (fun q => ([(0,(.lst 8 (s_1.map encGColumn))),(1,(.fn kf_f_2 cf_f_2)),(7,(.int .i64 (s_1.length:Int))),(8,(.int .i64 (q.1:Int)))],[])) (fun q => s_1.length - q.1) ⟨0,hb1⟩ ⟨[],[],_,_,rfl,rfl,⟨.refl _,⟨.of_eq (congrArg (AV.fn _) (hrf_f_2 _)),⟨.refl _,⟨.refl _,trivial⟩⟩⟩⟩,(.refl _)⟩ ?_
  rintro ⟨s8_17,hc1⟩
  have hc1:slices_IndexFunc_impl_Column_impl_Column_L1 f_2 (s_1.drop s8_17) s8_17 = some p24:=hc1
  refine (show awp Tryz.prog false 0 _ (ofL [(0,(.lst 8 (s_1.map encGColumn))),(1,(.fn kf_f_2 cf_f_2)),(7,(.int .i64 (s_1.length:Int))),(8,(.int .i64 (s8_17:Int)))]) [] _ from ?_)
  rcases dropc s_1 s8_17 with ⟨hie27,hd30⟩ | ⟨hlt25,x_31,hx26,hd30⟩
  ·rw [hd30,slices_IndexFunc_impl_Column_impl_Column_L1.eq_1] at hc1
   have hq29:=dlf hie27
   refine sr<|s_q (.bool (decide ((s8_17:Int) < (s_1.length:Int)))) rfl rfl rfl<|dk<|awp_seq<|w_condf rfl hq29<|w_exit<|k_seqx<|k_loopx<|k_blkx<|?_;obtain rfl:=os hc1;exact k_cutn ⟨_,rfl⟩ ⟨[],[],_,_,rfl,rfl,trivial,(.refl _)⟩
  ·rw [hd30,slices_IndexFunc_impl_Column_impl_Column_L1.eq_2] at hc1
   have hq29:=dlt hlt25
   refine sr<|s_q (.bool (decide ((s8_17:Int) < (s_1.length:Int)))) rfl rfl rfl<|dk<|awp_seq<|w_condt rfl hq29<|w_skip<|k_seq<|awp_seq<|w_blk<|sr<|s_mov (.int .i64 (s8_17:Int)) rfl<|s_mov (.int .i64 (s8_17:Int)) rfl<|dk<|sr<|?_
   obtain ⟨r_32,er33,hc1⟩:=ob hc1
   refine s_mov (.fn kf_f_2 cf_f_2) rfl<|s_mov (.lst 8 (s_1.map encGColumn)) rfl<|s_mov (.int .i64 (s8_17:Int)) rfl<|s_do (o_iaddrn (enc:=encGColumn) rfl rfl hx26)<|s_q (encGColumn x_31) rfl nle rfl<|s_do (o_calvp (v:=(.bool r_32)) rfl okf_f_2 hcf_f_2 (hpf_f_2 _ _ er33) rfl (.refl _) rfl)<|dk<|?_
   rcases oi hc1 with ⟨c34,hc1⟩ | ⟨c34,hc1⟩
   ·refine w_condt rfl c34<|sr<|s_mov (.int .i64 (s8_17:Int)) rfl<|s_mov (.int .i64 (s8_17:Int)) rfl<|dk<|w_ret<|?_;obtain rfl:=os hc1;obtain rfl:=os hf;exact r_flat ⟨trivial,trivial⟩ rfl (.refl _)
   ·refine w_condf rfl (bf c34)<|w_skip<|k_blk<|k_seq<|w_reg<|s_q (.int .i64 (w64 ((s8_17:Int) + 1))) rfl rfl rfl<|s_mov (.int .i64 (w64 ((s8_17:Int) + 1))) rfl<|w_done<|?_;exact k_loopn ⟨(s8_17 + 1),hc1⟩ (mul hlt25) ⟨[],[],_,_,rfl,rfl,⟨.refl _,⟨.of_eq (congrArg (AV.fn _) (hrf_f_2 _)),⟨.refl _,⟨.of_eq (congrArg (AV.int _) (w64_incr hlt25 hl3)),trivial⟩⟩⟩⟩,(.refl _)⟩
 ·rintro ⟨_,rfl⟩
  refine sr<|s_mov (.int .i64 (-1)) rfl<|dk<|w_ret<|?_;obtain rfl:=os hf;exact r_flat ⟨trivial,trivial⟩ rfl (.refl _)

/- (impl.Table).columnAt$1 -/
def c171:ACode :=
 (.seq (.reg (tq 2 (.box 8 (.t 0)) (tm 3 (.c (.bool false)) .done)))
 (.seq (.reg (tq 4 (.faddr 0 (.t 2)) (tq 5 (.load 1 false (.t 4)) (tq 6 (.load 1 false (.t 1)) (tq 7 (.bin .eql (.t 5) (.t 6)) (tm 3 (.t 7) .done))))))
 .ret))
theorem fc171:fcomp Tryz.prog Tryz.f171 = some (c171.erase,[.mov (.t 3)],8):=by kernel_rfl
def impl_Table_columnAt_1 (c_1:GColumn) (cap_2:Str):Option Bool :=
    some (c_1.Name == cap_2)
theorem w_impl_Table_columnAt_1 (c_1:GColumn) (cap_2:Str) (r:Bool) (hf:impl_Table_columnAt_1 c_1 cap_2 = some r):CallOK Tryz.prog 171 .flat [(encGColumn c_1),(.iptr (.str cap_2) 0)] (.bool r):=by
  refine CallOK.of_awp mixed Tryz.func171 fc171 nle ?_
  rw [argT_eq]
  unfold impl_Table_columnAt_1 at hf
  unfold c171
  refine (show awp Tryz.prog false 0 _ (ofL [(0,(encGColumn c_1)),(1,(.iptr (.str cap_2) 0))]) [] _ from ?_)
  refine awp_seq ?_
  refine w_reg ?_
  refine s_do (o_box (j:=0) (c:=(.agg [(.str c_1.Name),(.int .i64 c_1.Kind),(.int .i64 c_1.Min),(.int .i64 c_1.Max),(.int .i64 c_1.Low),(.int .i64 c_1.High),(.str c_1.Ref),(.bool c_1.Strong)])) rfl trivial rfl rfl) ?_
  refine s_do (o_mov (.bool false) rfl) ?_
  refine w_done ?_
  refine k_seq ?_
  refine awp_seq ?_
  refine w_reg ?_
  refine s_do (o_q (.ptr 0 0 0) rfl trivial rfl) ?_
  refine s_do (o_q (.str c_1.Name) rfl nle rfl) ?_
  refine s_do (o_q (.str cap_2) rfl ⟨rfl,rfl⟩ rfl) ?_
  refine s_do (o_q (.bool (c_1.Name == cap_2)) rfl trivial rfl) ?_
  refine s_do (o_mov (.bool (c_1.Name == cap_2)) rfl) ?_
  refine w_done ?_
  refine k_seq ?_
  refine w_ret ?_
  obtain rfl:=os hf
  exact r_flat ⟨trivial,trivial⟩ rfl (.refl _)

/- (impl.Table).columnAt -/
def c131:ACode :=
 (.seq (.reg (tq 2 (.box 4 (.t 0)) (tq 3 (.box 1 (.t 1)) (tm 4 (.c (.int .i64 0)) .done))))
 (.seq (.reg (tq 5 (.faddr 1 (.t 2)) (tq 6 (.load 1 false (.t 5)) (tq 7 (.mkfn 171 [(.t 3)]) (tq 8 (.call 133 [(.t 6),(.t 7)]) (tm 4 (.t 8) .done))))))
 .ret))
theorem fc131:fcomp Tryz.prog Tryz.f131 = some (c131.erase,[.mov (.t 4)],9):=by kernel_rfl
def impl_Table_columnAt (t_1:GTable) (name_2:Str):Option Int :=
    (slices_IndexFunc_impl_Column_impl_Column t_1.Columns (fun a0 => impl_Table_columnAt_1 a0 name_2)).bind fun r_3 =>
    some r_3
theorem w_impl_Table_columnAt (t_1:GTable) (name_2:Str) (r:Int) (hf:impl_Table_columnAt t_1 name_2 = some r):CallOK Tryz.prog 131 .flat [(encGTable t_1),(.str name_2)] (.int .i64 r):=by
  refine CallOK.of_awp mixed Tryz.func131 fc131 nle ?_
  rw [argT_eq]
  unfold impl_Table_columnAt at hf
  unfold c131
  refine (show awp Tryz.prog false 0 _ (ofL [(0,(encGTable t_1)),(1,(.str name_2))]) [] _ from ?_)
  refine awp_seq ?_
  refine w_reg ?_
  refine s_do (o_box (j:=0) (c:=(.agg [(.str t_1.Name),(.lst 8 (t_1.Columns.map encGColumn)),(.lst 1 (t_1.Unique.map encI)),(.bool t_1.Root)])) rfl trivial rfl rfl) ?_
  refine s_do (o_box (j:=1) (c:=(.str name_2)) rfl trivial rfl rfl) ?_
  refine s_do (o_mov (.int .i64 0) rfl) ?_
  refine w_done ?_
  refine k_seq ?_
  refine awp_seq ?_
  refine w_reg ?_
  obtain ⟨r_3,er4,hf⟩:=ob hf
  refine s_do (o_q (.ptr 0 0 1) rfl trivial rfl) ?_
  refine s_do (o_q (.lst 8 (t_1.Columns.map encGColumn)) rfl nle rfl) ?_
  refine s_do (o_q (.fn 171 [(.ptr 1 0 0)]) rfl trivial rfl) ?_
  refine s_do (o_call (w_slices_IndexFunc_impl_Column_impl_Column _ _ _ er4 171 [(.iptr (.str name_2) 0)] (by kernel_rfl) (fun _ _ => rfl) (fun _ => rfl) (fun a0 r h => w_impl_Table_columnAt_1 a0 name_2 r h)) rfl (.refl _) rfl) ?_
  refine s_do (o_mov (.int .i64 r_3) rfl) ?_
  refine w_done ?_
  refine k_seq ?_
  refine w_ret ?_
  obtain rfl:=os hf
  exact r_flat ⟨trivial,trivial⟩ rfl (.refl _)

/- impl.isTable -/
def c80:ACode :=
 (.seq (.reg (tq 1 (.box 4 (.t 0)) (tm 2 (.c (.bool false)) .done)))
 (.seq (.seq (.reg (tq 7 (.faddr 0 (.t 1)) (tq 8 (.load 1 false (.t 7)) (tq 9 (.call 91 [(.t 8)]) (tq 10 (.not (.t 9)) (tm 11 (.t 10) (tg 12 11 false (.faddr 1 (.t 1)) (tg 13 11 false (.load 1 false (.t 12)) (tg 14 11 false (.len (.t 13)) (tg 15 11 false (.call 58 [(.t 14),(.c (.int .i64 1)),(.c (.int .i64 6))]) (tg 16 11 false (.not (.t 15)) (tq 17 (.pick (.t 11) (.c (.bool true)) (.t 16)) (tm 18 (.t 17) (tg 19 18 false (.faddr 2 (.t 1)) (tg 20 18 false (.load 1 false (.t 19)) (tg 21 18 false (.len (.t 20)) (tg 22 18 false (.faddr 1 (.t 1)) (tg 23 18 false (.load 1 false (.t 22)) (tg 24 18 false (.len (.t 23)) (tg 25 18 false (.bin .gtr (.t 21) (.t 24)) (tq 26 (.pick (.t 18) (.c (.bool true)) (.t 25)) .done)))))))))))))))))))))
 (.cut (.cond (.t 26) (.seq (.reg (tm 2 (.c (.bool false)) .done))
 .ret)
 .skip)))
 (.seq (.seq (.reg (tq 27 (.faddr 1 (.t 1)) (tq 28 (.load 1 false (.t 27)) (tq 29 (.len (.t 28)) (tm 30 (.c (.int .i64 0)) .done)))))
 (.block 0 (.loop (.seq (.reg (tq 31 (.bin .lss (.t 30) (.t 29)) .done))
 (.seq (.cond (.t 31) .skip
 (.exit 0))
 (.seq (.block 1 (.seq (.reg (tm 32 (.t 30) (tq 33 (.iaddr 8 (.t 28) (.t 30)) (tq 34 (.load 8 true (.t 33)) (tq 4 (.box 8 (.c (.agg [(.str []),(.int .i64 0),(.int .i64 0),(.int .i64 0),(.int .i64 0),(.int .i64 0),(.str []),(.bool false)]))) (tm 3 (.t 32) (.q ⟨none,none,.store 8 (.t 4) (.t 34)⟩
 .done)))))))
 (.seq (.reg (tq 35 (.load 8 true (.t 4)) (tq 36 (.call 130 [(.t 35)]) (tq 37 (.not (.t 36)) (tm 38 (.t 37) (tg 39 38 false (.load 4 true (.t 1)) (tg 40 38 false (.faddr 0 (.t 4)) (tg 41 38 false (.load 1 false (.t 40)) (tg 42 38 false (.call 131 [(.t 39),(.t 41)]) (tg 43 38 false (.mov (.t 3)) (tg 44 38 false (.bin .neq (.t 42) (.t 43)) (tq 45 (.pick (.t 38) (.c (.bool true)) (.t 44)) .done))))))))))))
 (.cut (.cond (.t 45) (.seq (.reg (tm 2 (.c (.bool false)) .done))
 .ret)
 .skip)))))
 (.reg (tq 46 (.bin .add (.t 30) (.c (.int .i64 1))) (tm 30 (.t 46) .done)))))))))
 (.cut (.seq (.seq (.reg (tq 47 (.faddr 2 (.t 1)) (tq 48 (.load 1 false (.t 47)) (tq 49 (.len (.t 48)) (tm 50 (.c (.int .i64 0)) .done)))))
 (.block 2 (.loop (.seq (.reg (tq 51 (.bin .lss (.t 50) (.t 49)) .done))
 (.seq (.cond (.t 51) .skip
 (.exit 2))
 (.seq (.block 3 (.seq (.reg (tm 52 (.t 50) (tq 53 (.iaddr 1 (.t 48) (.t 50)) (tq 54 (.load 1 false (.t 53)) (tm 5 (.t 52) (tm 6 (.t 54) .done))))))
 (.seq (.reg (tm 55 (.t 6) (tq 56 (.faddr 1 (.t 1)) (tq 57 (.load 1 false (.t 56)) (tq 58 (.len (.t 57)) (tq 59 (.bin .sub (.t 58) (.c (.int .i64 1))) (tq 60 (.call 58 [(.t 55),(.c (.int .i64 0)),(.t 59)]) (tq 61 (.not (.t 60)) (tm 62 (.t 61) (tg 63 62 false (.mov (.t 5)) (tg 64 62 false (.bin .gtr (.t 63) (.c (.int .i64 0))) (tg 65 62 false (.mov (.t 64)) (tg 66 65 true (.faddr 2 (.t 1)) (tg 67 65 true (.load 1 false (.t 66)) (tg 68 65 true (.mov (.t 5)) (tg 69 65 true (.bin .sub (.t 68) (.c (.int .i64 1))) (tg 70 65 true (.iaddr 1 (.t 67) (.t 69)) (tg 71 65 true (.load 1 false (.t 70)) (tg 72 65 true (.mov (.t 6)) (tg 73 65 true (.bin .geq (.t 71) (.t 72)) (tg 74 62 false (.pick (.t 65) (.t 73) (.c (.bool false))) (tq 75 (.pick (.t 62) (.c (.bool true)) (.t 74)) .done))))))))))))))))))))))
 (.cut (.cond (.t 75) (.seq (.reg (tm 2 (.c (.bool false)) .done))
 .ret)
 .skip)))))
 (.reg (tq 76 (.bin .add (.t 50) (.c (.int .i64 1))) (tm 50 (.t 76) .done)))))))))
 (.cut (.seq (.reg (tm 2 (.c (.bool true)) .done))
 .ret)))))))
theorem fc80:fcomp Tryz.prog Tryz.f80 = some (c80.erase,[.mov (.t 2)],77):=by kernel_rfl
def impl_isTable_L1 (t_1:GTable):List GColumn → Nat → Option (Fl Bool Unit)
  | [],s30_57 =>
    some (.go ())
  | x_81 :: xs,s30_57 =>
    (((impl_ColumnOK x_81).bind fun r_89 =>
    if (!r_89) then
    some true
    else
    (impl_Table_columnAt t_1 x_81.Name).bind fun r_92 =>
    some (r_92 != (s30_57:Int)):Option Bool)).bind fun s45_87 =>
    if s45_87 then
    some (.ret false)
    else
    impl_isTable_L1 t_1 xs (s30_57 + 1)

def impl_isTable_L2 (t_1:GTable):List Int → Nat → Option (Fl Bool Unit)
  | [],s50_137 =>
    some (.go ())
  | x_165 :: xs,s50_137 =>
    (((impl_within x_165 0 (w64 ((t_1.Columns.length:Int) - 1))).bind fun r_176 =>
    if (!r_176) then
    some true
    else
    if (decide ((s50_137:Int) > 0)) then
    (idx t_1.Unique (w64 ((s50_137:Int) - 1))).bind fun x_180 =>
    some (decide (x_180 ≥ x_165))
    else
    some false:Option Bool)).bind fun s75_173 =>
    if s75_173 then
    some (.ret false)
    else
    impl_isTable_L2 t_1 xs (s50_137 + 1)

def impl_isTable (t_1:GTable):Option Bool :=
    (((impl_NameOK t_1.Name).bind fun r_13 =>
    if (!r_13) then
    some true
    else
    (impl_within (t_1.Columns.length:Int) 1 6).bind fun r_18 =>
    some (bif (!r_18) then true else (decide ((t_1.Unique.length:Int) > (t_1.Columns.length:Int)))):Option Bool)).bind fun s26_11 =>
    if s26_11 then
    some false
    else
    (impl_isTable_L1 t_1 t_1.Columns 0).bind fun q => (match q with
    | .ret r => some r
    | .go _ =>
    (impl_isTable_L2 t_1 t_1.Unique 0).bind fun q => (match q with
    | .ret r => some r
    | .go _ =>
    some true))
theorem w_impl_isTable (t_1:GTable) (r:Bool) (hf:impl_isTable t_1 = some r):CallOK Tryz.prog 80 .flat [(encGTable t_1)] (.bool r):=by
 refine CallOK.of_awp mixed Tryz.func80 fc80 nle ?_;rw [argT_eq];unfold impl_isTable at hf;unfold c80;refine (show awp Tryz.prog false 0 _ (ofL [(0,(encGTable t_1))]) [] _ from ?_);refine sr<|s_do (o_box (j:=0) (c:=(.agg [(.str t_1.Name),(.lst 8 (t_1.Columns.map encGColumn)),(.lst 1 (t_1.Unique.map encI)),(.bool t_1.Root)])) rfl trivial rfl rfl)<|s_mov (.bool false) rfl<|dk<|awp_seq<|awp_seq<|?_
 obtain ⟨s26_11,hb1,hf⟩:=ob hf
 refine awp_cut ([(1,(.ptr 0 0 0)),(26,(.bool s26_11))],[.box 4 (.agg [(.str t_1.Name),(.lst 8 (t_1.Columns.map encGColumn)),(.lst 1 (t_1.Unique.map encI)),(.bool t_1.Root)])]) ?_ ?_
 ·refine w_reg<|s_q (.ptr 0 0 0) rfl trivial rfl<|s_q (.str t_1.Name) rfl nle rfl<|?_
  obtain ⟨r_13,er14,hb1⟩:=ob hb1
  refine s_do (o_call (w_impl_NameOK _ _ er14) rfl (.refl _) rfl)<|s_q (.bool (!r_13)) rfl trivial rfl<|s_mov (.bool (!r_13)) rfl<|?_
  rcases oi hb1 with ⟨c16,hb1⟩ | ⟨c16,hb1⟩
  ·refine s_lit (s:=11) (b:=true) rfl c16<|s_off rfl rfl<|s_off rfl rfl<|s_off rfl rfl<|s_off rfl rfl<|s_off rfl rfl<|s_q (.bool true) rfl trivial rfl<|s_mov (.bool true) rfl<|s_off rfl rfl<|s_off rfl rfl<|s_off rfl rfl<|s_off rfl rfl<|s_off rfl rfl<|s_off rfl rfl<|s_off rfl rfl<|s_q (.bool true) rfl trivial rfl<|w_done<|?_;obtain rfl:=os hb1;exact ⟨[],[0],_,_,rfl,rfl,⟨.refl _,⟨.refl _,trivial⟩⟩,(.refl _)⟩
  ·refine s_lit (s:=11) (b:=false) rfl (bf c16)<|s_on rfl<|s_q (.ptr 0 0 1) rfl trivial rfl<|s_on rfl<|s_q (.lst 8 (t_1.Columns.map encGColumn)) rfl nle rfl<|s_on rfl<|s_dof (o_len (enc:=encGColumn) rfl) fun hl17 => s_on rfl<|?_
   obtain ⟨r_18,er19,hb1⟩:=ob hb1
   refine s_do (o_call (w_impl_within _ _ _ _ er19) rfl (.refl _) rfl)<|s_on rfl<|s_q (.bool (!r_18)) rfl trivial rfl<|s_q (.bool (!r_18)) rfl trivial rfl<|s_mov (.bool (!r_18)) rfl<|?_;refine s_g (v:=(!r_18)) (.ptr 0 0 2) rfl (fun hv => by (try simp only [gs_on hv]);exact ⟨rfl,trivial,rfl⟩) ?_;refine s_g (v:=(!r_18)) (.lst 1 (t_1.Unique.map encI)) rfl (fun hv => by (try simp only [gs_on hv]);exact ⟨rfl,nle,rfl⟩) ?_;refine s_g (v:=(!r_18)) (.int .i64 (t_1.Unique.length:Int)) rfl (fun hv => by (try simp only [gs_on hv]);exact ⟨rfl,trivial,lenV _ _⟩) ?_;refine s_g (v:=(!r_18)) (.ptr 0 0 1) rfl (fun hv => by (try simp only [gs_on hv]);exact ⟨rfl,trivial,rfl⟩) ?_;refine s_g (v:=(!r_18)) (.lst 8 (t_1.Columns.map encGColumn)) rfl (fun hv => by (try simp only [gs_on hv]);exact ⟨rfl,nle,rfl⟩) ?_
   refine s_g (v:=(!r_18)) (.int .i64 (t_1.Columns.length:Int)) rfl (fun hv => by (try simp only [gs_on hv]);exact ⟨rfl,trivial,lenV _ _⟩) ?_;refine s_g (v:=(!r_18)) (.bool (decide ((t_1.Unique.length:Int) > (t_1.Columns.length:Int)))) rfl (fun hv => by (try simp only [gs_on hv]);exact ⟨rfl,rfl,rfl⟩) ?_;refine s_pick (x:=true) (y:=(decide ((t_1.Unique.length:Int) > (t_1.Columns.length:Int)))) rfl (fun hv => by (try simp only [gs_on hv]);rfl) (fun hv => by (try simp only [gs_on hv]);rfl) ?_;refine w_done ?_;obtain rfl:=os hb1;exact ⟨[],[0],_,_,rfl,rfl,⟨.refl _,⟨.refl _,trivial⟩⟩,(.refl _)⟩
 ·rcases oi hf with ⟨c22,hf⟩ | ⟨c22,hf⟩
  ·refine w_condt rfl c22<|sr<|s_mov (.bool false) rfl<|dk<|w_ret<|?_;obtain rfl:=os hf;exact r_flat ⟨trivial,trivial⟩ rfl (.refl _)
  ·refine w_condf rfl (bf c22)<|w_skip<|k_seq<|awp_seq<|sr<|s_q (.ptr 0 0 1) rfl trivial rfl<|s_q (.lst 8 (t_1.Columns.map encGColumn)) rfl nle rfl<|s_dof (o_len (enc:=encGColumn) rfl) fun hl23 => s_mov (.int .i64 0) rfl<|dk<|?_
   obtain ⟨p74,hb1,hf⟩:=ob hf
   refine awp_cutx (X:={q:Unit // p74 = .go q}) (fun q => ([(1,(.ptr 0 0 0))],[.box 4 (.agg [(.str t_1.Name),(.lst 8 (t_1.Columns.map encGColumn)),(.lst 1 (t_1.Unique.map encI)),(.bool t_1.Root)])])) ?_ ?_
   ·refine awp_loop (X:={q:Nat // impl_isTable_L1 t_1 (t_1.Columns.drop q) q = some p74}) (fun q => ([(1,(.ptr 0 0 0)),(28,(.lst 8 (t_1.Columns.map encGColumn))),(29,(.int .i64 (t_1.Columns.length:Int))),(30,(.int .i64 (q.1:Int)))],[.box 4 (.agg [(.str t_1.Name),(.lst 8 (t_1.Columns.map encGColumn)),(.lst 1 (t_1.Unique.map encI)),(.bool t_1.Root)])])) (fun q => t_1.Columns.length - q.1) ⟨0,hb1⟩ ⟨[],[0],_,_,rfl,rfl,⟨.refl _,⟨.refl _,⟨.refl _,⟨.refl _,trivial⟩⟩⟩⟩,(.refl _)⟩ ?_
    rintro ⟨s30_57,hc1⟩
    have hc1:impl_isTable_L1 t_1 (t_1.Columns.drop s30_57) s30_57 = some p74:=hc1
    refine (show awp Tryz.prog false 0 _ (ofL [(1,(.ptr 0 0 0)),(28,(.lst 8 (t_1.Columns.map encGColumn))),(29,(.int .i64 (t_1.Columns.length:Int))),(30,(.int .i64 (s30_57:Int)))]) [.box 4 (.agg [(.str t_1.Name),(.lst 8 (t_1.Columns.map encGColumn)),(.lst 1 (t_1.Unique.map encI)),(.bool t_1.Root)])] _ from ?_)
    rcases dropc t_1.Columns s30_57 with ⟨hie77,hd80⟩ | ⟨hlt75,x_81,hx76,hd80⟩
    ·rw [hd80,impl_isTable_L1.eq_1] at hc1
     have hq79:=dlf hie77
     refine sr<|s_q (.bool (decide ((s30_57:Int) < (t_1.Columns.length:Int)))) rfl rfl rfl<|dk<|awp_seq<|w_condf rfl hq79<|w_exit<|k_seqx<|k_loopx<|k_blkx<|?_;obtain rfl:=os hc1;exact k_cutn ⟨_,rfl⟩ ⟨[],[0],_,_,rfl,rfl,⟨.refl _,trivial⟩,(.refl _)⟩
    ·rw [hd80,impl_isTable_L1.eq_2] at hc1
     have hq79:=dlt hlt75
     refine sr<|s_q (.bool (decide ((s30_57:Int) < (t_1.Columns.length:Int)))) rfl rfl rfl<|dk<|awp_seq<|w_condt rfl hq79<|w_skip<|k_seq<|awp_seq<|w_blk<|sr<|s_mov (.int .i64 (s30_57:Int)) rfl<|s_do (o_iaddrn (enc:=encGColumn) rfl rfl hx76)<|s_q (encGColumn x_81) rfl nle rfl<|s_do (o_box (j:=1) (c:=(.agg [(.str []),(.int .i64 0),(.int .i64 0),(.int .i64 0),(.int .i64 0),(.int .i64 0),(.str []),(.bool false)])) rfl trivial rfl rfl)<|s_mov (.int .i64 (s30_57:Int)) rfl<|s_do0 (o_storebox (v:=(.agg [(.str x_81.Name),(.int .i64 x_81.Kind),(.int .i64 x_81.Min),(.int .i64 x_81.Max),(.int .i64 x_81.Low),(.int .i64 x_81.High),(.str x_81.Ref),(.bool x_81.Strong)])) (y':=(.agg [(.str x_81.Name),(.int .i64 x_81.Kind),(.int .i64 x_81.Min),(.int .i64 x_81.Max),(.int .i64 x_81.Low),(.int .i64 x_81.High),(.str x_81.Ref),(.bool x_81.Strong)])) rfl rfl rfl trivial ⟨rfl,nle⟩ ⟨⟨rfl,trivial⟩,⟨⟨rfl,trivial⟩,⟨⟨rfl,trivial⟩,⟨⟨rfl,trivial⟩,⟨⟨rfl,trivial⟩,⟨⟨rfl,trivial⟩,⟨⟨rfl,trivial⟩,⟨⟨rfl,trivial⟩,trivial⟩⟩⟩⟩⟩⟩⟩⟩ rfl)<|?_
     refine dk<|awp_seq<|?_
     obtain ⟨s45_87,hb2,hc1⟩:=ob hc1
     refine awp_cut ([(1,(.ptr 0 0 0)),(28,(.lst 8 (t_1.Columns.map encGColumn))),(29,(.int .i64 (t_1.Columns.length:Int))),(30,(.int .i64 (s30_57:Int))),(45,(.bool s45_87))],[.box 4 (.agg [(.str t_1.Name),(.lst 8 (t_1.Columns.map encGColumn)),(.lst 1 (t_1.Unique.map encI)),(.bool t_1.Root)])]) ?_ ?_
     ·refine w_reg ?_
      obtain ⟨r_89,er90,hb2⟩:=ob hb2
      rcases oi hb2 with ⟨c91,hb2⟩ | ⟨c91,hb2⟩
      ·refine s_q (.agg [(.str x_81.Name),(.int .i64 x_81.Kind),(.int .i64 x_81.Min),(.int .i64 x_81.Max),(.int .i64 x_81.Low),(.int .i64 x_81.High),(.str x_81.Ref),(.bool x_81.Strong)]) rfl nle rfl<|s_do (o_call (w_impl_ColumnOK _ _ er90) rfl (.refl _) rfl)<|s_q (.bool (!r_89)) rfl trivial rfl<|s_mov (.bool (!r_89)) rfl<|s_lit (s:=38) (b:=true) rfl c91<|s_off rfl rfl<|s_off rfl rfl<|s_off rfl rfl<|s_off rfl rfl<|s_off rfl rfl<|s_off rfl rfl<|s_q (.bool true) rfl trivial rfl<|w_done<|?_;obtain rfl:=os hb2;exact ⟨[],[0],_,_,rfl,rfl,⟨.refl _,⟨.refl _,⟨.refl _,⟨.refl _,⟨.refl _,trivial⟩⟩⟩⟩⟩,(.refl _)⟩
      ·obtain ⟨r_92,er93,hb2⟩:=ob hb2
       refine s_q (.agg [(.str x_81.Name),(.int .i64 x_81.Kind),(.int .i64 x_81.Min),(.int .i64 x_81.Max),(.int .i64 x_81.Low),(.int .i64 x_81.High),(.str x_81.Ref),(.bool x_81.Strong)]) rfl nle rfl<|s_do (o_call (w_impl_ColumnOK _ _ er90) rfl (.refl _) rfl)<|s_q (.bool (!r_89)) rfl trivial rfl<|s_mov (.bool (!r_89)) rfl<|s_lit (s:=38) (b:=false) rfl (bf c91)<|s_on rfl<|s_q (.agg [(.str t_1.Name),(.lst 8 (t_1.Columns.map encGColumn)),(.lst 1 (t_1.Unique.map encI)),(.bool t_1.Root)]) rfl nle rfl<|s_on rfl<|s_q (.ptr 1 0 0) rfl trivial rfl<|s_on rfl<|s_q (.str x_81.Name) rfl nle rfl<|s_on rfl<|s_do (o_call (w_impl_Table_columnAt _ _ _ er93) rfl (.refl _) rfl)<|s_on rfl<|?_
       refine s_mov (.int .i64 (s30_57:Int)) rfl<|s_on rfl<|s_q (.bool (r_92 != (s30_57:Int))) rfl rfl rfl<|s_q (.bool (r_92 != (s30_57:Int))) rfl trivial rfl<|w_done<|?_;obtain rfl:=os hb2;exact ⟨[],[0],_,_,rfl,rfl,⟨.refl _,⟨.refl _,⟨.refl _,⟨.refl _,⟨.refl _,trivial⟩⟩⟩⟩⟩,(.refl _)⟩
     ·rcases oi hc1 with ⟨c94,hc1⟩ | ⟨c94,hc1⟩
      ·refine w_condt rfl c94<|sr<|s_mov (.bool false) rfl<|dk<|w_ret<|?_;obtain rfl:=os hc1;obtain rfl:=os hf;exact r_flat ⟨trivial,trivial⟩ rfl (.refl _)
      ·refine w_condf rfl (bf c94)<|w_skip<|k_blk<|k_seq<|w_reg<|s_q (.int .i64 (w64 ((s30_57:Int) + 1))) rfl rfl rfl<|s_mov (.int .i64 (w64 ((s30_57:Int) + 1))) rfl<|w_done<|?_;exact k_loopn ⟨(s30_57 + 1),hc1⟩ (mul hlt75) ⟨[],[0],_,_,rfl,rfl,⟨.refl _,⟨.refl _,⟨.refl _,⟨.of_eq (congrArg (AV.int _) (w64_incr hlt75 hl23)),trivial⟩⟩⟩⟩,(.refl _)⟩
   ·rintro ⟨_,rfl⟩
    refine awp_seq<|sr<|s_q (.ptr 0 0 2) rfl trivial rfl<|s_q (.lst 1 (t_1.Unique.map encI)) rfl nle rfl<|s_dof (o_len (enc:=encI) rfl) fun hl95 => s_mov (.int .i64 0) rfl<|dk<|?_
    obtain ⟨p158,hb1,hf⟩:=ob hf
    refine awp_cutx (X:={q:Unit // p158 = .go q}) (fun q => ([],[])) ?_ ?_
    ·refine awp_loop (X:={q:Nat // impl_isTable_L2 t_1 (t_1.Unique.drop q) q = some p158}) (fun q => ([(1,(.ptr 0 0 0)),(48,(.lst 1 (t_1.Unique.map encI))),(49,(.int .i64 (t_1.Unique.length:Int))),(50,(.int .i64 (q.1:Int)))],[.box 4 (.agg [(.str t_1.Name),(.lst 8 (t_1.Columns.map encGColumn)),(.lst 1 (t_1.Unique.map encI)),(.bool t_1.Root)])])) (fun q => t_1.Unique.length - q.1) ⟨0,hb1⟩ ⟨[],[0],_,_,rfl,rfl,⟨.refl _,⟨.refl _,⟨.refl _,⟨.refl _,trivial⟩⟩⟩⟩,(.refl _)⟩ ?_
     rintro ⟨s50_137,hc1⟩
     have hc1:impl_isTable_L2 t_1 (t_1.Unique.drop s50_137) s50_137 = some p158:=hc1
     refine (show awp Tryz.prog false 0 _ (ofL [(1,(.ptr 0 0 0)),(48,(.lst 1 (t_1.Unique.map encI))),(49,(.int .i64 (t_1.Unique.length:Int))),(50,(.int .i64 (s50_137:Int)))]) [.box 4 (.agg [(.str t_1.Name),(.lst 8 (t_1.Columns.map encGColumn)),(.lst 1 (t_1.Unique.map encI)),(.bool t_1.Root)])] _ from ?_)
     rcases dropc t_1.Unique s50_137 with ⟨hie161,hd164⟩ | ⟨hlt159,x_165,hx160,hd164⟩
     ·rw [hd164,impl_isTable_L2.eq_1] at hc1
      have hq163:=dlf hie161
      refine sr<|s_q (.bool (decide ((s50_137:Int) < (t_1.Unique.length:Int)))) rfl rfl rfl<|dk<|awp_seq<|w_condf rfl hq163<|w_exit<|k_seqx<|k_loopx<|k_blkx<|?_;obtain rfl:=os hc1;exact k_cutn ⟨_,rfl⟩ ⟨[],[],_,_,rfl,rfl,trivial,(.refl _)⟩
     ·rw [hd164,impl_isTable_L2.eq_2] at hc1
      have hq163:=dlt hlt159
      refine sr<|s_q (.bool (decide ((s50_137:Int) < (t_1.Unique.length:Int)))) rfl rfl rfl<|dk<|awp_seq<|w_condt rfl hq163<|w_skip<|k_seq<|awp_seq<|w_blk<|sr<|s_mov (.int .i64 (s50_137:Int)) rfl<|s_do (o_iaddrn (enc:=encI) rfl rfl hx160)<|s_q (.int .i64 x_165) rfl ⟨rfl,rfl⟩ rfl<|s_mov (.int .i64 (s50_137:Int)) rfl<|s_mov (.int .i64 x_165) rfl<|dk<|awp_seq<|?_
      obtain ⟨s75_173,hb2,hc1⟩:=ob hc1
      refine awp_cut ([(1,(.ptr 0 0 0)),(48,(.lst 1 (t_1.Unique.map encI))),(49,(.int .i64 (t_1.Unique.length:Int))),(50,(.int .i64 (s50_137:Int))),(75,(.bool s75_173))],[.box 4 (.agg [(.str t_1.Name),(.lst 8 (t_1.Columns.map encGColumn)),(.lst 1 (t_1.Unique.map encI)),(.bool t_1.Root)])]) ?_ ?_
      ·refine w_reg<|s_mov (.int .i64 x_165) rfl<|s_q (.ptr 0 0 1) rfl trivial rfl<|s_q (.lst 8 (t_1.Columns.map encGColumn)) rfl nle rfl<|s_dof (o_len (enc:=encGColumn) rfl) fun hl175 => s_q (.int .i64 (w64 ((t_1.Columns.length:Int) - 1))) rfl rfl rfl<|?_
       obtain ⟨r_176,er177,hb2⟩:=ob hb2
       refine s_do (o_call (w_impl_within _ _ _ _ er177) rfl (.refl _) rfl)<|s_q (.bool (!r_176)) rfl trivial rfl<|s_mov (.bool (!r_176)) rfl<|?_
       rcases oi hb2 with ⟨c178,hb2⟩ | ⟨c178,hb2⟩
       ·refine s_lit (s:=62) (b:=true) rfl c178<|s_off rfl rfl<|s_off rfl rfl<|s_off rfl rfl<|s_offs rfl<|s_offs rfl<|s_offs rfl<|s_offs rfl<|s_offs rfl<|s_offs rfl<|s_offs rfl<|s_offs rfl<|s_off rfl rfl<|s_q (.bool true) rfl trivial rfl<|w_done<|?_;obtain rfl:=os hb2;exact ⟨[],[0],_,_,rfl,rfl,⟨.refl _,⟨.refl _,⟨.refl _,⟨.refl _,⟨.refl _,trivial⟩⟩⟩⟩⟩,(.refl _)⟩
       ·refine s_lit (s:=62) (b:=false) rfl (bf c178)<|s_on rfl<|s_mov (.int .i64 (s50_137:Int)) rfl<|s_on rfl<|s_q (.bool (decide ((s50_137:Int) > 0))) rfl rfl rfl<|s_on rfl<|s_mov (.bool (decide ((s50_137:Int) > 0))) rfl<|?_
        rcases oi hb2 with ⟨c179,hb2⟩ | ⟨c179,hb2⟩
        ·refine s_lit (s:=65) (b:=true) rfl c179<|s_on rfl<|s_q (.ptr 0 0 2) rfl trivial rfl<|s_on rfl<|s_q (.lst 1 (t_1.Unique.map encI)) rfl nle rfl<|s_on rfl<|s_mov (.int .i64 (s50_137:Int)) rfl<|s_on rfl<|s_q (.int .i64 (w64 ((s50_137:Int) - 1))) rfl rfl rfl<|s_on rfl<|?_
         obtain ⟨x_180,ex181,hb2⟩:=ob hb2
         refine s_do (o_iaddr (enc:=encI) rfl rfl (idx0 ex181) (idx1 ex181))<|s_on rfl<|s_q (.int .i64 x_180) rfl ⟨rfl,rfl⟩ rfl<|s_on rfl<|s_mov (.int .i64 x_165) rfl<|s_on rfl<|s_q (.bool (decide (x_180 ≥ x_165))) rfl rfl rfl<|s_on rfl<|s_q (.bool (decide (x_180 ≥ x_165))) rfl trivial rfl<|s_q (.bool (decide (x_180 ≥ x_165))) rfl trivial rfl<|w_done<|?_;obtain rfl:=os hb2;exact ⟨[],[0],_,_,rfl,rfl,⟨.refl _,⟨.refl _,⟨.refl _,⟨.refl _,⟨.refl _,trivial⟩⟩⟩⟩⟩,(.refl _)⟩
        ·refine s_lit (s:=65) (b:=false) rfl (bf c179)<|s_off rfl rfl<|s_off rfl rfl<|s_off rfl rfl<|s_off rfl rfl<|s_off rfl rfl<|s_off rfl rfl<|s_off rfl rfl<|s_off rfl rfl<|s_on rfl<|s_q (.bool false) rfl trivial rfl<|s_q (.bool false) rfl trivial rfl<|w_done<|?_;obtain rfl:=os hb2;exact ⟨[],[0],_,_,rfl,rfl,⟨.refl _,⟨.refl _,⟨.refl _,⟨.refl _,⟨.refl _,trivial⟩⟩⟩⟩⟩,(.refl _)⟩
      ·rcases oi hc1 with ⟨c182,hc1⟩ | ⟨c182,hc1⟩
       ·refine w_condt rfl c182<|sr<|s_mov (.bool false) rfl<|dk<|w_ret<|?_;obtain rfl:=os hc1;obtain rfl:=os hf;exact r_flat ⟨trivial,trivial⟩ rfl (.refl _)
       ·refine w_condf rfl (bf c182)<|w_skip<|k_blk<|k_seq<|w_reg<|s_q (.int .i64 (w64 ((s50_137:Int) + 1))) rfl rfl rfl<|s_mov (.int .i64 (w64 ((s50_137:Int) + 1))) rfl<|w_done<|?_;exact k_loopn ⟨(s50_137 + 1),hc1⟩ (mul hlt159) ⟨[],[0],_,_,rfl,rfl,⟨.refl _,⟨.refl _,⟨.refl _,⟨.of_eq (congrArg (AV.int _) (w64_incr hlt159 hl95)),trivial⟩⟩⟩⟩,(.refl _)⟩
    ·rintro ⟨_,rfl⟩
     refine sr<|s_mov (.bool true) rfl<|dk<|w_ret<|?_;obtain rfl:=os hf;exact r_flat ⟨trivial,trivial⟩ rfl (.refl _)

/- slices.IndexFunc[[]impl.Table,impl.Table] -/
def c132:ACode :=
 (.seq (.reg (tm 4 (.c (.int .i64 0)) .done))
 (.seq (.seq (.reg (tm 6 (.t 0) (tq 7 (.len (.t 6)) (tm 8 (.c (.int .i64 0)) .done))))
 (.block 0 (.loop (.seq (.reg (tq 9 (.bin .lss (.t 8) (.t 7)) .done))
 (.seq (.cond (.t 9) .skip
 (.exit 0))
 (.seq (.block 1 (.seq (.reg (tm 10 (.t 8) (tm 5 (.t 10) .done)))
 (.seq (.reg (tm 11 (.t 1) (tm 12 (.t 0) (tm 13 (.t 5) (tq 14 (.iaddr 4 (.t 12) (.t 13)) (tq 15 (.load 4 true (.t 14)) (tq 16 (.calv (.t 11) [(.t 15)]) .done)))))))
 (.cond (.t 16) (.seq (.reg (tm 17 (.t 5) (tm 4 (.t 17) .done)))
 .ret)
 .skip))))
 (.reg (tq 18 (.bin .add (.t 8) (.c (.int .i64 1))) (tm 8 (.t 18) .done)))))))))
 (.cut (.seq (.reg (tq 4 (.mov (.c (.int .i64 (-1)))) .done))
 .ret))))
theorem fc132:fcomp Tryz.prog Tryz.f132 = some (c132.erase,[.mov (.t 4)],19):=by kernel_rfl
def slices_IndexFunc_impl_Table_impl_Table_L1 (f_2:(GTable → Option Bool)):List GTable → Nat → Option (Fl Int Unit)
  | [],s8_17 =>
    some (.go ())
  | x_31 :: xs,s8_17 =>
    (f_2 x_31).bind fun r_32 =>
    if r_32 then
    some (.ret (s8_17:Int))
    else
    slices_IndexFunc_impl_Table_impl_Table_L1 f_2 xs (s8_17 + 1)

def slices_IndexFunc_impl_Table_impl_Table (s_1:(List GTable)) (f_2:(GTable → Option Bool)):Option Int :=
    (slices_IndexFunc_impl_Table_impl_Table_L1 f_2 s_1 0).bind fun q => (match q with
    | .ret r => some r
    | .go _ =>
    some (-1))
theorem w_slices_IndexFunc_impl_Table_impl_Table (s_1:(List GTable)) (f_2:(GTable → Option Bool)) (r:Int) (hf:slices_IndexFunc_impl_Table_impl_Table s_1 f_2 = some r) (kf_f_2:Nat) (cf_f_2:List AV) (okf_f_2:okFn Tryz.prog kf_f_2 = true) (hcf_f_2:∀ h p,closeWs h p cf_f_2 = some cf_f_2) (hrf_f_2:∀ f,rens f cf_f_2 = cf_f_2) (hpf_f_2:∀ a0 r,f_2 a0 = some r → CallOK Tryz.prog kf_f_2 .flat ([(encGTable a0)] ++ cf_f_2) (.bool r)):CallOK Tryz.prog 132 .flat [(.lst 4 (s_1.map encGTable)),(.fn kf_f_2 cf_f_2)] (.int .i64 r):=by
 refine CallOK.of_awp mixed Tryz.func132 fc132 nle ?_;rw [argT_eq];unfold slices_IndexFunc_impl_Table_impl_Table at hf;unfold c132;refine (show awp Tryz.prog false 0 _ (ofL [(0,(.lst 4 (s_1.map encGTable))),(1,(.fn kf_f_2 cf_f_2))]) [] _ from ?_);refine sr<|s_mov (.int .i64 0) rfl<|dk<|awp_seq<|sr<|s_mov (.lst 4 (s_1.map encGTable)) rfl<|s_dof (o_len (enc:=encGTable) rfl) fun hl3 => s_mov (.int .i64 0) rfl<|dk<|?_
 obtain ⟨p24,hb1,hf⟩:=ob hf
 refine awp_cutx (X:={q:Unit // p24 = .go q}) (fun q => ([],[])) ?_ ?_
 ·refine awp_loop (X:={q:Nat // slices_IndexFunc_impl_Table_impl_Table_L1 f_2 (s_1.drop q) q = some p24}) (fun q => ([(0,(.lst 4 (s_1.map encGTable))),(1,(.fn kf_f_2 cf_f_2)),(7,(.int .i64 (s_1.length:Int))),(8,(.int .i64 (q.1:Int)))],[])) (fun q => s_1.length - q.1) ⟨0,hb1⟩ ⟨[],[],_,_,rfl,rfl,⟨.refl _,⟨.of_eq (congrArg (AV.fn _) (hrf_f_2 _)),⟨.refl _,⟨.refl _,trivial⟩⟩⟩⟩,(.refl _)⟩ ?_
  rintro ⟨s8_17,hc1⟩
  have hc1:slices_IndexFunc_impl_Table_impl_Table_L1 f_2 (s_1.drop s8_17) s8_17 = some p24:=hc1
  refine (show awp Tryz.prog false 0 _ (ofL [(0,(.lst 4 (s_1.map encGTable))),(1,(.fn kf_f_2 cf_f_2)),(7,(.int .i64 (s_1.length:Int))),(8,(.int .i64 (s8_17:Int)))]) [] _ from ?_)
  rcases dropc s_1 s8_17 with ⟨hie27,hd30⟩ | ⟨hlt25,x_31,hx26,hd30⟩
  ·rw [hd30,slices_IndexFunc_impl_Table_impl_Table_L1.eq_1] at hc1
   have hq29:=dlf hie27
   refine sr<|s_q (.bool (decide ((s8_17:Int) < (s_1.length:Int)))) rfl rfl rfl<|dk<|awp_seq<|w_condf rfl hq29<|w_exit<|k_seqx<|k_loopx<|k_blkx<|?_;obtain rfl:=os hc1;exact k_cutn ⟨_,rfl⟩ ⟨[],[],_,_,rfl,rfl,trivial,(.refl _)⟩
  ·rw [hd30,slices_IndexFunc_impl_Table_impl_Table_L1.eq_2] at hc1
   have hq29:=dlt hlt25
   refine sr<|s_q (.bool (decide ((s8_17:Int) < (s_1.length:Int)))) rfl rfl rfl<|dk<|awp_seq<|w_condt rfl hq29<|w_skip<|k_seq<|awp_seq<|w_blk<|sr<|s_mov (.int .i64 (s8_17:Int)) rfl<|s_mov (.int .i64 (s8_17:Int)) rfl<|dk<|sr<|?_
   obtain ⟨r_32,er33,hc1⟩:=ob hc1
   refine s_mov (.fn kf_f_2 cf_f_2) rfl<|s_mov (.lst 4 (s_1.map encGTable)) rfl<|s_mov (.int .i64 (s8_17:Int)) rfl<|s_do (o_iaddrn (enc:=encGTable) rfl rfl hx26)<|s_q (encGTable x_31) rfl nle rfl<|s_do (o_calvp (v:=(.bool r_32)) rfl okf_f_2 hcf_f_2 (hpf_f_2 _ _ er33) rfl (.refl _) rfl)<|dk<|?_
   rcases oi hc1 with ⟨c34,hc1⟩ | ⟨c34,hc1⟩
   ·refine w_condt rfl c34<|sr<|s_mov (.int .i64 (s8_17:Int)) rfl<|s_mov (.int .i64 (s8_17:Int)) rfl<|dk<|w_ret<|?_;obtain rfl:=os hc1;obtain rfl:=os hf;exact r_flat ⟨trivial,trivial⟩ rfl (.refl _)
   ·refine w_condf rfl (bf c34)<|w_skip<|k_blk<|k_seq<|w_reg<|s_q (.int .i64 (w64 ((s8_17:Int) + 1))) rfl rfl rfl<|s_mov (.int .i64 (w64 ((s8_17:Int) + 1))) rfl<|w_done<|?_;exact k_loopn ⟨(s8_17 + 1),hc1⟩ (mul hlt25) ⟨[],[],_,_,rfl,rfl,⟨.refl _,⟨.of_eq (congrArg (AV.fn _) (hrf_f_2 _)),⟨.refl _,⟨.of_eq (congrArg (AV.int _) (w64_incr hlt25 hl3)),trivial⟩⟩⟩⟩,(.refl _)⟩
 ·rintro ⟨_,rfl⟩
  refine sr<|s_mov (.int .i64 (-1)) rfl<|dk<|w_ret<|?_;obtain rfl:=os hf;exact r_flat ⟨trivial,trivial⟩ rfl (.refl _)

/- slices.ContainsFunc[[]impl.Table,impl.Table] -/
def c81:ACode :=
 (.seq (.reg (tm 4 (.c (.bool false)) .done))
 (.seq (.reg (tm 5 (.t 0) (tm 6 (.t 1) (tq 7 (.call 132 [(.t 5),(.t 6)]) (tq 8 (.bin .geq (.t 7) (.c (.int .i64 0))) (tm 4 (.t 8) .done))))))
 .ret))
theorem fc81:fcomp Tryz.prog Tryz.f81 = some (c81.erase,[.mov (.t 4)],9):=by kernel_rfl
def slices_ContainsFunc_impl_Table_impl_Table (s_1:(List GTable)) (f_2:(GTable → Option Bool)):Option Bool :=
    (slices_IndexFunc_impl_Table_impl_Table s_1 f_2).bind fun r_3 =>
    some (decide (r_3 ≥ 0))
theorem w_slices_ContainsFunc_impl_Table_impl_Table (s_1:(List GTable)) (f_2:(GTable → Option Bool)) (r:Bool) (hf:slices_ContainsFunc_impl_Table_impl_Table s_1 f_2 = some r) (kf_f_2:Nat) (cf_f_2:List AV) (okf_f_2:okFn Tryz.prog kf_f_2 = true) (hcf_f_2:∀ h p,closeWs h p cf_f_2 = some cf_f_2) (hrf_f_2:∀ f,rens f cf_f_2 = cf_f_2) (hpf_f_2:∀ a0 r,f_2 a0 = some r → CallOK Tryz.prog kf_f_2 .flat ([(encGTable a0)] ++ cf_f_2) (.bool r)):CallOK Tryz.prog 81 .flat [(.lst 4 (s_1.map encGTable)),(.fn kf_f_2 cf_f_2)] (.bool r):=by
 refine CallOK.of_awp mixed Tryz.func81 fc81 nle ?_;rw [argT_eq];unfold slices_ContainsFunc_impl_Table_impl_Table at hf;unfold c81;refine (show awp Tryz.prog false 0 _ (ofL [(0,(.lst 4 (s_1.map encGTable))),(1,(.fn kf_f_2 cf_f_2))]) [] _ from ?_);refine sr<|s_mov (.bool false) rfl<|dk<|sr<|?_
 obtain ⟨r_3,er4,hf⟩:=ob hf
 refine s_mov (.lst 4 (s_1.map encGTable)) rfl<|s_mov (.fn kf_f_2 cf_f_2) rfl<|s_do (o_call (w_slices_IndexFunc_impl_Table_impl_Table _ _ _ er4 kf_f_2 cf_f_2 okf_f_2 hcf_f_2 hrf_f_2 hpf_f_2) (cls_cons rfl (cls_cons (cls_fn hcf_f_2) rfl)) (.refl _) rfl)<|s_q (.bool (decide (r_3 ≥ 0))) rfl rfl rfl<|s_mov (.bool (decide (r_3 ≥ 0))) rfl<|dk<|w_ret<|?_;obtain rfl:=os hf;exact r_flat ⟨trivial,trivial⟩ rfl (.refl _)

/- slices.ContainsFunc[[]impl.Column,impl.Column] -/
def c83:ACode :=
 (.seq (.reg (tm 4 (.c (.bool false)) .done))
 (.seq (.reg (tm 5 (.t 0) (tm 6 (.t 1) (tq 7 (.call 133 [(.t 5),(.t 6)]) (tq 8 (.bin .geq (.t 7) (.c (.int .i64 0))) (tm 4 (.t 8) .done))))))
 .ret))
theorem fc83:fcomp Tryz.prog Tryz.f83 = some (c83.erase,[.mov (.t 4)],9):=by kernel_rfl
def slices_ContainsFunc_impl_Column_impl_Column (s_1:(List GColumn)) (f_2:(GColumn → Option Bool)):Option Bool :=
    (slices_IndexFunc_impl_Column_impl_Column s_1 f_2).bind fun r_3 =>
    some (decide (r_3 ≥ 0))
theorem w_slices_ContainsFunc_impl_Column_impl_Column (s_1:(List GColumn)) (f_2:(GColumn → Option Bool)) (r:Bool) (hf:slices_ContainsFunc_impl_Column_impl_Column s_1 f_2 = some r) (kf_f_2:Nat) (cf_f_2:List AV) (okf_f_2:okFn Tryz.prog kf_f_2 = true) (hcf_f_2:∀ h p,closeWs h p cf_f_2 = some cf_f_2) (hrf_f_2:∀ f,rens f cf_f_2 = cf_f_2) (hpf_f_2:∀ a0 r,f_2 a0 = some r → CallOK Tryz.prog kf_f_2 .flat ([(encGColumn a0)] ++ cf_f_2) (.bool r)):CallOK Tryz.prog 83 .flat [(.lst 8 (s_1.map encGColumn)),(.fn kf_f_2 cf_f_2)] (.bool r):=by
 refine CallOK.of_awp mixed Tryz.func83 fc83 nle ?_;rw [argT_eq];unfold slices_ContainsFunc_impl_Column_impl_Column at hf;unfold c83;refine (show awp Tryz.prog false 0 _ (ofL [(0,(.lst 8 (s_1.map encGColumn))),(1,(.fn kf_f_2 cf_f_2))]) [] _ from ?_);refine sr<|s_mov (.bool false) rfl<|dk<|sr<|?_
 obtain ⟨r_3,er4,hf⟩:=ob hf
 refine s_mov (.lst 8 (s_1.map encGColumn)) rfl<|s_mov (.fn kf_f_2 cf_f_2) rfl<|s_do (o_call (w_slices_IndexFunc_impl_Column_impl_Column _ _ _ er4 kf_f_2 cf_f_2 okf_f_2 hcf_f_2 hrf_f_2 hpf_f_2) (cls_cons rfl (cls_cons (cls_fn hcf_f_2) rfl)) (.refl _) rfl)<|s_q (.bool (decide (r_3 ≥ 0))) rfl rfl rfl<|s_mov (.bool (decide (r_3 ≥ 0))) rfl<|dk<|w_ret<|?_;obtain rfl:=os hf;exact r_flat ⟨trivial,trivial⟩ rfl (.refl _)

/- (impl.Schema).tableAt$1 -/
def c134:ACode :=
 (.seq (.reg (tq 2 (.box 4 (.t 0)) (tm 3 (.c (.bool false)) .done)))
 (.seq (.reg (tq 4 (.faddr 0 (.t 2)) (tq 5 (.load 1 false (.t 4)) (tq 6 (.load 1 false (.t 1)) (tq 7 (.bin .eql (.t 5) (.t 6)) (tm 3 (.t 7) .done))))))
 .ret))
theorem fc134:fcomp Tryz.prog Tryz.f134 = some (c134.erase,[.mov (.t 3)],8):=by kernel_rfl
def impl_Schema_tableAt_1 (t_1:GTable) (cap_2:Str):Option Bool :=
    some (t_1.Name == cap_2)
theorem w_impl_Schema_tableAt_1 (t_1:GTable) (cap_2:Str) (r:Bool) (hf:impl_Schema_tableAt_1 t_1 cap_2 = some r):CallOK Tryz.prog 134 .flat [(encGTable t_1),(.iptr (.str cap_2) 0)] (.bool r):=by
  refine CallOK.of_awp mixed Tryz.func134 fc134 nle ?_
  rw [argT_eq]
  unfold impl_Schema_tableAt_1 at hf
  unfold c134
  refine (show awp Tryz.prog false 0 _ (ofL [(0,(encGTable t_1)),(1,(.iptr (.str cap_2) 0))]) [] _ from ?_)
  refine awp_seq ?_
  refine w_reg ?_
  refine s_do (o_box (j:=0) (c:=(.agg [(.str t_1.Name),(.lst 8 (t_1.Columns.map encGColumn)),(.lst 1 (t_1.Unique.map encI)),(.bool t_1.Root)])) rfl trivial rfl rfl) ?_
  refine s_do (o_mov (.bool false) rfl) ?_
  refine w_done ?_
  refine k_seq ?_
  refine awp_seq ?_
  refine w_reg ?_
  refine s_do (o_q (.ptr 0 0 0) rfl trivial rfl) ?_
  refine s_do (o_q (.str t_1.Name) rfl nle rfl) ?_
  refine s_do (o_q (.str cap_2) rfl ⟨rfl,rfl⟩ rfl) ?_
  refine s_do (o_q (.bool (t_1.Name == cap_2)) rfl trivial rfl) ?_
  refine s_do (o_mov (.bool (t_1.Name == cap_2)) rfl) ?_
  refine w_done ?_
  refine k_seq ?_
  refine w_ret ?_
  obtain rfl:=os hf
  exact r_flat ⟨trivial,trivial⟩ rfl (.refl _)

/- (impl.Schema).tableAt -/
def c85:ACode :=
 (.seq (.reg (tq 2 (.box 1 (.t 0)) (tq 3 (.box 1 (.t 1)) (tm 4 (.c (.int .i64 0)) .done))))
 (.seq (.reg (tq 5 (.faddr 0 (.t 2)) (tq 6 (.load 1 false (.t 5)) (tq 7 (.mkfn 134 [(.t 3)]) (tq 8 (.call 132 [(.t 6),(.t 7)]) (tm 4 (.t 8) .done))))))
 .ret))
theorem fc85:fcomp Tryz.prog Tryz.f85 = some (c85.erase,[.mov (.t 4)],9):=by kernel_rfl
def impl_Schema_tableAt (s_1:GSchema) (name_2:Str):Option Int :=
    (slices_IndexFunc_impl_Table_impl_Table s_1.Tables (fun a0 => impl_Schema_tableAt_1 a0 name_2)).bind fun r_3 =>
    some r_3
theorem w_impl_Schema_tableAt (s_1:GSchema) (name_2:Str) (r:Int) (hf:impl_Schema_tableAt s_1 name_2 = some r):CallOK Tryz.prog 85 .flat [(encGSchema s_1),(.str name_2)] (.int .i64 r):=by
  refine CallOK.of_awp mixed Tryz.func85 fc85 nle ?_
  rw [argT_eq]
  unfold impl_Schema_tableAt at hf
  unfold c85
  refine (show awp Tryz.prog false 0 _ (ofL [(0,(encGSchema s_1)),(1,(.str name_2))]) [] _ from ?_)
  refine awp_seq ?_
  refine w_reg ?_
  refine s_do (o_box (j:=0) (c:=(.agg [(.lst 4 (s_1.Tables.map encGTable))])) rfl trivial rfl rfl) ?_
  refine s_do (o_box (j:=1) (c:=(.str name_2)) rfl trivial rfl rfl) ?_
  refine s_do (o_mov (.int .i64 0) rfl) ?_
  refine w_done ?_
  refine k_seq ?_
  refine awp_seq ?_
  refine w_reg ?_
  obtain ⟨r_3,er4,hf⟩:=ob hf
  refine s_do (o_q (.ptr 0 0 0) rfl trivial rfl) ?_
  refine s_do (o_q (.lst 4 (s_1.Tables.map encGTable)) rfl nle rfl) ?_
  refine s_do (o_q (.fn 134 [(.ptr 1 0 0)]) rfl trivial rfl) ?_
  refine s_do (o_call (w_slices_IndexFunc_impl_Table_impl_Table _ _ _ er4 134 [(.iptr (.str name_2) 0)] (by kernel_rfl) (fun _ _ => rfl) (fun _ => rfl) (fun a0 r h => w_impl_Schema_tableAt_1 a0 name_2 r h)) rfl (.refl _) rfl) ?_
  refine s_do (o_mov (.int .i64 r_3) rfl) ?_
  refine w_done ?_
  refine k_seq ?_
  refine w_ret ?_
  obtain rfl:=os hf
  exact r_flat ⟨trivial,trivial⟩ rfl (.refl _)

/- impl.SchemaOK$1$1 -/
def c84:ACode :=
 (.seq (.reg (tq 2 (.box 8 (.t 0)) (tm 3 (.c (.bool false)) .done)))
 (.seq (.reg (tq 4 (.faddr 1 (.t 2)) (tq 5 (.load 1 false (.t 4)) (tq 6 (.bin .eql (.t 5) (.c (.int .i64 4))) (tm 7 (.t 6) (tg 8 7 true (.load 1 true (.t 1)) (tg 9 7 true (.faddr 6 (.t 2)) (tg 10 7 true (.load 1 false (.t 9)) (tg 11 7 true (.call 85 [(.t 8),(.t 10)]) (tg 12 7 true (.bin .lss (.t 11) (.c (.int .i64 0))) (tq 13 (.pick (.t 7) (.t 12) (.c (.bool false))) (tm 3 (.t 13) .done))))))))))))
 .ret))
theorem fc84:fcomp Tryz.prog Tryz.f84 = some (c84.erase,[.mov (.t 3)],14):=by kernel_rfl
def impl_SchemaOK_1_1 (c_1:GColumn) (cap_2:GSchema):Option Bool :=
    if (c_1.Kind == 4) then
    (impl_Schema_tableAt cap_2 c_1.Ref).bind fun r_4 =>
    some (decide (r_4 < 0))
    else
    some false
theorem w_impl_SchemaOK_1_1 (c_1:GColumn) (cap_2:GSchema) (r:Bool) (hf:impl_SchemaOK_1_1 c_1 cap_2 = some r):CallOK Tryz.prog 84 .flat [(encGColumn c_1),(.iptr (encGSchema cap_2) 0)] (.bool r):=by
 refine CallOK.of_awp mixed Tryz.func84 fc84 nle ?_;rw [argT_eq];unfold impl_SchemaOK_1_1 at hf;unfold c84;refine (show awp Tryz.prog false 0 _ (ofL [(0,(encGColumn c_1)),(1,(.iptr (encGSchema cap_2) 0))]) [] _ from ?_);refine sr<|s_do (o_box (j:=0) (c:=(.agg [(.str c_1.Name),(.int .i64 c_1.Kind),(.int .i64 c_1.Min),(.int .i64 c_1.Max),(.int .i64 c_1.Low),(.int .i64 c_1.High),(.str c_1.Ref),(.bool c_1.Strong)])) rfl trivial rfl rfl)<|s_mov (.bool false) rfl<|dk<|sr<|?_
 rcases oi hf with ⟨c3,hf⟩ | ⟨c3,hf⟩
 ·obtain ⟨r_4,er5,hf⟩:=ob hf
  refine s_q (.ptr 0 0 1) rfl trivial rfl<|s_q (.int .i64 c_1.Kind) rfl nle rfl<|s_q (.bool (c_1.Kind == 4)) rfl rfl rfl<|s_mov (.bool (c_1.Kind == 4)) rfl<|s_lit (s:=7) (b:=true) rfl c3<|s_on rfl<|s_q (encGSchema cap_2) rfl nle rfl<|s_on rfl<|s_q (.ptr 0 0 6) rfl trivial rfl<|s_on rfl<|s_q (.str c_1.Ref) rfl nle rfl<|s_on rfl<|s_do (o_call (w_impl_Schema_tableAt _ _ _ er5) rfl (.refl _) rfl)<|s_on rfl<|s_q (.bool (decide (r_4 < 0))) rfl rfl rfl<|s_q (.bool (decide (r_4 < 0))) rfl trivial rfl<|s_mov (.bool (decide (r_4 < 0))) rfl<|dk<|w_ret<|?_;obtain rfl:=os hf;exact r_flat ⟨trivial,trivial⟩ rfl (.refl _)
 ·refine s_q (.ptr 0 0 1) rfl trivial rfl<|s_q (.int .i64 c_1.Kind) rfl nle rfl<|s_q (.bool (c_1.Kind == 4)) rfl rfl rfl<|s_mov (.bool (c_1.Kind == 4)) rfl<|s_lit (s:=7) (b:=false) rfl (bf c3)<|s_off rfl rfl<|s_off rfl rfl<|s_off rfl rfl<|s_off rfl rfl<|s_off rfl rfl<|s_q (.bool false) rfl trivial rfl<|s_mov (.bool false) rfl<|dk<|w_ret<|?_;obtain rfl:=os hf;exact r_flat ⟨trivial,trivial⟩ rfl (.refl _)

/- impl.SchemaOK$1 -/
def c82:ACode :=
 (.seq (.reg (tq 2 (.box 4 (.t 0)) (tm 3 (.c (.bool false)) .done)))
 (.seq (.reg (tq 4 (.faddr 1 (.t 2)) (tq 5 (.load 1 false (.t 4)) (tq 6 (.mkfn 84 [(.t 1)]) (tq 7 (.call 83 [(.t 5),(.t 6)]) (tm 3 (.t 7) .done))))))
 .ret))
theorem fc82:fcomp Tryz.prog Tryz.f82 = some (c82.erase,[.mov (.t 3)],8):=by kernel_rfl
def impl_SchemaOK_1 (t_1:GTable) (cap_2:GSchema):Option Bool :=
    (slices_ContainsFunc_impl_Column_impl_Column t_1.Columns (fun a0 => impl_SchemaOK_1_1 a0 cap_2)).bind fun r_3 =>
    some r_3
theorem w_impl_SchemaOK_1 (t_1:GTable) (cap_2:GSchema) (r:Bool) (hf:impl_SchemaOK_1 t_1 cap_2 = some r):CallOK Tryz.prog 82 .flat [(encGTable t_1),(.iptr (encGSchema cap_2) 0)] (.bool r):=by
  refine CallOK.of_awp mixed Tryz.func82 fc82 nle ?_
  rw [argT_eq]
  unfold impl_SchemaOK_1 at hf
  unfold c82
  refine (show awp Tryz.prog false 0 _ (ofL [(0,(encGTable t_1)),(1,(.iptr (encGSchema cap_2) 0))]) [] _ from ?_)
  refine awp_seq ?_
  refine w_reg ?_
  refine s_do (o_box (j:=0) (c:=(.agg [(.str t_1.Name),(.lst 8 (t_1.Columns.map encGColumn)),(.lst 1 (t_1.Unique.map encI)),(.bool t_1.Root)])) rfl trivial rfl rfl) ?_
  refine s_do (o_mov (.bool false) rfl) ?_
  refine w_done ?_
  refine k_seq ?_
  refine awp_seq ?_
  refine w_reg ?_
  obtain ⟨r_3,er4,hf⟩:=ob hf
  refine s_do (o_q (.ptr 0 0 1) rfl trivial rfl) ?_
  refine s_do (o_q (.lst 8 (t_1.Columns.map encGColumn)) rfl nle rfl) ?_
  refine s_do (o_q (.fn 84 [(.iptr (encGSchema cap_2) 0)]) rfl trivial rfl) ?_
  refine s_do (o_call (w_slices_ContainsFunc_impl_Column_impl_Column _ _ _ er4 84 [(.iptr (encGSchema cap_2) 0)] (by kernel_rfl) (fun _ _ => rfl) (fun _ => rfl) (fun a0 r h => w_impl_SchemaOK_1_1 a0 cap_2 r h)) rfl (.refl _) rfl) ?_
  refine s_do (o_mov (.bool r_3) rfl) ?_
  refine w_done ?_
  refine k_seq ?_
  refine w_ret ?_
  obtain rfl:=os hf
  exact r_flat ⟨trivial,trivial⟩ rfl (.refl _)

/- impl.SchemaOK -/
def c39:ACode :=
 (.seq (.reg (tq 1 (.box 1 (.t 0)) (tm 2 (.c (.bool false)) .done)))
 (.seq (.seq (.reg (tq 5 (.faddr 0 (.t 1)) (tq 6 (.load 1 false (.t 5)) (tq 7 (.len (.t 6)) (tq 8 (.call 58 [(.t 7),(.c (.int .i64 1)),(.c (.int .i64 4))]) (tq 9 (.not (.t 8)) .done))))))
 (.cond (.t 9) (.seq (.reg (tm 2 (.c (.bool false)) .done))
 .ret)
 .skip))
 (.seq (.seq (.reg (tq 10 (.faddr 0 (.t 1)) (tq 11 (.load 1 false (.t 10)) (tq 12 (.len (.t 11)) (tm 13 (.c (.int .i64 0)) .done)))))
 (.block 0 (.loop (.seq (.reg (tq 14 (.bin .lss (.t 13) (.t 12)) .done))
 (.seq (.cond (.t 14) .skip
 (.exit 0))
 (.seq (.block 1 (.seq (.reg (tm 15 (.t 13) (tq 16 (.iaddr 4 (.t 11) (.t 13)) (tq 17 (.load 4 true (.t 16)) (tq 4 (.box 4 (.c (.agg [(.str []),.nil,.nil,(.bool false)]))) (tm 3 (.t 15) (.q ⟨none,none,.store 4 (.t 4) (.t 17)⟩
 .done)))))))
 (.seq (.reg (tq 18 (.load 4 true (.t 4)) (.l ⟨(some 19),none,.call 80 [(.t 18)]⟩ []
 (tq 20 (.not (.t 19)) (tm 21 (.t 20) (tg 22 21 false (.mov (.t 3)) (tg 23 21 false (.bin .gtr (.t 22) (.c (.int .i64 0))) (tg 24 21 false (.mov (.t 23)) (tg 25 24 true (.faddr 0 (.t 1)) (tg 26 24 true (.load 1 false (.t 25)) (tg 27 24 true (.mov (.t 3)) (tg 28 24 true (.bin .sub (.t 27) (.c (.int .i64 1))) (tg 29 24 true (.iaddr 4 (.t 26) (.t 28)) (tg 30 24 true (.faddr 0 (.t 29)) (tg 31 24 true (.load 1 false (.t 30)) (tg 32 24 true (.faddr 0 (.t 4)) (tg 33 24 true (.load 1 false (.t 32)) (tg 34 24 true (.bin .geq (.t 31) (.t 33)) (tg 35 21 false (.pick (.t 24) (.t 34) (.c (.bool false))) (tq 36 (.pick (.t 21) (.c (.bool true)) (.t 35)) .done))))))))))))))))) .non)))
 (.cut (.cond (.t 36) (.seq (.reg (tm 2 (.c (.bool false)) .done))
 .ret)
 .skip)))))
 (.reg (tq 37 (.bin .add (.t 13) (.c (.int .i64 1))) (tm 13 (.t 37) .done)))))))))
 (.cut (.seq (.reg (tq 38 (.faddr 0 (.t 1)) (tq 39 (.load 1 false (.t 38)) (tq 40 (.mkfn 82 [(.t 1)]) (tq 41 (.call 81 [(.t 39),(.t 40)]) (tq 42 (.not (.t 41)) (tm 2 (.t 42) .done)))))))
 .ret)))))
theorem fc39:fcomp Tryz.prog Tryz.f39 = some (c39.erase,[.mov (.t 2)],43):=by kernel_rfl
def impl_SchemaOK_L1 (s_1:GSchema):List GTable → Nat → Option (Fl Bool Unit)
  | [],s13_44 =>
    some (.go ())
  | x_70 :: xs,s13_44 =>
    (((impl_isTable x_70).bind fun r_79 =>
    if (!r_79) then
    some true
    else
    if (decide ((s13_44:Int) > 0)) then
    (idx s_1.Tables (w64 ((s13_44:Int) - 1))).bind fun x_83 =>
    some (!Op.bytesLess x_83.Name x_70.Name)
    else
    some false:Option Bool)).bind fun s36_77 =>
    if s36_77 then
    some (.ret false)
    else
    impl_SchemaOK_L1 s_1 xs (s13_44 + 1)

def impl_SchemaOK (s_1:GSchema):Option Bool :=
    (impl_within (s_1.Tables.length:Int) 1 4).bind fun r_3 =>
    if (!r_3) then
    some false
    else
    (impl_SchemaOK_L1 s_1 s_1.Tables 0).bind fun q => (match q with
    | .ret r => some r
    | .go _ =>
    (slices_ContainsFunc_impl_Table_impl_Table s_1.Tables (fun a0 => impl_SchemaOK_1 a0 s_1)).bind fun r_86 =>
    some (!r_86))
theorem w_impl_SchemaOK (s_1:GSchema) (r:Bool) (hf:impl_SchemaOK s_1 = some r):CallOK Tryz.prog 39 .flat [(encGSchema s_1)] (.bool r):=by
 refine CallOK.of_awp mixed Tryz.func39 fc39 nle ?_;rw [argT_eq];unfold impl_SchemaOK at hf;unfold c39;refine (show awp Tryz.prog false 0 _ (ofL [(0,(encGSchema s_1))]) [] _ from ?_);refine sr<|s_do (o_box (j:=0) (c:=(.agg [(.lst 4 (s_1.Tables.map encGTable))])) rfl trivial rfl rfl)<|s_mov (.bool false) rfl<|dk<|awp_seq<|sr<|?_
 obtain ⟨r_3,er4,hf⟩:=ob hf
 refine s_q (.ptr 0 0 0) rfl trivial rfl<|s_q (.lst 4 (s_1.Tables.map encGTable)) rfl nle rfl<|s_dof (o_len (enc:=encGTable) rfl) fun hl2 => s_do (o_call (w_impl_within _ _ _ _ er4) rfl (.refl _) rfl)<|s_q (.bool (!r_3)) rfl trivial rfl<|dk<|?_
 rcases oi hf with ⟨c5,hf⟩ | ⟨c5,hf⟩
 ·refine w_condt rfl c5<|sr<|s_mov (.bool false) rfl<|dk<|w_ret<|?_;obtain rfl:=os hf;exact r_flat ⟨trivial,trivial⟩ rfl (.refl _)
 ·refine w_condf rfl (bf c5)<|w_skip<|k_seq<|awp_seq<|sr<|s_q (.ptr 0 0 0) rfl trivial rfl<|s_q (.lst 4 (s_1.Tables.map encGTable)) rfl nle rfl<|s_dof (o_len (enc:=encGTable) rfl) fun hl6 => s_mov (.int .i64 0) rfl<|dk<|?_
  obtain ⟨p63,hb1,hf⟩:=ob hf
  refine awp_cutx (X:={q:Unit // p63 = .go q}) (fun q => ([(1,(.ptr 0 0 0))],[.box 1 (.agg [(.lst 4 (s_1.Tables.map encGTable))])])) ?_ ?_
  ·refine awp_loop (X:={q:Nat // impl_SchemaOK_L1 s_1 (s_1.Tables.drop q) q = some p63}) (fun q => ([(1,(.ptr 0 0 0)),(11,(.lst 4 (s_1.Tables.map encGTable))),(12,(.int .i64 (s_1.Tables.length:Int))),(13,(.int .i64 (q.1:Int)))],[.box 1 (.agg [(.lst 4 (s_1.Tables.map encGTable))])])) (fun q => s_1.Tables.length - q.1) ⟨0,hb1⟩ ⟨[],[0],_,_,rfl,rfl,⟨.refl _,⟨.refl _,⟨.refl _,⟨.refl _,trivial⟩⟩⟩⟩,(.refl _)⟩ ?_
   rintro ⟨s13_44,hc1⟩
   have hc1:impl_SchemaOK_L1 s_1 (s_1.Tables.drop s13_44) s13_44 = some p63:=hc1
   refine (show awp Tryz.prog false 0 _ (ofL [(1,(.ptr 0 0 0)),(11,(.lst 4 (s_1.Tables.map encGTable))),(12,(.int .i64 (s_1.Tables.length:Int))),(13,(.int .i64 (s13_44:Int)))]) [.box 1 (.agg [(.lst 4 (s_1.Tables.map encGTable))])] _ from ?_)
   rcases dropc s_1.Tables s13_44 with ⟨hie66,hd69⟩ | ⟨hlt64,x_70,hx65,hd69⟩
   ·rw [hd69,impl_SchemaOK_L1.eq_1] at hc1
    have hq68:=dlf hie66
    refine sr<|s_q (.bool (decide ((s13_44:Int) < (s_1.Tables.length:Int)))) rfl rfl rfl<|dk<|awp_seq<|w_condf rfl hq68<|w_exit<|k_seqx<|k_loopx<|k_blkx<|?_;obtain rfl:=os hc1;exact k_cutn ⟨_,rfl⟩ ⟨[],[0],_,_,rfl,rfl,⟨.refl _,trivial⟩,(.refl _)⟩
   ·rw [hd69,impl_SchemaOK_L1.eq_2] at hc1
    have hq68:=dlt hlt64
    refine sr<|s_q (.bool (decide ((s13_44:Int) < (s_1.Tables.length:Int)))) rfl rfl rfl<|dk<|awp_seq<|w_condt rfl hq68<|w_skip<|k_seq<|awp_seq<|w_blk<|sr<|s_mov (.int .i64 (s13_44:Int)) rfl<|s_do (o_iaddrn (enc:=encGTable) rfl rfl hx65)<|s_q (encGTable x_70) rfl nle rfl<|s_do (o_box (j:=1) (c:=(.agg [(.str []),.nil,.nil,(.bool false)])) rfl trivial rfl rfl)<|s_mov (.int .i64 (s13_44:Int)) rfl<|s_do0 (o_storebox (v:=(.agg [(.str x_70.Name),(.lst 8 (x_70.Columns.map encGColumn)),(.lst 1 (x_70.Unique.map encI)),(.bool x_70.Root)])) (y':=(.agg [(.str x_70.Name),(.lst 8 (x_70.Columns.map encGColumn)),(.lst 1 (x_70.Unique.map encI)),(.bool x_70.Root)])) rfl rfl rfl trivial ⟨rfl,nle⟩ ⟨⟨rfl,trivial⟩,⟨⟨rfl,trivial⟩,⟨⟨rfl,trivial⟩,⟨⟨rfl,trivial⟩,trivial⟩⟩⟩⟩ rfl)<|?_
    refine dk<|awp_seq<|?_
    obtain ⟨s36_77,hb2,hc1⟩:=ob hc1
    refine awp_cut ([(1,(.ptr 0 0 0)),(11,(.lst 4 (s_1.Tables.map encGTable))),(12,(.int .i64 (s_1.Tables.length:Int))),(13,(.int .i64 (s13_44:Int))),(36,(.bool s36_77))],[.box 1 (.agg [(.lst 4 (s_1.Tables.map encGTable))])]) ?_ ?_
    ·refine w_reg<|s_q (.agg [(.str x_70.Name),(.lst 8 (x_70.Columns.map encGColumn)),(.lst 1 (x_70.Unique.map encI)),(.bool x_70.Root)]) rfl nle rfl<|?_
     obtain ⟨r_79,er80,hb2⟩:=ob hb2
     refine s_dol (o_call (w_impl_isTable _ _ er80) rfl (.refl _) rfl) a_same trivial<|s_q (.bool (!r_79)) rfl trivial rfl<|s_mov (.bool (!r_79)) rfl<|?_
     rcases oi hb2 with ⟨c81,hb2⟩ | ⟨c81,hb2⟩
     ·refine s_lit (s:=21) (b:=true) rfl c81<|s_off rfl rfl<|s_off rfl rfl<|s_off rfl rfl<|s_offs rfl<|s_offs rfl<|s_offs rfl<|s_offs rfl<|s_offs rfl<|s_offs rfl<|s_offs rfl<|s_offs rfl<|s_offs rfl<|s_offs rfl<|s_off rfl rfl<|s_q (.bool true) rfl trivial rfl<|w_done<|?_;obtain rfl:=os hb2;exact ⟨[],[0],_,_,rfl,rfl,⟨.refl _,⟨.refl _,⟨.refl _,⟨.refl _,⟨.refl _,trivial⟩⟩⟩⟩⟩,(.refl _)⟩
     ·refine s_lit (s:=21) (b:=false) rfl (bf c81)<|s_on rfl<|s_mov (.int .i64 (s13_44:Int)) rfl<|s_on rfl<|s_q (.bool (decide ((s13_44:Int) > 0))) rfl rfl rfl<|s_on rfl<|s_mov (.bool (decide ((s13_44:Int) > 0))) rfl<|?_
      rcases oi hb2 with ⟨c82,hb2⟩ | ⟨c82,hb2⟩
      ·refine s_lit (s:=24) (b:=true) rfl c82<|s_on rfl<|s_q (.ptr 0 0 0) rfl trivial rfl<|s_on rfl<|s_q (.lst 4 (s_1.Tables.map encGTable)) rfl nle rfl<|s_on rfl<|s_mov (.int .i64 (s13_44:Int)) rfl<|s_on rfl<|s_q (.int .i64 (w64 ((s13_44:Int) - 1))) rfl rfl rfl<|s_on rfl<|?_
       obtain ⟨x_83,ex84,hb2⟩:=ob hb2
       refine s_do (o_iaddr (enc:=encGTable) rfl rfl (idx0 ex84) (idx1 ex84))<|s_on rfl<|s_q (.iptr (encGTable x_83) 0) rfl trivial rfl<|s_on rfl<|s_q (.str x_83.Name) rfl nle rfl<|s_on rfl<|s_q (.ptr 1 0 0) rfl trivial rfl<|s_on rfl<|s_q (.str x_70.Name) rfl nle rfl<|s_on rfl<|s_q (.bool (!Op.bytesLess x_83.Name x_70.Name)) rfl trivial rfl<|s_on rfl<|s_q (.bool (!Op.bytesLess x_83.Name x_70.Name)) rfl trivial rfl<|s_q (.bool (!Op.bytesLess x_83.Name x_70.Name)) rfl trivial rfl<|w_done<|?_;obtain rfl:=os hb2;exact ⟨[],[0],_,_,rfl,rfl,⟨.refl _,⟨.refl _,⟨.refl _,⟨.refl _,⟨.refl _,trivial⟩⟩⟩⟩⟩,(.refl _)⟩
      ·refine s_lit (s:=24) (b:=false) rfl (bf c82)<|s_off rfl rfl<|s_off rfl rfl<|s_off rfl rfl<|s_off rfl rfl<|s_off rfl rfl<|s_off rfl rfl<|s_off rfl rfl<|s_off rfl rfl<|s_off rfl rfl<|s_off rfl rfl<|s_on rfl<|s_q (.bool false) rfl trivial rfl<|s_q (.bool false) rfl trivial rfl<|w_done<|?_;obtain rfl:=os hb2;exact ⟨[],[0],_,_,rfl,rfl,⟨.refl _,⟨.refl _,⟨.refl _,⟨.refl _,⟨.refl _,trivial⟩⟩⟩⟩⟩,(.refl _)⟩
    ·rcases oi hc1 with ⟨c85,hc1⟩ | ⟨c85,hc1⟩
     ·refine w_condt rfl c85<|sr<|s_mov (.bool false) rfl<|dk<|w_ret<|?_;obtain rfl:=os hc1;obtain rfl:=os hf;exact r_flat ⟨trivial,trivial⟩ rfl (.refl _)
     ·refine w_condf rfl (bf c85)<|w_skip<|k_blk<|k_seq<|w_reg<|s_q (.int .i64 (w64 ((s13_44:Int) + 1))) rfl rfl rfl<|s_mov (.int .i64 (w64 ((s13_44:Int) + 1))) rfl<|w_done<|?_;exact k_loopn ⟨(s13_44 + 1),hc1⟩ (mul hlt64) ⟨[],[0],_,_,rfl,rfl,⟨.refl _,⟨.refl _,⟨.refl _,⟨.of_eq (congrArg (AV.int _) (w64_incr hlt64 hl6)),trivial⟩⟩⟩⟩,(.refl _)⟩
  ·rintro ⟨_,rfl⟩
   refine sr<|?_
   obtain ⟨r_86,er87,hf⟩:=ob hf
   refine s_q (.ptr 0 0 0) rfl trivial rfl<|s_q (.lst 4 (s_1.Tables.map encGTable)) rfl nle rfl<|s_q (.fn 82 [(.ptr 0 0 0)]) rfl trivial rfl<|?_;refine s_do (o_call (w_slices_ContainsFunc_impl_Table_impl_Table _ _ _ er87 82 [(.iptr (encGSchema s_1) 0)] (by kernel_rfl) (fun _ _ => rfl) (fun _ => rfl) (fun a0 r h => w_impl_SchemaOK_1 a0 s_1 r h)) rfl (.refl _) rfl) ?_;refine s_q (.bool (!r_86)) rfl trivial rfl<|s_mov (.bool (!r_86)) rfl<|dk<|w_ret<|?_;obtain rfl:=os hf;exact r_flat ⟨trivial,trivial⟩ rfl (.refl _)

end Go.R
