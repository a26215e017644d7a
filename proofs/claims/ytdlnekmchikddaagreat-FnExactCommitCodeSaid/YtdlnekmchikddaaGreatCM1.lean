/- Walks. -/
import Derived.Test.YtdlnekmchikddaaGreatCMT
set_option linter.all false
namespace Go.R
open Go Go.Proofs
set_option linter.unusedVariables false
set_option linter.unusedSimpArgs false
set_option maxHeartbeats 8000000
/- laws.szColumn -/
def c204:ACode :=
 (.seq (.reg (tq 2 (.box 8 (.t 0)) (tm 4 (.c (.int .i64 0)) .done)))
 (.seq (.reg (tm 5 (.t 1) (tq 6 (.faddr 0 (.t 2)) (tq 7 (.load 1 false (.t 6)) (tq 8 (.lenS (.t 7)) (tq 9 (.bin .sub (.t 5) (.t 8)) (tm 1 (.t 9) .done)))))))
 (.seq (.seq (.reg (tm 10 (.t 1) (tq 11 (.bin .lss (.t 10) (.c (.int .i64 0))) .done)))
 (.cond (.t 11) (.seq (.reg (tq 4 (.mov (.c (.int .i64 (-1)))) .done))
 .ret)
 .skip))
 (.seq (.reg (tm 12 (.t 1) (tq 13 (.faddr 6 (.t 2)) (tq 14 (.load 1 false (.t 13)) (tq 15 (.lenS (.t 14)) (tq 16 (.bin .sub (.t 12) (.t 15)) (tm 1 (.t 16) .done)))))))
 (.seq (.seq (.reg (tm 17 (.t 1) (tq 18 (.bin .lss (.t 17) (.c (.int .i64 0))) .done)))
 (.cond (.t 18) (.seq (.reg (tq 4 (.mov (.c (.int .i64 (-1)))) .done))
 .ret)
 .skip))
 (.seq (.reg (tm 19 (.t 1) (tm 4 (.t 19) .done)))
 .ret))))))
theorem fc204:fcomp Tryz.prog Tryz.f204 = some (c204.erase,[.mov (.t 4)],20):=by kernel_rfl
def laws_szColumn (a_1:GColumn) (left_2:Int):Option Int :=
    if (decide (w64 (left_2 - (a_1.Name.length:Int)) < 0)) then
    some (-1)
    else
    if (decide (w64 ((w64 (left_2 - (a_1.Name.length:Int))) - (a_1.Ref.length:Int)) < 0)) then
    some (-1)
    else
    some (w64 ((w64 (left_2 - (a_1.Name.length:Int))) - (a_1.Ref.length:Int)))
theorem w_laws_szColumn (a_1:GColumn) (left_2:Int) (r:Int) (hf:laws_szColumn a_1 left_2 = some r):CallOK Tryz.prog 204 .flat [(encGColumn a_1),(.int .i64 left_2)] (.int .i64 r):=by
 refine CallOK.of_awp mixed Tryz.func204 fc204 nle ?_;rw [argT_eq];unfold laws_szColumn at hf;unfold c204;refine (show awp Tryz.prog false 0 _ (ofL [(0,(encGColumn a_1)),(1,(.int .i64 left_2))]) [] _ from ?_);refine sr<|s_do (o_box (j:=0) (c:=(.agg [(.str a_1.Name),(.int .i64 a_1.Kind),(.int .i64 a_1.Min),(.int .i64 a_1.Max),(.int .i64 a_1.Low),(.int .i64 a_1.High),(.str a_1.Ref),(.bool a_1.Strong)])) rfl trivial rfl rfl)<|s_mov (.int .i64 0) rfl<|dk<|sr<|s_mov (.int .i64 left_2) rfl<|s_q (.ptr 0 0 0) rfl trivial rfl<|s_q (.str a_1.Name) rfl nle rfl<|s_dof (o_lenS rfl) fun hl3 => s_q (.int .i64 (w64 (left_2 - (a_1.Name.length:Int)))) rfl rfl rfl<|?_
 refine s_mov (.int .i64 (w64 (left_2 - (a_1.Name.length:Int)))) rfl<|dk<|awp_seq<|sr<|s_mov (.int .i64 (w64 (left_2 - (a_1.Name.length:Int)))) rfl<|s_q (.bool (decide (w64 (left_2 - (a_1.Name.length:Int)) < 0))) rfl rfl rfl<|dk<|?_
 rcases oi hf with ⟨c4,hf⟩ | ⟨c4,hf⟩
 ·refine w_condt rfl c4<|sr<|s_mov (.int .i64 (-1)) rfl<|dk<|w_ret<|?_;obtain rfl:=os hf;exact r_flat ⟨trivial,trivial⟩ rfl (.refl _)
 ·refine w_condf rfl (bf c4)<|w_skip<|k_seq<|sr<|s_mov (.int .i64 (w64 (left_2 - (a_1.Name.length:Int)))) rfl<|s_q (.ptr 0 0 6) rfl trivial rfl<|s_q (.str a_1.Ref) rfl nle rfl<|s_dof (o_lenS rfl) fun hl5 => s_q (.int .i64 (w64 ((w64 (left_2 - (a_1.Name.length:Int))) - (a_1.Ref.length:Int)))) rfl rfl rfl<|s_mov (.int .i64 (w64 ((w64 (left_2 - (a_1.Name.length:Int))) - (a_1.Ref.length:Int)))) rfl<|dk<|awp_seq<|sr<|s_mov (.int .i64 (w64 ((w64 (left_2 - (a_1.Name.length:Int))) - (a_1.Ref.length:Int)))) rfl<|s_q (.bool (decide (w64 ((w64 (left_2 - (a_1.Name.length:Int))) - (a_1.Ref.length:Int)) < 0))) rfl rfl rfl<|w_done<|?_
  refine k_seq ?_
  rcases oi hf with ⟨c6,hf⟩ | ⟨c6,hf⟩
  ·refine w_condt rfl c6<|sr<|s_mov (.int .i64 (-1)) rfl<|dk<|w_ret<|?_;obtain rfl:=os hf;exact r_flat ⟨trivial,trivial⟩ rfl (.refl _)
  ·refine w_condf rfl (bf c6)<|w_skip<|k_seq<|sr<|s_mov (.int .i64 (w64 ((w64 (left_2 - (a_1.Name.length:Int))) - (a_1.Ref.length:Int)))) rfl<|s_mov (.int .i64 (w64 ((w64 (left_2 - (a_1.Name.length:Int))) - (a_1.Ref.length:Int)))) rfl<|dk<|w_ret<|?_;obtain rfl:=os hf;exact r_flat ⟨trivial,trivial⟩ rfl (.refl _)

/- laws.szColumnS -/
def c166:ACode :=
 (.seq (.reg (tm 4 (.c (.int .i64 0)) .done))
 (.seq (.reg (tm 6 (.t 1) (tm 7 (.t 0) (tq 8 (.len (.t 7)) (tq 9 (.bin .sub (.t 6) (.t 8)) (tm 1 (.t 9) .done))))))
 (.seq (.seq (.reg (tm 10 (.t 1) (tq 11 (.bin .lss (.t 10) (.c (.int .i64 0))) .done)))
 (.cond (.t 11) (.seq (.reg (tq 4 (.mov (.c (.int .i64 (-1)))) .done))
 .ret)
 .skip))
 (.seq (.seq (.reg (tm 5 (.c (.int .i64 0)) .done))
 (.block 0 (.loop (.seq (.seq (.reg (tm 12 (.t 5) (tm 13 (.t 0) (tq 14 (.len (.t 13)) (tq 15 (.bin .lss (.t 12) (.t 14)) .done)))))
 (.cond (.t 15) .skip
 (.exit 0)))
 (.seq (.block 1 (.seq (.reg (tm 18 (.t 0) (tm 19 (.t 5) (tq 20 (.iaddr 8 (.t 18) (.t 19)) (tq 21 (.load 8 true (.t 20)) (tm 22 (.t 1) (tq 23 (.call 204 [(.t 21),(.t 22)]) (tm 1 (.t 23) .done))))))))
 (.seq (.reg (tm 24 (.t 1) (tq 25 (.bin .lss (.t 24) (.c (.int .i64 0))) .done)))
 (.cond (.t 25) (.seq (.reg (tq 4 (.mov (.c (.int .i64 (-1)))) .done))
 .ret)
 .skip))))
 (.reg (tm 16 (.t 5) (tq 17 (.bin .add (.t 16) (.c (.int .i64 1))) (tm 5 (.t 17) .done)))))))))
 (.cut (.seq (.reg (tm 26 (.t 1) (tm 4 (.t 26) .done)))
 .ret))))))
theorem fc166:fcomp Tryz.prog Tryz.f166 = some (c166.erase,[.mov (.t 4)],27):=by kernel_rfl
def laws_szColumnS_L1 :List GColumn → Int → Option (Fl Int Int)
  | [],left_21 =>
    some (.go left_21)
  | x_39 :: xs,left_21 =>
    (laws_szColumn x_39 left_21).bind fun r_42 =>
    if (decide (r_42 < 0)) then
    some (.ret (-1))
    else
    laws_szColumnS_L1 xs r_42 

def laws_szColumnS (a_1:(List GColumn)) (left_2:Int):Option Int :=
    if (decide (w64 (left_2 - (a_1.length:Int)) < 0)) then
    some (-1)
    else
    (laws_szColumnS_L1 a_1 (w64 (left_2 - (a_1.length:Int)))).bind fun q => (match q with
    | .ret r => some r
    | .go left_31 =>
    some left_31)
theorem w_laws_szColumnS (a_1:(List GColumn)) (left_2:Int) (r:Int) (hf:laws_szColumnS a_1 left_2 = some r):CallOK Tryz.prog 166 .flat [(.lst 8 (a_1.map encGColumn)),(.int .i64 left_2)] (.int .i64 r):=by
 refine CallOK.of_awp mixed Tryz.func166 fc166 nle ?_;rw [argT_eq];unfold laws_szColumnS at hf;unfold c166;refine (show awp Tryz.prog false 0 _ (ofL [(0,(.lst 8 (a_1.map encGColumn))),(1,(.int .i64 left_2))]) [] _ from ?_);refine sr<|s_mov (.int .i64 0) rfl<|dk<|sr<|s_mov (.int .i64 left_2) rfl<|s_mov (.lst 8 (a_1.map encGColumn)) rfl<|s_dof (o_len (enc:=encGColumn) rfl) fun hl3 => s_q (.int .i64 (w64 (left_2 - (a_1.length:Int)))) rfl rfl rfl<|s_mov (.int .i64 (w64 (left_2 - (a_1.length:Int)))) rfl<|dk<|awp_seq<|sr<|s_mov (.int .i64 (w64 (left_2 - (a_1.length:Int)))) rfl<|s_q (.bool (decide (w64 (left_2 - (a_1.length:Int)) < 0))) rfl rfl rfl<|?_
 refine dk<|?_
 rcases oi hf with ⟨c4,hf⟩ | ⟨c4,hf⟩
 ·refine w_condt rfl c4<|sr<|s_mov (.int .i64 (-1)) rfl<|dk<|w_ret<|?_;obtain rfl:=os hf;exact r_flat ⟨trivial,trivial⟩ rfl (.refl _)
 ·refine w_condf rfl (bf c4)<|w_skip<|k_seq<|awp_seq<|sr<|s_mov (.int .i64 0) rfl<|dk<|?_
  obtain ⟨p32,hb1,hf⟩:=ob hf
  refine awp_cutx (X:={q:Int // p32 = .go q}) (fun q => ([(1,(.int .i64 q.1))],[])) ?_ ?_
  ·refine awp_loop (X:={q:(Int × Nat) // laws_szColumnS_L1 (a_1.drop q.2) q.1 = some p32}) (fun q => ([(0,(.lst 8 (a_1.map encGColumn))),(1,(.int .i64 q.1.1)),(5,(.int .i64 (q.1.2:Int)))],[])) (fun q => a_1.length - q.1.2) ⟨(w64 (left_2 - (a_1.length:Int)),0),hb1⟩ ⟨[],[],_,_,rfl,rfl,⟨.refl _,⟨.refl _,⟨.refl _,trivial⟩⟩⟩,(.refl _)⟩ ?_
   rintro ⟨⟨left_21,i_22⟩,hc1⟩
   have hc1:laws_szColumnS_L1 (a_1.drop i_22) left_21 = some p32:=hc1
   refine (show awp Tryz.prog false 0 _ (ofL [(0,(.lst 8 (a_1.map encGColumn))),(1,(.int .i64 left_21)),(5,(.int .i64 (i_22:Int)))]) [] _ from ?_)
   rcases dropc a_1 i_22 with ⟨hie35,hd38⟩ | ⟨hlt33,x_39,hx34,hd38⟩
   ·rw [hd38,laws_szColumnS_L1.eq_1] at hc1
    have hq37:=dlf hie35
    refine awp_seq<|sr<|s_mov (.int .i64 (i_22:Int)) rfl<|s_mov (.lst 8 (a_1.map encGColumn)) rfl<|s_dof (o_len (enc:=encGColumn) rfl) fun hl40 => s_q (.bool (decide ((i_22:Int) < (a_1.length:Int)))) rfl rfl rfl<|dk<|w_condf rfl hq37<|w_exit<|k_seqx<|k_loopx<|k_blkx<|?_;obtain rfl:=os hc1;exact k_cutn ⟨_,rfl⟩ ⟨[],[],_,_,rfl,rfl,⟨.refl _,trivial⟩,(.refl _)⟩
   ·rw [hd38,laws_szColumnS_L1.eq_2] at hc1
    have hq37:=dlt hlt33
    refine awp_seq<|sr<|s_mov (.int .i64 (i_22:Int)) rfl<|s_mov (.lst 8 (a_1.map encGColumn)) rfl<|s_dof (o_len (enc:=encGColumn) rfl) fun hl41 => s_q (.bool (decide ((i_22:Int) < (a_1.length:Int)))) rfl rfl rfl<|dk<|w_condt rfl hq37<|w_skip<|k_seq<|awp_seq<|w_blk<|sr<|?_
    obtain ⟨r_42,er43,hc1⟩:=ob hc1
    refine s_mov (.lst 8 (a_1.map encGColumn)) rfl<|s_mov (.int .i64 (i_22:Int)) rfl<|s_do (o_iaddrn (enc:=encGColumn) rfl rfl hx34)<|s_q (encGColumn x_39) rfl nle rfl<|s_mov (.int .i64 left_21) rfl<|s_do (o_call (w_laws_szColumn _ _ _ er43) rfl (.refl _) rfl)<|s_mov (.int .i64 r_42) rfl<|dk<|sr<|s_mov (.int .i64 r_42) rfl<|s_q (.bool (decide (r_42 < 0))) rfl rfl rfl<|dk<|?_
    rcases oi hc1 with ⟨c44,hc1⟩ | ⟨c44,hc1⟩
    ·refine w_condt rfl c44<|sr<|s_mov (.int .i64 (-1)) rfl<|dk<|w_ret<|?_;obtain rfl:=os hc1;obtain rfl:=os hf;exact r_flat ⟨trivial,trivial⟩ rfl (.refl _)
    ·refine w_condf rfl (bf c44)<|w_skip<|k_blk<|k_seq<|w_reg<|s_mov (.int .i64 (i_22:Int)) rfl<|s_q (.int .i64 (w64 ((i_22:Int) + 1))) rfl rfl rfl<|s_mov (.int .i64 (w64 ((i_22:Int) + 1))) rfl<|w_done<|?_;exact k_loopn ⟨(r_42,(i_22 + 1)),hc1⟩ (mul hlt33) ⟨[],[],_,_,rfl,rfl,⟨.refl _,⟨.refl _,⟨.of_eq (congrArg (AV.int _) (w64_incr hlt33 hl41)),trivial⟩⟩⟩,(.refl _)⟩
  ·rintro ⟨left_31,rfl⟩
   refine sr<|s_mov (.int .i64 left_31) rfl<|s_mov (.int .i64 left_31) rfl<|dk<|w_ret<|?_;obtain rfl:=os hf;exact r_flat ⟨trivial,trivial⟩ rfl (.refl _)

/- laws.szIntS -/
def c167:ACode :=
 (.seq (.reg (tm 4 (.c (.int .i64 0)) .done))
 (.seq (.reg (tm 5 (.t 1) (tm 6 (.t 0) (tq 7 (.len (.t 6)) (tq 8 (.bin .sub (.t 5) (.t 7)) (tm 1 (.t 8) .done))))))
 (.seq (.seq (.reg (tm 9 (.t 1) (tq 10 (.bin .lss (.t 9) (.c (.int .i64 0))) .done)))
 (.cond (.t 10) (.seq (.reg (tq 4 (.mov (.c (.int .i64 (-1)))) .done))
 .ret)
 .skip))
 (.seq (.reg (tm 11 (.t 1) (tm 4 (.t 11) .done)))
 .ret))))
theorem fc167:fcomp Tryz.prog Tryz.f167 = some (c167.erase,[.mov (.t 4)],12):=by kernel_rfl
def laws_szIntS (a_1:(List Int)) (left_2:Int):Option Int :=
    if (decide (w64 (left_2 - (a_1.length:Int)) < 0)) then
    some (-1)
    else
    some (w64 (left_2 - (a_1.length:Int)))
theorem w_laws_szIntS (a_1:(List Int)) (left_2:Int) (r:Int) (hf:laws_szIntS a_1 left_2 = some r):CallOK Tryz.prog 167 .flat [(.lst 1 (a_1.map encI)),(.int .i64 left_2)] (.int .i64 r):=by
 refine CallOK.of_awp mixed Tryz.func167 fc167 nle ?_;rw [argT_eq];unfold laws_szIntS at hf;unfold c167;refine (show awp Tryz.prog false 0 _ (ofL [(0,(.lst 1 (a_1.map encI))),(1,(.int .i64 left_2))]) [] _ from ?_);refine sr<|s_mov (.int .i64 0) rfl<|dk<|sr<|s_mov (.int .i64 left_2) rfl<|s_mov (.lst 1 (a_1.map encI)) rfl<|s_dof (o_len (enc:=encI) rfl) fun hl3 => s_q (.int .i64 (w64 (left_2 - (a_1.length:Int)))) rfl rfl rfl<|s_mov (.int .i64 (w64 (left_2 - (a_1.length:Int)))) rfl<|dk<|awp_seq<|sr<|s_mov (.int .i64 (w64 (left_2 - (a_1.length:Int)))) rfl<|s_q (.bool (decide (w64 (left_2 - (a_1.length:Int)) < 0))) rfl rfl rfl<|?_
 refine dk<|?_
 rcases oi hf with ⟨c4,hf⟩ | ⟨c4,hf⟩
 ·refine w_condt rfl c4<|sr<|s_mov (.int .i64 (-1)) rfl<|dk<|w_ret<|?_;obtain rfl:=os hf;exact r_flat ⟨trivial,trivial⟩ rfl (.refl _)
 ·refine w_condf rfl (bf c4)<|w_skip<|k_seq<|sr<|s_mov (.int .i64 (w64 (left_2 - (a_1.length:Int)))) rfl<|s_mov (.int .i64 (w64 (left_2 - (a_1.length:Int)))) rfl<|dk<|w_ret<|?_;obtain rfl:=os hf;exact r_flat ⟨trivial,trivial⟩ rfl (.refl _)

/- laws.szTable -/
def c118:ACode :=
 (.seq (.reg (tq 2 (.box 4 (.t 0)) (tm 4 (.c (.int .i64 0)) .done)))
 (.seq (.reg (tm 5 (.t 1) (tq 6 (.faddr 0 (.t 2)) (tq 7 (.load 1 false (.t 6)) (tq 8 (.lenS (.t 7)) (tq 9 (.bin .sub (.t 5) (.t 8)) (tm 1 (.t 9) .done)))))))
 (.seq (.seq (.reg (tm 10 (.t 1) (tq 11 (.bin .lss (.t 10) (.c (.int .i64 0))) .done)))
 (.cond (.t 11) (.seq (.reg (tq 4 (.mov (.c (.int .i64 (-1)))) .done))
 .ret)
 .skip))
 (.seq (.reg (tq 12 (.faddr 1 (.t 2)) (tq 13 (.load 1 false (.t 12)) (tm 14 (.t 1) (tq 15 (.call 166 [(.t 13),(.t 14)]) (tm 1 (.t 15) .done))))))
 (.seq (.seq (.reg (tm 16 (.t 1) (tq 17 (.bin .lss (.t 16) (.c (.int .i64 0))) .done)))
 (.cond (.t 17) (.seq (.reg (tq 4 (.mov (.c (.int .i64 (-1)))) .done))
 .ret)
 .skip))
 (.seq (.reg (tq 18 (.faddr 2 (.t 2)) (tq 19 (.load 1 false (.t 18)) (tm 20 (.t 1) (tq 21 (.call 167 [(.t 19),(.t 20)]) (tm 1 (.t 21) .done))))))
 (.seq (.seq (.reg (tm 22 (.t 1) (tq 23 (.bin .lss (.t 22) (.c (.int .i64 0))) .done)))
 (.cond (.t 23) (.seq (.reg (tq 4 (.mov (.c (.int .i64 (-1)))) .done))
 .ret)
 .skip))
 (.seq (.reg (tm 24 (.t 1) (tm 4 (.t 24) .done)))
 .ret))))))))
theorem fc118:fcomp Tryz.prog Tryz.f118 = some (c118.erase,[.mov (.t 4)],25):=by kernel_rfl
def laws_szTable (a_1:GTable) (left_2:Int):Option Int :=
    if (decide (w64 (left_2 - (a_1.Name.length:Int)) < 0)) then
    some (-1)
    else
    (laws_szColumnS a_1.Columns (w64 (left_2 - (a_1.Name.length:Int)))).bind fun r_5 =>
    if (decide (r_5 < 0)) then
    some (-1)
    else
    (laws_szIntS a_1.Unique r_5).bind fun r_8 =>
    if (decide (r_8 < 0)) then
    some (-1)
    else
    some r_8
theorem w_laws_szTable (a_1:GTable) (left_2:Int) (r:Int) (hf:laws_szTable a_1 left_2 = some r):CallOK Tryz.prog 118 .flat [(encGTable a_1),(.int .i64 left_2)] (.int .i64 r):=by
 refine CallOK.of_awp mixed Tryz.func118 fc118 nle ?_;rw [argT_eq];unfold laws_szTable at hf;unfold c118;refine (show awp Tryz.prog false 0 _ (ofL [(0,(encGTable a_1)),(1,(.int .i64 left_2))]) [] _ from ?_);refine sr<|s_do (o_box (j:=0) (c:=(.agg [(.str a_1.Name),(.lst 8 (a_1.Columns.map encGColumn)),(.lst 1 (a_1.Unique.map encI)),(.bool a_1.Root)])) rfl trivial rfl rfl)<|s_mov (.int .i64 0) rfl<|dk<|sr<|s_mov (.int .i64 left_2) rfl<|s_q (.ptr 0 0 0) rfl trivial rfl<|s_q (.str a_1.Name) rfl nle rfl<|s_dof (o_lenS rfl) fun hl3 => s_q (.int .i64 (w64 (left_2 - (a_1.Name.length:Int)))) rfl rfl rfl<|s_mov (.int .i64 (w64 (left_2 - (a_1.Name.length:Int)))) rfl<|?_
 refine dk<|awp_seq<|sr<|s_mov (.int .i64 (w64 (left_2 - (a_1.Name.length:Int)))) rfl<|s_q (.bool (decide (w64 (left_2 - (a_1.Name.length:Int)) < 0))) rfl rfl rfl<|dk<|?_
 rcases oi hf with ⟨c4,hf⟩ | ⟨c4,hf⟩
 ·refine w_condt rfl c4<|sr<|s_mov (.int .i64 (-1)) rfl<|dk<|w_ret<|?_;obtain rfl:=os hf;exact r_flat ⟨trivial,trivial⟩ rfl (.refl _)
 ·refine w_condf rfl (bf c4)<|w_skip<|k_seq<|sr<|?_
  obtain ⟨r_5,er6,hf⟩:=ob hf
  refine s_q (.ptr 0 0 1) rfl trivial rfl<|s_q (.lst 8 (a_1.Columns.map encGColumn)) rfl nle rfl<|s_mov (.int .i64 (w64 (left_2 - (a_1.Name.length:Int)))) rfl<|s_do (o_call (w_laws_szColumnS _ _ _ er6) rfl (.refl _) rfl)<|s_mov (.int .i64 r_5) rfl<|dk<|awp_seq<|sr<|s_mov (.int .i64 r_5) rfl<|s_q (.bool (decide (r_5 < 0))) rfl rfl rfl<|dk<|?_
  rcases oi hf with ⟨c7,hf⟩ | ⟨c7,hf⟩
  ·refine w_condt rfl c7<|sr<|s_mov (.int .i64 (-1)) rfl<|dk<|w_ret<|?_;obtain rfl:=os hf;exact r_flat ⟨trivial,trivial⟩ rfl (.refl _)
  ·refine w_condf rfl (bf c7)<|w_skip<|k_seq<|sr<|?_
   obtain ⟨r_8,er9,hf⟩:=ob hf
   refine s_q (.ptr 0 0 2) rfl trivial rfl<|s_q (.lst 1 (a_1.Unique.map encI)) rfl nle rfl<|s_mov (.int .i64 r_5) rfl<|s_do (o_call (w_laws_szIntS _ _ _ er9) rfl (.refl _) rfl)<|s_mov (.int .i64 r_8) rfl<|dk<|awp_seq<|sr<|s_mov (.int .i64 r_8) rfl<|s_q (.bool (decide (r_8 < 0))) rfl rfl rfl<|dk<|?_
   rcases oi hf with ⟨c10,hf⟩ | ⟨c10,hf⟩
   ·refine w_condt rfl c10<|sr<|s_mov (.int .i64 (-1)) rfl<|dk<|w_ret<|?_;obtain rfl:=os hf;exact r_flat ⟨trivial,trivial⟩ rfl (.refl _)
   ·refine w_condf rfl (bf c10)<|w_skip<|k_seq<|sr<|s_mov (.int .i64 r_8) rfl<|s_mov (.int .i64 r_8) rfl<|dk<|w_ret<|?_;obtain rfl:=os hf;exact r_flat ⟨trivial,trivial⟩ rfl (.refl _)

/- laws.szTableS -/
def c50:ACode :=
 (.seq (.reg (tm 4 (.c (.int .i64 0)) .done))
 (.seq (.reg (tm 6 (.t 1) (tm 7 (.t 0) (tq 8 (.len (.t 7)) (tq 9 (.bin .sub (.t 6) (.t 8)) (tm 1 (.t 9) .done))))))
 (.seq (.seq (.reg (tm 10 (.t 1) (tq 11 (.bin .lss (.t 10) (.c (.int .i64 0))) .done)))
 (.cond (.t 11) (.seq (.reg (tq 4 (.mov (.c (.int .i64 (-1)))) .done))
 .ret)
 .skip))
 (.seq (.seq (.reg (tm 5 (.c (.int .i64 0)) .done))
 (.block 0 (.loop (.seq (.seq (.reg (tm 12 (.t 5) (tm 13 (.t 0) (tq 14 (.len (.t 13)) (tq 15 (.bin .lss (.t 12) (.t 14)) .done)))))
 (.cond (.t 15) .skip
 (.exit 0)))
 (.seq (.block 1 (.seq (.reg (tm 18 (.t 0) (tm 19 (.t 5) (tq 20 (.iaddr 4 (.t 18) (.t 19)) (tq 21 (.load 4 true (.t 20)) (tm 22 (.t 1) (tq 23 (.call 118 [(.t 21),(.t 22)]) (tm 1 (.t 23) .done))))))))
 (.seq (.reg (tm 24 (.t 1) (tq 25 (.bin .lss (.t 24) (.c (.int .i64 0))) .done)))
 (.cond (.t 25) (.seq (.reg (tq 4 (.mov (.c (.int .i64 (-1)))) .done))
 .ret)
 .skip))))
 (.reg (tm 16 (.t 5) (tq 17 (.bin .add (.t 16) (.c (.int .i64 1))) (tm 5 (.t 17) .done)))))))))
 (.cut (.seq (.reg (tm 26 (.t 1) (tm 4 (.t 26) .done)))
 .ret))))))
theorem fc50:fcomp Tryz.prog Tryz.f50 = some (c50.erase,[.mov (.t 4)],27):=by kernel_rfl
def laws_szTableS_L1 :List GTable → Int → Option (Fl Int Int)
  | [],left_21 =>
    some (.go left_21)
  | x_39 :: xs,left_21 =>
    (laws_szTable x_39 left_21).bind fun r_42 =>
    if (decide (r_42 < 0)) then
    some (.ret (-1))
    else
    laws_szTableS_L1 xs r_42 

def laws_szTableS (a_1:(List GTable)) (left_2:Int):Option Int :=
    if (decide (w64 (left_2 - (a_1.length:Int)) < 0)) then
    some (-1)
    else
    (laws_szTableS_L1 a_1 (w64 (left_2 - (a_1.length:Int)))).bind fun q => (match q with
    | .ret r => some r
    | .go left_31 =>
    some left_31)
theorem w_laws_szTableS (a_1:(List GTable)) (left_2:Int) (r:Int) (hf:laws_szTableS a_1 left_2 = some r):CallOK Tryz.prog 50 .flat [(.lst 4 (a_1.map encGTable)),(.int .i64 left_2)] (.int .i64 r):=by
 refine CallOK.of_awp mixed Tryz.func50 fc50 nle ?_;rw [argT_eq];unfold laws_szTableS at hf;unfold c50;refine (show awp Tryz.prog false 0 _ (ofL [(0,(.lst 4 (a_1.map encGTable))),(1,(.int .i64 left_2))]) [] _ from ?_);refine sr<|s_mov (.int .i64 0) rfl<|dk<|sr<|s_mov (.int .i64 left_2) rfl<|s_mov (.lst 4 (a_1.map encGTable)) rfl<|s_dof (o_len (enc:=encGTable) rfl) fun hl3 => s_q (.int .i64 (w64 (left_2 - (a_1.length:Int)))) rfl rfl rfl<|s_mov (.int .i64 (w64 (left_2 - (a_1.length:Int)))) rfl<|dk<|awp_seq<|sr<|s_mov (.int .i64 (w64 (left_2 - (a_1.length:Int)))) rfl<|s_q (.bool (decide (w64 (left_2 - (a_1.length:Int)) < 0))) rfl rfl rfl<|?_
 refine dk<|?_
 rcases oi hf with ⟨c4,hf⟩ | ⟨c4,hf⟩
 ·refine w_condt rfl c4<|sr<|s_mov (.int .i64 (-1)) rfl<|dk<|w_ret<|?_;obtain rfl:=os hf;exact r_flat ⟨trivial,trivial⟩ rfl (.refl _)
 ·refine w_condf rfl (bf c4)<|w_skip<|k_seq<|awp_seq<|sr<|s_mov (.int .i64 0) rfl<|dk<|?_
  obtain ⟨p32,hb1,hf⟩:=ob hf
  refine awp_cutx (X:={q:Int // p32 = .go q}) (fun q => ([(1,(.int .i64 q.1))],[])) ?_ ?_
  ·refine awp_loop (X:={q:(Int × Nat) // laws_szTableS_L1 (a_1.drop q.2) q.1 = some p32}) (fun q => ([(0,(.lst 4 (a_1.map encGTable))),(1,(.int .i64 q.1.1)),(5,(.int .i64 (q.1.2:Int)))],[])) (fun q => a_1.length - q.1.2) ⟨(w64 (left_2 - (a_1.length:Int)),0),hb1⟩ ⟨[],[],_,_,rfl,rfl,⟨.refl _,⟨.refl _,⟨.refl _,trivial⟩⟩⟩,(.refl _)⟩ ?_
   rintro ⟨⟨left_21,i_22⟩,hc1⟩
   have hc1:laws_szTableS_L1 (a_1.drop i_22) left_21 = some p32:=hc1
   refine (show awp Tryz.prog false 0 _ (ofL [(0,(.lst 4 (a_1.map encGTable))),(1,(.int .i64 left_21)),(5,(.int .i64 (i_22:Int)))]) [] _ from ?_)
   rcases dropc a_1 i_22 with ⟨hie35,hd38⟩ | ⟨hlt33,x_39,hx34,hd38⟩
   ·rw [hd38,laws_szTableS_L1.eq_1] at hc1
    have hq37:=dlf hie35
    refine awp_seq<|sr<|s_mov (.int .i64 (i_22:Int)) rfl<|s_mov (.lst 4 (a_1.map encGTable)) rfl<|s_dof (o_len (enc:=encGTable) rfl) fun hl40 => s_q (.bool (decide ((i_22:Int) < (a_1.length:Int)))) rfl rfl rfl<|dk<|w_condf rfl hq37<|w_exit<|k_seqx<|k_loopx<|k_blkx<|?_;obtain rfl:=os hc1;exact k_cutn ⟨_,rfl⟩ ⟨[],[],_,_,rfl,rfl,⟨.refl _,trivial⟩,(.refl _)⟩
   ·rw [hd38,laws_szTableS_L1.eq_2] at hc1
    have hq37:=dlt hlt33
    refine awp_seq<|sr<|s_mov (.int .i64 (i_22:Int)) rfl<|s_mov (.lst 4 (a_1.map encGTable)) rfl<|s_dof (o_len (enc:=encGTable) rfl) fun hl41 => s_q (.bool (decide ((i_22:Int) < (a_1.length:Int)))) rfl rfl rfl<|dk<|w_condt rfl hq37<|w_skip<|k_seq<|awp_seq<|w_blk<|sr<|?_
    obtain ⟨r_42,er43,hc1⟩:=ob hc1
    refine s_mov (.lst 4 (a_1.map encGTable)) rfl<|s_mov (.int .i64 (i_22:Int)) rfl<|s_do (o_iaddrn (enc:=encGTable) rfl rfl hx34)<|s_q (encGTable x_39) rfl nle rfl<|s_mov (.int .i64 left_21) rfl<|s_do (o_call (w_laws_szTable _ _ _ er43) rfl (.refl _) rfl)<|s_mov (.int .i64 r_42) rfl<|dk<|sr<|s_mov (.int .i64 r_42) rfl<|s_q (.bool (decide (r_42 < 0))) rfl rfl rfl<|dk<|?_
    rcases oi hc1 with ⟨c44,hc1⟩ | ⟨c44,hc1⟩
    ·refine w_condt rfl c44<|sr<|s_mov (.int .i64 (-1)) rfl<|dk<|w_ret<|?_;obtain rfl:=os hc1;obtain rfl:=os hf;exact r_flat ⟨trivial,trivial⟩ rfl (.refl _)
    ·refine w_condf rfl (bf c44)<|w_skip<|k_blk<|k_seq<|w_reg<|s_mov (.int .i64 (i_22:Int)) rfl<|s_q (.int .i64 (w64 ((i_22:Int) + 1))) rfl rfl rfl<|s_mov (.int .i64 (w64 ((i_22:Int) + 1))) rfl<|w_done<|?_;exact k_loopn ⟨(r_42,(i_22 + 1)),hc1⟩ (mul hlt33) ⟨[],[],_,_,rfl,rfl,⟨.refl _,⟨.refl _,⟨.of_eq (congrArg (AV.int _) (w64_incr hlt33 hl41)),trivial⟩⟩⟩,(.refl _)⟩
  ·rintro ⟨left_31,rfl⟩
   refine sr<|s_mov (.int .i64 left_31) rfl<|s_mov (.int .i64 left_31) rfl<|dk<|w_ret<|?_;obtain rfl:=os hf;exact r_flat ⟨trivial,trivial⟩ rfl (.refl _)

/- laws.szSchema -/
def c12:ACode :=
 (.seq (.reg (tq 2 (.box 1 (.t 0)) (tm 4 (.c (.int .i64 0)) .done)))
 (.seq (.reg (tq 5 (.faddr 0 (.t 2)) (tq 6 (.load 1 false (.t 5)) (tm 7 (.t 1) (tq 8 (.call 50 [(.t 6),(.t 7)]) (tm 1 (.t 8) .done))))))
 (.seq (.seq (.reg (tm 9 (.t 1) (tq 10 (.bin .lss (.t 9) (.c (.int .i64 0))) .done)))
 (.cond (.t 10) (.seq (.reg (tq 4 (.mov (.c (.int .i64 (-1)))) .done))
 .ret)
 .skip))
 (.seq (.reg (tm 11 (.t 1) (tm 4 (.t 11) .done)))
 .ret))))
theorem fc12:fcomp Tryz.prog Tryz.f12 = some (c12.erase,[.mov (.t 4)],12):=by kernel_rfl
def laws_szSchema (a_1:GSchema) (left_2:Int):Option Int :=
    (laws_szTableS a_1.Tables left_2).bind fun r_3 =>
    if (decide (r_3 < 0)) then
    some (-1)
    else
    some r_3
theorem w_laws_szSchema (a_1:GSchema) (left_2:Int) (r:Int) (hf:laws_szSchema a_1 left_2 = some r):CallOK Tryz.prog 12 .flat [(encGSchema a_1),(.int .i64 left_2)] (.int .i64 r):=by
 refine CallOK.of_awp mixed Tryz.func12 fc12 nle ?_;rw [argT_eq];unfold laws_szSchema at hf;unfold c12;refine (show awp Tryz.prog false 0 _ (ofL [(0,(encGSchema a_1)),(1,(.int .i64 left_2))]) [] _ from ?_);refine sr<|s_do (o_box (j:=0) (c:=(.agg [(.lst 4 (a_1.Tables.map encGTable))])) rfl trivial rfl rfl)<|s_mov (.int .i64 0) rfl<|dk<|sr<|?_
 obtain ⟨r_3,er4,hf⟩:=ob hf
 refine s_q (.ptr 0 0 0) rfl trivial rfl<|s_q (.lst 4 (a_1.Tables.map encGTable)) rfl nle rfl<|s_mov (.int .i64 left_2) rfl<|s_do (o_call (w_laws_szTableS _ _ _ er4) rfl (.refl _) rfl)<|s_mov (.int .i64 r_3) rfl<|dk<|awp_seq<|sr<|s_mov (.int .i64 r_3) rfl<|s_q (.bool (decide (r_3 < 0))) rfl rfl rfl<|dk<|?_
 rcases oi hf with ⟨c5,hf⟩ | ⟨c5,hf⟩
 ·refine w_condt rfl c5<|sr<|s_mov (.int .i64 (-1)) rfl<|dk<|w_ret<|?_;obtain rfl:=os hf;exact r_flat ⟨trivial,trivial⟩ rfl (.refl _)
 ·refine w_condf rfl (bf c5)<|w_skip<|k_seq<|sr<|s_mov (.int .i64 r_3) rfl<|s_mov (.int .i64 r_3) rfl<|dk<|w_ret<|?_;obtain rfl:=os hf;exact r_flat ⟨trivial,trivial⟩ rfl (.refl _)

/- laws.szAtom -/
def c233:ACode :=
 (.seq (.reg (tq 2 (.box 3 (.t 0)) (tm 4 (.c (.int .i64 0)) .done)))
 (.seq (.reg (tm 5 (.t 1) (tq 6 (.faddr 2 (.t 2)) (tq 7 (.load 1 false (.t 6)) (tq 8 (.lenS (.t 7)) (tq 9 (.bin .sub (.t 5) (.t 8)) (tm 1 (.t 9) .done)))))))
 (.seq (.seq (.reg (tm 10 (.t 1) (tq 11 (.bin .lss (.t 10) (.c (.int .i64 0))) .done)))
 (.cond (.t 11) (.seq (.reg (tq 4 (.mov (.c (.int .i64 (-1)))) .done))
 .ret)
 .skip))
 (.seq (.reg (tm 12 (.t 1) (tm 4 (.t 12) .done)))
 .ret))))
theorem fc233:fcomp Tryz.prog Tryz.f233 = some (c233.erase,[.mov (.t 4)],13):=by kernel_rfl
def laws_szAtom (a_1:GAtom) (left_2:Int):Option Int :=
    if (decide (w64 (left_2 - (a_1.T.length:Int)) < 0)) then
    some (-1)
    else
    some (w64 (left_2 - (a_1.T.length:Int)))
theorem w_laws_szAtom (a_1:GAtom) (left_2:Int) (r:Int) (hf:laws_szAtom a_1 left_2 = some r):CallOK Tryz.prog 233 .flat [(encGAtom a_1),(.int .i64 left_2)] (.int .i64 r):=by
 refine CallOK.of_awp mixed Tryz.func233 fc233 nle ?_;rw [argT_eq];unfold laws_szAtom at hf;unfold c233;refine (show awp Tryz.prog false 0 _ (ofL [(0,(encGAtom a_1)),(1,(.int .i64 left_2))]) [] _ from ?_);refine sr<|s_do (o_box (j:=0) (c:=(.agg [(.int .i64 a_1.Kind),(.int .i64 a_1.N),(.str a_1.T)])) rfl trivial rfl rfl)<|s_mov (.int .i64 0) rfl<|dk<|sr<|s_mov (.int .i64 left_2) rfl<|s_q (.ptr 0 0 2) rfl trivial rfl<|s_q (.str a_1.T) rfl nle rfl<|s_dof (o_lenS rfl) fun hl3 => s_q (.int .i64 (w64 (left_2 - (a_1.T.length:Int)))) rfl rfl rfl<|s_mov (.int .i64 (w64 (left_2 - (a_1.T.length:Int)))) rfl<|dk<|awp_seq<|sr<|?_
 refine s_mov (.int .i64 (w64 (left_2 - (a_1.T.length:Int)))) rfl<|s_q (.bool (decide (w64 (left_2 - (a_1.T.length:Int)) < 0))) rfl rfl rfl<|dk<|?_
 rcases oi hf with ⟨c4,hf⟩ | ⟨c4,hf⟩
 ·refine w_condt rfl c4<|sr<|s_mov (.int .i64 (-1)) rfl<|dk<|w_ret<|?_;obtain rfl:=os hf;exact r_flat ⟨trivial,trivial⟩ rfl (.refl _)
 ·refine w_condf rfl (bf c4)<|w_skip<|k_seq<|sr<|s_mov (.int .i64 (w64 (left_2 - (a_1.T.length:Int)))) rfl<|s_mov (.int .i64 (w64 (left_2 - (a_1.T.length:Int)))) rfl<|dk<|w_ret<|?_;obtain rfl:=os hf;exact r_flat ⟨trivial,trivial⟩ rfl (.refl _)

/- laws.szAtomS -/
def c224:ACode :=
 (.seq (.reg (tm 4 (.c (.int .i64 0)) .done))
 (.seq (.reg (tm 6 (.t 1) (tm 7 (.t 0) (tq 8 (.len (.t 7)) (tq 9 (.bin .sub (.t 6) (.t 8)) (tm 1 (.t 9) .done))))))
 (.seq (.seq (.reg (tm 10 (.t 1) (tq 11 (.bin .lss (.t 10) (.c (.int .i64 0))) .done)))
 (.cond (.t 11) (.seq (.reg (tq 4 (.mov (.c (.int .i64 (-1)))) .done))
 .ret)
 .skip))
 (.seq (.seq (.reg (tm 5 (.c (.int .i64 0)) .done))
 (.block 0 (.loop (.seq (.seq (.reg (tm 12 (.t 5) (tm 13 (.t 0) (tq 14 (.len (.t 13)) (tq 15 (.bin .lss (.t 12) (.t 14)) .done)))))
 (.cond (.t 15) .skip
 (.exit 0)))
 (.seq (.block 1 (.seq (.reg (tm 18 (.t 0) (tm 19 (.t 5) (tq 20 (.iaddr 3 (.t 18) (.t 19)) (tq 21 (.load 3 true (.t 20)) (tm 22 (.t 1) (tq 23 (.call 233 [(.t 21),(.t 22)]) (tm 1 (.t 23) .done))))))))
 (.seq (.reg (tm 24 (.t 1) (tq 25 (.bin .lss (.t 24) (.c (.int .i64 0))) .done)))
 (.cond (.t 25) (.seq (.reg (tq 4 (.mov (.c (.int .i64 (-1)))) .done))
 .ret)
 .skip))))
 (.reg (tm 16 (.t 5) (tq 17 (.bin .add (.t 16) (.c (.int .i64 1))) (tm 5 (.t 17) .done)))))))))
 (.cut (.seq (.reg (tm 26 (.t 1) (tm 4 (.t 26) .done)))
 .ret))))))
theorem fc224:fcomp Tryz.prog Tryz.f224 = some (c224.erase,[.mov (.t 4)],27):=by kernel_rfl
def laws_szAtomS_L1 :List GAtom → Int → Option (Fl Int Int)
  | [],left_21 =>
    some (.go left_21)
  | x_39 :: xs,left_21 =>
    (laws_szAtom x_39 left_21).bind fun r_42 =>
    if (decide (r_42 < 0)) then
    some (.ret (-1))
    else
    laws_szAtomS_L1 xs r_42 

def laws_szAtomS (a_1:(List GAtom)) (left_2:Int):Option Int :=
    if (decide (w64 (left_2 - (a_1.length:Int)) < 0)) then
    some (-1)
    else
    (laws_szAtomS_L1 a_1 (w64 (left_2 - (a_1.length:Int)))).bind fun q => (match q with
    | .ret r => some r
    | .go left_31 =>
    some left_31)
theorem w_laws_szAtomS (a_1:(List GAtom)) (left_2:Int) (r:Int) (hf:laws_szAtomS a_1 left_2 = some r):CallOK Tryz.prog 224 .flat [(.lst 3 (a_1.map encGAtom)),(.int .i64 left_2)] (.int .i64 r):=by
 refine CallOK.of_awp mixed Tryz.func224 fc224 nle ?_;rw [argT_eq];unfold laws_szAtomS at hf;unfold c224;refine (show awp Tryz.prog false 0 _ (ofL [(0,(.lst 3 (a_1.map encGAtom))),(1,(.int .i64 left_2))]) [] _ from ?_);refine sr<|s_mov (.int .i64 0) rfl<|dk<|sr<|s_mov (.int .i64 left_2) rfl<|s_mov (.lst 3 (a_1.map encGAtom)) rfl<|s_dof (o_len (enc:=encGAtom) rfl) fun hl3 => s_q (.int .i64 (w64 (left_2 - (a_1.length:Int)))) rfl rfl rfl<|s_mov (.int .i64 (w64 (left_2 - (a_1.length:Int)))) rfl<|dk<|awp_seq<|sr<|s_mov (.int .i64 (w64 (left_2 - (a_1.length:Int)))) rfl<|s_q (.bool (decide (w64 (left_2 - (a_1.length:Int)) < 0))) rfl rfl rfl<|?_
 refine dk<|?_
 rcases oi hf with ⟨c4,hf⟩ | ⟨c4,hf⟩
 ·refine w_condt rfl c4<|sr<|s_mov (.int .i64 (-1)) rfl<|dk<|w_ret<|?_;obtain rfl:=os hf;exact r_flat ⟨trivial,trivial⟩ rfl (.refl _)
 ·refine w_condf rfl (bf c4)<|w_skip<|k_seq<|awp_seq<|sr<|s_mov (.int .i64 0) rfl<|dk<|?_
  obtain ⟨p32,hb1,hf⟩:=ob hf
  refine awp_cutx (X:={q:Int // p32 = .go q}) (fun q => ([(1,(.int .i64 q.1))],[])) ?_ ?_
  ·refine awp_loop (X:={q:(Int × Nat) // laws_szAtomS_L1 (a_1.drop q.2) q.1 = some p32}) (fun q => ([(0,(.lst 3 (a_1.map encGAtom))),(1,(.int .i64 q.1.1)),(5,(.int .i64 (q.1.2:Int)))],[])) (fun q => a_1.length - q.1.2) ⟨(w64 (left_2 - (a_1.length:Int)),0),hb1⟩ ⟨[],[],_,_,rfl,rfl,⟨.refl _,⟨.refl _,⟨.refl _,trivial⟩⟩⟩,(.refl _)⟩ ?_
   rintro ⟨⟨left_21,i_22⟩,hc1⟩
   have hc1:laws_szAtomS_L1 (a_1.drop i_22) left_21 = some p32:=hc1
   refine (show awp Tryz.prog false 0 _ (ofL [(0,(.lst 3 (a_1.map encGAtom))),(1,(.int .i64 left_21)),(5,(.int .i64 (i_22:Int)))]) [] _ from ?_)
   rcases dropc a_1 i_22 with ⟨hie35,hd38⟩ | ⟨hlt33,x_39,hx34,hd38⟩
   ·rw [hd38,laws_szAtomS_L1.eq_1] at hc1
    have hq37:=dlf hie35
    refine awp_seq<|sr<|s_mov (.int .i64 (i_22:Int)) rfl<|s_mov (.lst 3 (a_1.map encGAtom)) rfl<|s_dof (o_len (enc:=encGAtom) rfl) fun hl40 => s_q (.bool (decide ((i_22:Int) < (a_1.length:Int)))) rfl rfl rfl<|dk<|w_condf rfl hq37<|w_exit<|k_seqx<|k_loopx<|k_blkx<|?_;obtain rfl:=os hc1;exact k_cutn ⟨_,rfl⟩ ⟨[],[],_,_,rfl,rfl,⟨.refl _,trivial⟩,(.refl _)⟩
   ·rw [hd38,laws_szAtomS_L1.eq_2] at hc1
    have hq37:=dlt hlt33
    refine awp_seq<|sr<|s_mov (.int .i64 (i_22:Int)) rfl<|s_mov (.lst 3 (a_1.map encGAtom)) rfl<|s_dof (o_len (enc:=encGAtom) rfl) fun hl41 => s_q (.bool (decide ((i_22:Int) < (a_1.length:Int)))) rfl rfl rfl<|dk<|w_condt rfl hq37<|w_skip<|k_seq<|awp_seq<|w_blk<|sr<|?_
    obtain ⟨r_42,er43,hc1⟩:=ob hc1
    refine s_mov (.lst 3 (a_1.map encGAtom)) rfl<|s_mov (.int .i64 (i_22:Int)) rfl<|s_do (o_iaddrn (enc:=encGAtom) rfl rfl hx34)<|s_q (encGAtom x_39) rfl nle rfl<|s_mov (.int .i64 left_21) rfl<|s_do (o_call (w_laws_szAtom _ _ _ er43) rfl (.refl _) rfl)<|s_mov (.int .i64 r_42) rfl<|dk<|sr<|s_mov (.int .i64 r_42) rfl<|s_q (.bool (decide (r_42 < 0))) rfl rfl rfl<|dk<|?_
    rcases oi hc1 with ⟨c44,hc1⟩ | ⟨c44,hc1⟩
    ·refine w_condt rfl c44<|sr<|s_mov (.int .i64 (-1)) rfl<|dk<|w_ret<|?_;obtain rfl:=os hc1;obtain rfl:=os hf;exact r_flat ⟨trivial,trivial⟩ rfl (.refl _)
    ·refine w_condf rfl (bf c44)<|w_skip<|k_blk<|k_seq<|w_reg<|s_mov (.int .i64 (i_22:Int)) rfl<|s_q (.int .i64 (w64 ((i_22:Int) + 1))) rfl rfl rfl<|s_mov (.int .i64 (w64 ((i_22:Int) + 1))) rfl<|w_done<|?_;exact k_loopn ⟨(r_42,(i_22 + 1)),hc1⟩ (mul hlt33) ⟨[],[],_,_,rfl,rfl,⟨.refl _,⟨.refl _,⟨.of_eq (congrArg (AV.int _) (w64_incr hlt33 hl41)),trivial⟩⟩⟩,(.refl _)⟩
  ·rintro ⟨left_31,rfl⟩
   refine sr<|s_mov (.int .i64 left_31) rfl<|s_mov (.int .i64 left_31) rfl<|dk<|w_ret<|?_;obtain rfl:=os hf;exact r_flat ⟨trivial,trivial⟩ rfl (.refl _)

/- laws.szAtomSS -/
def c205:ACode :=
 (.seq (.reg (tm 4 (.c (.int .i64 0)) .done))
 (.seq (.reg (tm 6 (.t 1) (tm 7 (.t 0) (tq 8 (.len (.t 7)) (tq 9 (.bin .sub (.t 6) (.t 8)) (tm 1 (.t 9) .done))))))
 (.seq (.seq (.reg (tm 10 (.t 1) (tq 11 (.bin .lss (.t 10) (.c (.int .i64 0))) .done)))
 (.cond (.t 11) (.seq (.reg (tq 4 (.mov (.c (.int .i64 (-1)))) .done))
 .ret)
 .skip))
 (.seq (.seq (.reg (tm 5 (.c (.int .i64 0)) .done))
 (.block 0 (.loop (.seq (.seq (.reg (tm 12 (.t 5) (tm 13 (.t 0) (tq 14 (.len (.t 13)) (tq 15 (.bin .lss (.t 12) (.t 14)) .done)))))
 (.cond (.t 15) .skip
 (.exit 0)))
 (.seq (.block 1 (.seq (.reg (tm 18 (.t 0) (tm 19 (.t 5) (tq 20 (.iaddr 1 (.t 18) (.t 19)) (tq 21 (.load 1 false (.t 20)) (tm 22 (.t 1) (tq 23 (.call 224 [(.t 21),(.t 22)]) (tm 1 (.t 23) .done))))))))
 (.seq (.reg (tm 24 (.t 1) (tq 25 (.bin .lss (.t 24) (.c (.int .i64 0))) .done)))
 (.cond (.t 25) (.seq (.reg (tq 4 (.mov (.c (.int .i64 (-1)))) .done))
 .ret)
 .skip))))
 (.reg (tm 16 (.t 5) (tq 17 (.bin .add (.t 16) (.c (.int .i64 1))) (tm 5 (.t 17) .done)))))))))
 (.cut (.seq (.reg (tm 26 (.t 1) (tm 4 (.t 26) .done)))
 .ret))))))
theorem fc205:fcomp Tryz.prog Tryz.f205 = some (c205.erase,[.mov (.t 4)],27):=by kernel_rfl
def laws_szAtomSS_L1 :List (List GAtom) → Int → Option (Fl Int Int)
  | [],left_21 =>
    some (.go left_21)
  | x_39 :: xs,left_21 =>
    (laws_szAtomS x_39 left_21).bind fun r_42 =>
    if (decide (r_42 < 0)) then
    some (.ret (-1))
    else
    laws_szAtomSS_L1 xs r_42 

def laws_szAtomSS (a_1:(List (List GAtom))) (left_2:Int):Option Int :=
    if (decide (w64 (left_2 - (a_1.length:Int)) < 0)) then
    some (-1)
    else
    (laws_szAtomSS_L1 a_1 (w64 (left_2 - (a_1.length:Int)))).bind fun q => (match q with
    | .ret r => some r
    | .go left_31 =>
    some left_31)
theorem w_laws_szAtomSS (a_1:(List (List GAtom))) (left_2:Int) (r:Int) (hf:laws_szAtomSS a_1 left_2 = some r):CallOK Tryz.prog 205 .flat [(.lst 1 (a_1.map (encL 3 encGAtom))),(.int .i64 left_2)] (.int .i64 r):=by
 refine CallOK.of_awp mixed Tryz.func205 fc205 nle ?_;rw [argT_eq];unfold laws_szAtomSS at hf;unfold c205;refine (show awp Tryz.prog false 0 _ (ofL [(0,(.lst 1 (a_1.map (encL 3 encGAtom)))),(1,(.int .i64 left_2))]) [] _ from ?_);refine sr<|s_mov (.int .i64 0) rfl<|dk<|sr<|s_mov (.int .i64 left_2) rfl<|s_mov (.lst 1 (a_1.map (encL 3 encGAtom))) rfl<|s_dof (o_len (enc:=(encL 3 encGAtom)) rfl) fun hl3 => s_q (.int .i64 (w64 (left_2 - (a_1.length:Int)))) rfl rfl rfl<|s_mov (.int .i64 (w64 (left_2 - (a_1.length:Int)))) rfl<|dk<|awp_seq<|sr<|s_mov (.int .i64 (w64 (left_2 - (a_1.length:Int)))) rfl<|s_q (.bool (decide (w64 (left_2 - (a_1.length:Int)) < 0))) rfl rfl rfl<|?_
 refine dk<|?_
 rcases oi hf with ⟨c4,hf⟩ | ⟨c4,hf⟩
 ·refine w_condt rfl c4<|sr<|s_mov (.int .i64 (-1)) rfl<|dk<|w_ret<|?_;obtain rfl:=os hf;exact r_flat ⟨trivial,trivial⟩ rfl (.refl _)
 ·refine w_condf rfl (bf c4)<|w_skip<|k_seq<|awp_seq<|sr<|s_mov (.int .i64 0) rfl<|dk<|?_
  obtain ⟨p32,hb1,hf⟩:=ob hf
  refine awp_cutx (X:={q:Int // p32 = .go q}) (fun q => ([(1,(.int .i64 q.1))],[])) ?_ ?_
  ·refine awp_loop (X:={q:(Int × Nat) // laws_szAtomSS_L1 (a_1.drop q.2) q.1 = some p32}) (fun q => ([(0,(.lst 1 (a_1.map (encL 3 encGAtom)))),(1,(.int .i64 q.1.1)),(5,(.int .i64 (q.1.2:Int)))],[])) (fun q => a_1.length - q.1.2) ⟨(w64 (left_2 - (a_1.length:Int)),0),hb1⟩ ⟨[],[],_,_,rfl,rfl,⟨.refl _,⟨.refl _,⟨.refl _,trivial⟩⟩⟩,(.refl _)⟩ ?_
   rintro ⟨⟨left_21,i_22⟩,hc1⟩
   have hc1:laws_szAtomSS_L1 (a_1.drop i_22) left_21 = some p32:=hc1
   refine (show awp Tryz.prog false 0 _ (ofL [(0,(.lst 1 (a_1.map (encL 3 encGAtom)))),(1,(.int .i64 left_21)),(5,(.int .i64 (i_22:Int)))]) [] _ from ?_)
   rcases dropc a_1 i_22 with ⟨hie35,hd38⟩ | ⟨hlt33,x_39,hx34,hd38⟩
   ·rw [hd38,laws_szAtomSS_L1.eq_1] at hc1
    have hq37:=dlf hie35
    refine awp_seq<|sr<|s_mov (.int .i64 (i_22:Int)) rfl<|s_mov (.lst 1 (a_1.map (encL 3 encGAtom))) rfl<|s_dof (o_len (enc:=(encL 3 encGAtom)) rfl) fun hl40 => s_q (.bool (decide ((i_22:Int) < (a_1.length:Int)))) rfl rfl rfl<|dk<|w_condf rfl hq37<|w_exit<|k_seqx<|k_loopx<|k_blkx<|?_;obtain rfl:=os hc1;exact k_cutn ⟨_,rfl⟩ ⟨[],[],_,_,rfl,rfl,⟨.refl _,trivial⟩,(.refl _)⟩
   ·rw [hd38,laws_szAtomSS_L1.eq_2] at hc1
    have hq37:=dlt hlt33
    refine awp_seq<|sr<|s_mov (.int .i64 (i_22:Int)) rfl<|s_mov (.lst 1 (a_1.map (encL 3 encGAtom))) rfl<|s_dof (o_len (enc:=(encL 3 encGAtom)) rfl) fun hl41 => s_q (.bool (decide ((i_22:Int) < (a_1.length:Int)))) rfl rfl rfl<|dk<|w_condt rfl hq37<|w_skip<|k_seq<|awp_seq<|w_blk<|sr<|?_
    obtain ⟨r_42,er43,hc1⟩:=ob hc1
    refine s_mov (.lst 1 (a_1.map (encL 3 encGAtom))) rfl<|s_mov (.int .i64 (i_22:Int)) rfl<|s_do (o_iaddrn (enc:=(encL 3 encGAtom)) rfl rfl hx34)<|s_q (.lst 3 (x_39.map encGAtom)) rfl ⟨rfl,rfl⟩ rfl<|s_mov (.int .i64 left_21) rfl<|s_do (o_call (w_laws_szAtomS _ _ _ er43) rfl (.refl _) rfl)<|s_mov (.int .i64 r_42) rfl<|dk<|sr<|s_mov (.int .i64 r_42) rfl<|s_q (.bool (decide (r_42 < 0))) rfl rfl rfl<|dk<|?_
    rcases oi hc1 with ⟨c44,hc1⟩ | ⟨c44,hc1⟩
    ·refine w_condt rfl c44<|sr<|s_mov (.int .i64 (-1)) rfl<|dk<|w_ret<|?_;obtain rfl:=os hc1;obtain rfl:=os hf;exact r_flat ⟨trivial,trivial⟩ rfl (.refl _)
    ·refine w_condf rfl (bf c44)<|w_skip<|k_blk<|k_seq<|w_reg<|s_mov (.int .i64 (i_22:Int)) rfl<|s_q (.int .i64 (w64 ((i_22:Int) + 1))) rfl rfl rfl<|s_mov (.int .i64 (w64 ((i_22:Int) + 1))) rfl<|w_done<|?_;exact k_loopn ⟨(r_42,(i_22 + 1)),hc1⟩ (mul hlt33) ⟨[],[],_,_,rfl,rfl,⟨.refl _,⟨.refl _,⟨.of_eq (congrArg (AV.int _) (w64_incr hlt33 hl41)),trivial⟩⟩⟩,(.refl _)⟩
  ·rintro ⟨left_31,rfl⟩
   refine sr<|s_mov (.int .i64 left_31) rfl<|s_mov (.int .i64 left_31) rfl<|dk<|w_ret<|?_;obtain rfl:=os hf;exact r_flat ⟨trivial,trivial⟩ rfl (.refl _)

/- laws.szRow -/
def c168:ACode :=
 (.seq (.reg (tq 2 (.box 2 (.t 0)) (tm 4 (.c (.int .i64 0)) .done)))
 (.seq (.reg (tq 5 (.faddr 1 (.t 2)) (tq 6 (.load 1 false (.t 5)) (tm 7 (.t 1) (tq 8 (.call 205 [(.t 6),(.t 7)]) (tm 1 (.t 8) .done))))))
 (.seq (.seq (.reg (tm 9 (.t 1) (tq 10 (.bin .lss (.t 9) (.c (.int .i64 0))) .done)))
 (.cond (.t 10) (.seq (.reg (tq 4 (.mov (.c (.int .i64 (-1)))) .done))
 .ret)
 .skip))
 (.seq (.reg (tm 11 (.t 1) (tm 4 (.t 11) .done)))
 .ret))))
theorem fc168:fcomp Tryz.prog Tryz.f168 = some (c168.erase,[.mov (.t 4)],12):=by kernel_rfl
def laws_szRow (a_1:GRow) (left_2:Int):Option Int :=
    (laws_szAtomSS a_1.Cells left_2).bind fun r_3 =>
    if (decide (r_3 < 0)) then
    some (-1)
    else
    some r_3
theorem w_laws_szRow (a_1:GRow) (left_2:Int) (r:Int) (hf:laws_szRow a_1 left_2 = some r):CallOK Tryz.prog 168 .flat [(encGRow a_1),(.int .i64 left_2)] (.int .i64 r):=by
 refine CallOK.of_awp mixed Tryz.func168 fc168 nle ?_;rw [argT_eq];unfold laws_szRow at hf;unfold c168;refine (show awp Tryz.prog false 0 _ (ofL [(0,(encGRow a_1)),(1,(.int .i64 left_2))]) [] _ from ?_);refine sr<|s_do (o_box (j:=0) (c:=(.agg [(.int .i64 a_1.Id),(.lst 1 (a_1.Cells.map (encL 3 encGAtom)))])) rfl trivial rfl rfl)<|s_mov (.int .i64 0) rfl<|dk<|sr<|?_
 obtain ⟨r_3,er4,hf⟩:=ob hf
 refine s_q (.ptr 0 0 1) rfl trivial rfl<|s_q (.lst 1 (a_1.Cells.map (encL 3 encGAtom))) rfl nle rfl<|s_mov (.int .i64 left_2) rfl<|s_do (o_call (w_laws_szAtomSS _ _ _ er4) rfl (.refl _) rfl)<|s_mov (.int .i64 r_3) rfl<|dk<|awp_seq<|sr<|s_mov (.int .i64 r_3) rfl<|s_q (.bool (decide (r_3 < 0))) rfl rfl rfl<|dk<|?_
 rcases oi hf with ⟨c5,hf⟩ | ⟨c5,hf⟩
 ·refine w_condt rfl c5<|sr<|s_mov (.int .i64 (-1)) rfl<|dk<|w_ret<|?_;obtain rfl:=os hf;exact r_flat ⟨trivial,trivial⟩ rfl (.refl _)
 ·refine w_condf rfl (bf c5)<|w_skip<|k_seq<|sr<|s_mov (.int .i64 r_3) rfl<|s_mov (.int .i64 r_3) rfl<|dk<|w_ret<|?_;obtain rfl:=os hf;exact r_flat ⟨trivial,trivial⟩ rfl (.refl _)

/- laws.szRowS -/
def c119:ACode :=
 (.seq (.reg (tm 4 (.c (.int .i64 0)) .done))
 (.seq (.reg (tm 6 (.t 1) (tm 7 (.t 0) (tq 8 (.len (.t 7)) (tq 9 (.bin .sub (.t 6) (.t 8)) (tm 1 (.t 9) .done))))))
 (.seq (.seq (.reg (tm 10 (.t 1) (tq 11 (.bin .lss (.t 10) (.c (.int .i64 0))) .done)))
 (.cond (.t 11) (.seq (.reg (tq 4 (.mov (.c (.int .i64 (-1)))) .done))
 .ret)
 .skip))
 (.seq (.seq (.reg (tm 5 (.c (.int .i64 0)) .done))
 (.block 0 (.loop (.seq (.seq (.reg (tm 12 (.t 5) (tm 13 (.t 0) (tq 14 (.len (.t 13)) (tq 15 (.bin .lss (.t 12) (.t 14)) .done)))))
 (.cond (.t 15) .skip
 (.exit 0)))
 (.seq (.block 1 (.seq (.reg (tm 18 (.t 0) (tm 19 (.t 5) (tq 20 (.iaddr 2 (.t 18) (.t 19)) (tq 21 (.load 2 true (.t 20)) (tm 22 (.t 1) (tq 23 (.call 168 [(.t 21),(.t 22)]) (tm 1 (.t 23) .done))))))))
 (.seq (.reg (tm 24 (.t 1) (tq 25 (.bin .lss (.t 24) (.c (.int .i64 0))) .done)))
 (.cond (.t 25) (.seq (.reg (tq 4 (.mov (.c (.int .i64 (-1)))) .done))
 .ret)
 .skip))))
 (.reg (tm 16 (.t 5) (tq 17 (.bin .add (.t 16) (.c (.int .i64 1))) (tm 5 (.t 17) .done)))))))))
 (.cut (.seq (.reg (tm 26 (.t 1) (tm 4 (.t 26) .done)))
 .ret))))))
theorem fc119:fcomp Tryz.prog Tryz.f119 = some (c119.erase,[.mov (.t 4)],27):=by kernel_rfl
def laws_szRowS_L1 :List GRow → Int → Option (Fl Int Int)
  | [],left_21 =>
    some (.go left_21)
  | x_39 :: xs,left_21 =>
    (laws_szRow x_39 left_21).bind fun r_42 =>
    if (decide (r_42 < 0)) then
    some (.ret (-1))
    else
    laws_szRowS_L1 xs r_42 

def laws_szRowS (a_1:(List GRow)) (left_2:Int):Option Int :=
    if (decide (w64 (left_2 - (a_1.length:Int)) < 0)) then
    some (-1)
    else
    (laws_szRowS_L1 a_1 (w64 (left_2 - (a_1.length:Int)))).bind fun q => (match q with
    | .ret r => some r
    | .go left_31 =>
    some left_31)
theorem w_laws_szRowS (a_1:(List GRow)) (left_2:Int) (r:Int) (hf:laws_szRowS a_1 left_2 = some r):CallOK Tryz.prog 119 .flat [(.lst 2 (a_1.map encGRow)),(.int .i64 left_2)] (.int .i64 r):=by
 refine CallOK.of_awp mixed Tryz.func119 fc119 nle ?_;rw [argT_eq];unfold laws_szRowS at hf;unfold c119;refine (show awp Tryz.prog false 0 _ (ofL [(0,(.lst 2 (a_1.map encGRow))),(1,(.int .i64 left_2))]) [] _ from ?_);refine sr<|s_mov (.int .i64 0) rfl<|dk<|sr<|s_mov (.int .i64 left_2) rfl<|s_mov (.lst 2 (a_1.map encGRow)) rfl<|s_dof (o_len (enc:=encGRow) rfl) fun hl3 => s_q (.int .i64 (w64 (left_2 - (a_1.length:Int)))) rfl rfl rfl<|s_mov (.int .i64 (w64 (left_2 - (a_1.length:Int)))) rfl<|dk<|awp_seq<|sr<|s_mov (.int .i64 (w64 (left_2 - (a_1.length:Int)))) rfl<|s_q (.bool (decide (w64 (left_2 - (a_1.length:Int)) < 0))) rfl rfl rfl<|?_
 refine dk<|?_
 rcases oi hf with ⟨c4,hf⟩ | ⟨c4,hf⟩
 ·refine w_condt rfl c4<|sr<|s_mov (.int .i64 (-1)) rfl<|dk<|w_ret<|?_;obtain rfl:=os hf;exact r_flat ⟨trivial,trivial⟩ rfl (.refl _)
 ·refine w_condf rfl (bf c4)<|w_skip<|k_seq<|awp_seq<|sr<|s_mov (.int .i64 0) rfl<|dk<|?_
  obtain ⟨p32,hb1,hf⟩:=ob hf
  refine awp_cutx (X:={q:Int // p32 = .go q}) (fun q => ([(1,(.int .i64 q.1))],[])) ?_ ?_
  ·refine awp_loop (X:={q:(Int × Nat) // laws_szRowS_L1 (a_1.drop q.2) q.1 = some p32}) (fun q => ([(0,(.lst 2 (a_1.map encGRow))),(1,(.int .i64 q.1.1)),(5,(.int .i64 (q.1.2:Int)))],[])) (fun q => a_1.length - q.1.2) ⟨(w64 (left_2 - (a_1.length:Int)),0),hb1⟩ ⟨[],[],_,_,rfl,rfl,⟨.refl _,⟨.refl _,⟨.refl _,trivial⟩⟩⟩,(.refl _)⟩ ?_
   rintro ⟨⟨left_21,i_22⟩,hc1⟩
   have hc1:laws_szRowS_L1 (a_1.drop i_22) left_21 = some p32:=hc1
   refine (show awp Tryz.prog false 0 _ (ofL [(0,(.lst 2 (a_1.map encGRow))),(1,(.int .i64 left_21)),(5,(.int .i64 (i_22:Int)))]) [] _ from ?_)
   rcases dropc a_1 i_22 with ⟨hie35,hd38⟩ | ⟨hlt33,x_39,hx34,hd38⟩
   ·rw [hd38,laws_szRowS_L1.eq_1] at hc1
    have hq37:=dlf hie35
    refine awp_seq<|sr<|s_mov (.int .i64 (i_22:Int)) rfl<|s_mov (.lst 2 (a_1.map encGRow)) rfl<|s_dof (o_len (enc:=encGRow) rfl) fun hl40 => s_q (.bool (decide ((i_22:Int) < (a_1.length:Int)))) rfl rfl rfl<|dk<|w_condf rfl hq37<|w_exit<|k_seqx<|k_loopx<|k_blkx<|?_;obtain rfl:=os hc1;exact k_cutn ⟨_,rfl⟩ ⟨[],[],_,_,rfl,rfl,⟨.refl _,trivial⟩,(.refl _)⟩
   ·rw [hd38,laws_szRowS_L1.eq_2] at hc1
    have hq37:=dlt hlt33
    refine awp_seq<|sr<|s_mov (.int .i64 (i_22:Int)) rfl<|s_mov (.lst 2 (a_1.map encGRow)) rfl<|s_dof (o_len (enc:=encGRow) rfl) fun hl41 => s_q (.bool (decide ((i_22:Int) < (a_1.length:Int)))) rfl rfl rfl<|dk<|w_condt rfl hq37<|w_skip<|k_seq<|awp_seq<|w_blk<|sr<|?_
    obtain ⟨r_42,er43,hc1⟩:=ob hc1
    refine s_mov (.lst 2 (a_1.map encGRow)) rfl<|s_mov (.int .i64 (i_22:Int)) rfl<|s_do (o_iaddrn (enc:=encGRow) rfl rfl hx34)<|s_q (encGRow x_39) rfl nle rfl<|s_mov (.int .i64 left_21) rfl<|s_do (o_call (w_laws_szRow _ _ _ er43) rfl (.refl _) rfl)<|s_mov (.int .i64 r_42) rfl<|dk<|sr<|s_mov (.int .i64 r_42) rfl<|s_q (.bool (decide (r_42 < 0))) rfl rfl rfl<|dk<|?_
    rcases oi hc1 with ⟨c44,hc1⟩ | ⟨c44,hc1⟩
    ·refine w_condt rfl c44<|sr<|s_mov (.int .i64 (-1)) rfl<|dk<|w_ret<|?_;obtain rfl:=os hc1;obtain rfl:=os hf;exact r_flat ⟨trivial,trivial⟩ rfl (.refl _)
    ·refine w_condf rfl (bf c44)<|w_skip<|k_blk<|k_seq<|w_reg<|s_mov (.int .i64 (i_22:Int)) rfl<|s_q (.int .i64 (w64 ((i_22:Int) + 1))) rfl rfl rfl<|s_mov (.int .i64 (w64 ((i_22:Int) + 1))) rfl<|w_done<|?_;exact k_loopn ⟨(r_42,(i_22 + 1)),hc1⟩ (mul hlt33) ⟨[],[],_,_,rfl,rfl,⟨.refl _,⟨.refl _,⟨.of_eq (congrArg (AV.int _) (w64_incr hlt33 hl41)),trivial⟩⟩⟩,(.refl _)⟩
  ·rintro ⟨left_31,rfl⟩
   refine sr<|s_mov (.int .i64 left_31) rfl<|s_mov (.int .i64 left_31) rfl<|dk<|w_ret<|?_;obtain rfl:=os hf;exact r_flat ⟨trivial,trivial⟩ rfl (.refl _)

/- laws.szRowSS -/
def c51:ACode :=
 (.seq (.reg (tm 4 (.c (.int .i64 0)) .done))
 (.seq (.reg (tm 6 (.t 1) (tm 7 (.t 0) (tq 8 (.len (.t 7)) (tq 9 (.bin .sub (.t 6) (.t 8)) (tm 1 (.t 9) .done))))))
 (.seq (.seq (.reg (tm 10 (.t 1) (tq 11 (.bin .lss (.t 10) (.c (.int .i64 0))) .done)))
 (.cond (.t 11) (.seq (.reg (tq 4 (.mov (.c (.int .i64 (-1)))) .done))
 .ret)
 .skip))
 (.seq (.seq (.reg (tm 5 (.c (.int .i64 0)) .done))
 (.block 0 (.loop (.seq (.seq (.reg (tm 12 (.t 5) (tm 13 (.t 0) (tq 14 (.len (.t 13)) (tq 15 (.bin .lss (.t 12) (.t 14)) .done)))))
 (.cond (.t 15) .skip
 (.exit 0)))
 (.seq (.block 1 (.seq (.reg (tm 18 (.t 0) (tm 19 (.t 5) (tq 20 (.iaddr 1 (.t 18) (.t 19)) (tq 21 (.load 1 false (.t 20)) (tm 22 (.t 1) (tq 23 (.call 119 [(.t 21),(.t 22)]) (tm 1 (.t 23) .done))))))))
 (.seq (.reg (tm 24 (.t 1) (tq 25 (.bin .lss (.t 24) (.c (.int .i64 0))) .done)))
 (.cond (.t 25) (.seq (.reg (tq 4 (.mov (.c (.int .i64 (-1)))) .done))
 .ret)
 .skip))))
 (.reg (tm 16 (.t 5) (tq 17 (.bin .add (.t 16) (.c (.int .i64 1))) (tm 5 (.t 17) .done)))))))))
 (.cut (.seq (.reg (tm 26 (.t 1) (tm 4 (.t 26) .done)))
 .ret))))))
theorem fc51:fcomp Tryz.prog Tryz.f51 = some (c51.erase,[.mov (.t 4)],27):=by kernel_rfl
def laws_szRowSS_L1 :List (List GRow) → Int → Option (Fl Int Int)
  | [],left_21 =>
    some (.go left_21)
  | x_39 :: xs,left_21 =>
    (laws_szRowS x_39 left_21).bind fun r_42 =>
    if (decide (r_42 < 0)) then
    some (.ret (-1))
    else
    laws_szRowSS_L1 xs r_42 

def laws_szRowSS (a_1:(List (List GRow))) (left_2:Int):Option Int :=
    if (decide (w64 (left_2 - (a_1.length:Int)) < 0)) then
    some (-1)
    else
    (laws_szRowSS_L1 a_1 (w64 (left_2 - (a_1.length:Int)))).bind fun q => (match q with
    | .ret r => some r
    | .go left_31 =>
    some left_31)
theorem w_laws_szRowSS (a_1:(List (List GRow))) (left_2:Int) (r:Int) (hf:laws_szRowSS a_1 left_2 = some r):CallOK Tryz.prog 51 .flat [(.lst 1 (a_1.map (encL 2 encGRow))),(.int .i64 left_2)] (.int .i64 r):=by
 refine CallOK.of_awp mixed Tryz.func51 fc51 nle ?_;rw [argT_eq];unfold laws_szRowSS at hf;unfold c51;refine (show awp Tryz.prog false 0 _ (ofL [(0,(.lst 1 (a_1.map (encL 2 encGRow)))),(1,(.int .i64 left_2))]) [] _ from ?_);refine sr<|s_mov (.int .i64 0) rfl<|dk<|sr<|s_mov (.int .i64 left_2) rfl<|s_mov (.lst 1 (a_1.map (encL 2 encGRow))) rfl<|s_dof (o_len (enc:=(encL 2 encGRow)) rfl) fun hl3 => s_q (.int .i64 (w64 (left_2 - (a_1.length:Int)))) rfl rfl rfl<|s_mov (.int .i64 (w64 (left_2 - (a_1.length:Int)))) rfl<|dk<|awp_seq<|sr<|s_mov (.int .i64 (w64 (left_2 - (a_1.length:Int)))) rfl<|s_q (.bool (decide (w64 (left_2 - (a_1.length:Int)) < 0))) rfl rfl rfl<|?_
 refine dk<|?_
 rcases oi hf with ⟨c4,hf⟩ | ⟨c4,hf⟩
 ·refine w_condt rfl c4<|sr<|s_mov (.int .i64 (-1)) rfl<|dk<|w_ret<|?_;obtain rfl:=os hf;exact r_flat ⟨trivial,trivial⟩ rfl (.refl _)
 ·refine w_condf rfl (bf c4)<|w_skip<|k_seq<|awp_seq<|sr<|s_mov (.int .i64 0) rfl<|dk<|?_
  obtain ⟨p32,hb1,hf⟩:=ob hf
  refine awp_cutx (X:={q:Int // p32 = .go q}) (fun q => ([(1,(.int .i64 q.1))],[])) ?_ ?_
  ·refine awp_loop (X:={q:(Int × Nat) // laws_szRowSS_L1 (a_1.drop q.2) q.1 = some p32}) (fun q => ([(0,(.lst 1 (a_1.map (encL 2 encGRow)))),(1,(.int .i64 q.1.1)),(5,(.int .i64 (q.1.2:Int)))],[])) (fun q => a_1.length - q.1.2) ⟨(w64 (left_2 - (a_1.length:Int)),0),hb1⟩ ⟨[],[],_,_,rfl,rfl,⟨.refl _,⟨.refl _,⟨.refl _,trivial⟩⟩⟩,(.refl _)⟩ ?_
   rintro ⟨⟨left_21,i_22⟩,hc1⟩
   have hc1:laws_szRowSS_L1 (a_1.drop i_22) left_21 = some p32:=hc1
   refine (show awp Tryz.prog false 0 _ (ofL [(0,(.lst 1 (a_1.map (encL 2 encGRow)))),(1,(.int .i64 left_21)),(5,(.int .i64 (i_22:Int)))]) [] _ from ?_)
   rcases dropc a_1 i_22 with ⟨hie35,hd38⟩ | ⟨hlt33,x_39,hx34,hd38⟩
   ·rw [hd38,laws_szRowSS_L1.eq_1] at hc1
    have hq37:=dlf hie35
    refine awp_seq<|sr<|s_mov (.int .i64 (i_22:Int)) rfl<|s_mov (.lst 1 (a_1.map (encL 2 encGRow))) rfl<|s_dof (o_len (enc:=(encL 2 encGRow)) rfl) fun hl40 => s_q (.bool (decide ((i_22:Int) < (a_1.length:Int)))) rfl rfl rfl<|dk<|w_condf rfl hq37<|w_exit<|k_seqx<|k_loopx<|k_blkx<|?_;obtain rfl:=os hc1;exact k_cutn ⟨_,rfl⟩ ⟨[],[],_,_,rfl,rfl,⟨.refl _,trivial⟩,(.refl _)⟩
   ·rw [hd38,laws_szRowSS_L1.eq_2] at hc1
    have hq37:=dlt hlt33
    refine awp_seq<|sr<|s_mov (.int .i64 (i_22:Int)) rfl<|s_mov (.lst 1 (a_1.map (encL 2 encGRow))) rfl<|s_dof (o_len (enc:=(encL 2 encGRow)) rfl) fun hl41 => s_q (.bool (decide ((i_22:Int) < (a_1.length:Int)))) rfl rfl rfl<|dk<|w_condt rfl hq37<|w_skip<|k_seq<|awp_seq<|w_blk<|sr<|?_
    obtain ⟨r_42,er43,hc1⟩:=ob hc1
    refine s_mov (.lst 1 (a_1.map (encL 2 encGRow))) rfl<|s_mov (.int .i64 (i_22:Int)) rfl<|s_do (o_iaddrn (enc:=(encL 2 encGRow)) rfl rfl hx34)<|s_q (.lst 2 (x_39.map encGRow)) rfl ⟨rfl,rfl⟩ rfl<|s_mov (.int .i64 left_21) rfl<|s_do (o_call (w_laws_szRowS _ _ _ er43) rfl (.refl _) rfl)<|s_mov (.int .i64 r_42) rfl<|dk<|sr<|s_mov (.int .i64 r_42) rfl<|s_q (.bool (decide (r_42 < 0))) rfl rfl rfl<|dk<|?_
    rcases oi hc1 with ⟨c44,hc1⟩ | ⟨c44,hc1⟩
    ·refine w_condt rfl c44<|sr<|s_mov (.int .i64 (-1)) rfl<|dk<|w_ret<|?_;obtain rfl:=os hc1;obtain rfl:=os hf;exact r_flat ⟨trivial,trivial⟩ rfl (.refl _)
    ·refine w_condf rfl (bf c44)<|w_skip<|k_blk<|k_seq<|w_reg<|s_mov (.int .i64 (i_22:Int)) rfl<|s_q (.int .i64 (w64 ((i_22:Int) + 1))) rfl rfl rfl<|s_mov (.int .i64 (w64 ((i_22:Int) + 1))) rfl<|w_done<|?_;exact k_loopn ⟨(r_42,(i_22 + 1)),hc1⟩ (mul hlt33) ⟨[],[],_,_,rfl,rfl,⟨.refl _,⟨.refl _,⟨.of_eq (congrArg (AV.int _) (w64_incr hlt33 hl41)),trivial⟩⟩⟩,(.refl _)⟩
  ·rintro ⟨left_31,rfl⟩
   refine sr<|s_mov (.int .i64 left_31) rfl<|s_mov (.int .i64 left_31) rfl<|dk<|w_ret<|?_;obtain rfl:=os hf;exact r_flat ⟨trivial,trivial⟩ rfl (.refl _)

/- laws.szStore -/
def c13:ACode :=
 (.seq (.reg (tq 2 (.box 2 (.t 0)) (tm 4 (.c (.int .i64 0)) .done)))
 (.seq (.reg (tq 5 (.faddr 0 (.t 2)) (tq 6 (.load 1 false (.t 5)) (tm 7 (.t 1) (tq 8 (.call 51 [(.t 6),(.t 7)]) (tm 1 (.t 8) .done))))))
 (.seq (.seq (.reg (tm 9 (.t 1) (tq 10 (.bin .lss (.t 9) (.c (.int .i64 0))) .done)))
 (.cond (.t 10) (.seq (.reg (tq 4 (.mov (.c (.int .i64 (-1)))) .done))
 .ret)
 .skip))
 (.seq (.reg (tm 11 (.t 1) (tm 4 (.t 11) .done)))
 .ret))))
theorem fc13:fcomp Tryz.prog Tryz.f13 = some (c13.erase,[.mov (.t 4)],12):=by kernel_rfl
def laws_szStore (a_1:GStore) (left_2:Int):Option Int :=
    (laws_szRowSS a_1.Tables left_2).bind fun r_3 =>
    if (decide (r_3 < 0)) then
    some (-1)
    else
    some r_3
theorem w_laws_szStore (a_1:GStore) (left_2:Int) (r:Int) (hf:laws_szStore a_1 left_2 = some r):CallOK Tryz.prog 13 .flat [(encGStore a_1),(.int .i64 left_2)] (.int .i64 r):=by
 refine CallOK.of_awp mixed Tryz.func13 fc13 nle ?_;rw [argT_eq];unfold laws_szStore at hf;unfold c13;refine (show awp Tryz.prog false 0 _ (ofL [(0,(encGStore a_1)),(1,(.int .i64 left_2))]) [] _ from ?_);refine sr<|s_do (o_box (j:=0) (c:=(.agg [(.lst 1 (a_1.Tables.map (encL 2 encGRow))),(.int .i64 a_1.Next)])) rfl trivial rfl rfl)<|s_mov (.int .i64 0) rfl<|dk<|sr<|?_
 obtain ⟨r_3,er4,hf⟩:=ob hf
 refine s_q (.ptr 0 0 0) rfl trivial rfl<|s_q (.lst 1 (a_1.Tables.map (encL 2 encGRow))) rfl nle rfl<|s_mov (.int .i64 left_2) rfl<|s_do (o_call (w_laws_szRowSS _ _ _ er4) rfl (.refl _) rfl)<|s_mov (.int .i64 r_3) rfl<|dk<|awp_seq<|sr<|s_mov (.int .i64 r_3) rfl<|s_q (.bool (decide (r_3 < 0))) rfl rfl rfl<|dk<|?_
 rcases oi hf with ⟨c5,hf⟩ | ⟨c5,hf⟩
 ·refine w_condt rfl c5<|sr<|s_mov (.int .i64 (-1)) rfl<|dk<|w_ret<|?_;obtain rfl:=os hf;exact r_flat ⟨trivial,trivial⟩ rfl (.refl _)
 ·refine w_condf rfl (bf c5)<|w_skip<|k_seq<|sr<|s_mov (.int .i64 r_3) rfl<|s_mov (.int .i64 r_3) rfl<|dk<|w_ret<|?_;obtain rfl:=os hf;exact r_flat ⟨trivial,trivial⟩ rfl (.refl _)

/- laws.toColumn -/
def c206:ACode :=
 (.seq (.reg (tq 1 (.box 8 (.t 0)) (tq 2 (.box 8 (.c (.agg [(.str []),(.int .i64 0),(.int .i64 0),(.int .i64 0),(.int .i64 0),(.int .i64 0),(.str []),(.bool false)]))) .done)))
 (.seq (.reg (tq 3 (.box 8 (.c (.agg [(.str []),(.int .i64 0),(.int .i64 0),(.int .i64 0),(.int .i64 0),(.int .i64 0),(.str []),(.bool false)]))) .done))
 (.seq (.reg (tq 4 (.faddr 0 (.t 1)) (tq 5 (.load 1 false (.t 4)) (tq 6 (.faddr 0 (.t 3)) (.q ⟨none,none,.store 1 (.t 6) (.t 5)⟩
 .done)))))
 (.seq (.reg (tq 7 (.faddr 1 (.t 1)) (tq 8 (.load 1 false (.t 7)) (tq 9 (.faddr 1 (.t 3)) (.q ⟨none,none,.store 1 (.t 9) (.t 8)⟩
 .done)))))
 (.seq (.reg (tq 10 (.faddr 2 (.t 1)) (tq 11 (.load 1 false (.t 10)) (tq 12 (.faddr 2 (.t 3)) (.q ⟨none,none,.store 1 (.t 12) (.t 11)⟩
 .done)))))
 (.seq (.reg (tq 13 (.faddr 3 (.t 1)) (tq 14 (.load 1 false (.t 13)) (tq 15 (.faddr 3 (.t 3)) (.q ⟨none,none,.store 1 (.t 15) (.t 14)⟩
 .done)))))
 (.seq (.reg (tq 16 (.faddr 4 (.t 1)) (tq 17 (.load 1 false (.t 16)) (tq 18 (.faddr 4 (.t 3)) (.q ⟨none,none,.store 1 (.t 18) (.t 17)⟩
 .done)))))
 (.seq (.reg (tq 19 (.faddr 5 (.t 1)) (tq 20 (.load 1 false (.t 19)) (tq 21 (.faddr 5 (.t 3)) (.q ⟨none,none,.store 1 (.t 21) (.t 20)⟩
 .done)))))
 (.seq (.reg (tq 22 (.faddr 6 (.t 1)) (tq 23 (.load 1 false (.t 22)) (tq 24 (.faddr 6 (.t 3)) (.q ⟨none,none,.store 1 (.t 24) (.t 23)⟩
 .done)))))
 (.seq (.reg (tq 25 (.faddr 7 (.t 1)) (tq 26 (.load 1 false (.t 25)) (tq 27 (.faddr 7 (.t 3)) (.q ⟨none,none,.store 1 (.t 27) (.t 26)⟩
 .done)))))
 (.seq (.reg (tq 28 (.load 8 true (.t 3)) (.q ⟨none,none,.store 8 (.t 2) (.t 28)⟩
 .done)))
 .ret)))))))))))
theorem fc206:fcomp Tryz.prog Tryz.f206 = some (c206.erase,[.load 8 true (.t 2)],29):=by kernel_rfl
def laws_toColumn (a_1:GColumn):Option GColumn :=
    some a_1
theorem w_laws_toColumn (a_1:GColumn) (r:GColumn) (hf:laws_toColumn a_1 = some r):CallOK Tryz.prog 206 .flat [(encGColumn a_1)] (encGColumn r):=by
 refine CallOK.of_awp mixed Tryz.func206 fc206 nle ?_;rw [argT_eq];unfold laws_toColumn at hf;unfold c206;refine (show awp Tryz.prog false 0 _ (ofL [(0,(encGColumn a_1))]) [] _ from ?_);refine sr<|s_do (o_box (j:=0) (c:=(.agg [(.str a_1.Name),(.int .i64 a_1.Kind),(.int .i64 a_1.Min),(.int .i64 a_1.Max),(.int .i64 a_1.Low),(.int .i64 a_1.High),(.str a_1.Ref),(.bool a_1.Strong)])) rfl trivial rfl rfl)<|s_do (o_box (j:=1) (c:=(.agg [(.str []),(.int .i64 0),(.int .i64 0),(.int .i64 0),(.int .i64 0),(.int .i64 0),(.str []),(.bool false)])) rfl trivial rfl rfl)<|dk<|sr<|s_do (o_box (j:=2) (c:=(.agg [(.str []),(.int .i64 0),(.int .i64 0),(.int .i64 0),(.int .i64 0),(.int .i64 0),(.str []),(.bool false)])) rfl trivial rfl rfl)<|?_
 refine dk<|sr<|s_q (.ptr 0 0 0) rfl trivial rfl<|s_q (.str a_1.Name) rfl nle rfl<|s_q (.ptr 2 0 0) rfl trivial rfl<|s_do0 (o_storebox (v:=(.str a_1.Name)) (y':=(.agg [(.str a_1.Name),(.int .i64 0),(.int .i64 0),(.int .i64 0),(.int .i64 0),(.int .i64 0),(.str []),(.bool false)])) rfl rfl rfl trivial ⟨rfl,nle⟩ ⟨⟨rfl,trivial⟩,trivial⟩ rfl)<|dk<|sr<|s_q (.ptr 0 0 1) rfl trivial rfl<|s_q (.int .i64 a_1.Kind) rfl nle rfl<|s_q (.ptr 2 0 1) rfl trivial rfl<|s_do0 (o_storebox (v:=(.int .i64 a_1.Kind)) (y':=(.agg [(.str a_1.Name),(.int .i64 a_1.Kind),(.int .i64 0),(.int .i64 0),(.int .i64 0),(.int .i64 0),(.str []),(.bool false)])) rfl rfl rfl trivial ⟨rfl,nle⟩ ⟨⟨rfl,trivial⟩,trivial⟩ rfl)<|?_
 refine dk<|sr<|s_q (.ptr 0 0 2) rfl trivial rfl<|s_q (.int .i64 a_1.Min) rfl nle rfl<|s_q (.ptr 2 0 2) rfl trivial rfl<|s_do0 (o_storebox (v:=(.int .i64 a_1.Min)) (y':=(.agg [(.str a_1.Name),(.int .i64 a_1.Kind),(.int .i64 a_1.Min),(.int .i64 0),(.int .i64 0),(.int .i64 0),(.str []),(.bool false)])) rfl rfl rfl trivial ⟨rfl,nle⟩ ⟨⟨rfl,trivial⟩,trivial⟩ rfl)<|dk<|sr<|s_q (.ptr 0 0 3) rfl trivial rfl<|s_q (.int .i64 a_1.Max) rfl nle rfl<|s_q (.ptr 2 0 3) rfl trivial rfl<|s_do0 (o_storebox (v:=(.int .i64 a_1.Max)) (y':=(.agg [(.str a_1.Name),(.int .i64 a_1.Kind),(.int .i64 a_1.Min),(.int .i64 a_1.Max),(.int .i64 0),(.int .i64 0),(.str []),(.bool false)])) rfl rfl rfl trivial ⟨rfl,nle⟩ ⟨⟨rfl,trivial⟩,trivial⟩ rfl)<|?_
 refine dk<|sr<|s_q (.ptr 0 0 4) rfl trivial rfl<|s_q (.int .i64 a_1.Low) rfl nle rfl<|s_q (.ptr 2 0 4) rfl trivial rfl<|s_do0 (o_storebox (v:=(.int .i64 a_1.Low)) (y':=(.agg [(.str a_1.Name),(.int .i64 a_1.Kind),(.int .i64 a_1.Min),(.int .i64 a_1.Max),(.int .i64 a_1.Low),(.int .i64 0),(.str []),(.bool false)])) rfl rfl rfl trivial ⟨rfl,nle⟩ ⟨⟨rfl,trivial⟩,trivial⟩ rfl)<|dk<|sr<|s_q (.ptr 0 0 5) rfl trivial rfl<|s_q (.int .i64 a_1.High) rfl nle rfl<|s_q (.ptr 2 0 5) rfl trivial rfl<|s_do0 (o_storebox (v:=(.int .i64 a_1.High)) (y':=(.agg [(.str a_1.Name),(.int .i64 a_1.Kind),(.int .i64 a_1.Min),(.int .i64 a_1.Max),(.int .i64 a_1.Low),(.int .i64 a_1.High),(.str []),(.bool false)])) rfl rfl rfl trivial ⟨rfl,nle⟩ ⟨⟨rfl,trivial⟩,trivial⟩ rfl)<|?_
 refine dk<|sr<|s_q (.ptr 0 0 6) rfl trivial rfl<|s_q (.str a_1.Ref) rfl nle rfl<|s_q (.ptr 2 0 6) rfl trivial rfl<|s_do0 (o_storebox (v:=(.str a_1.Ref)) (y':=(.agg [(.str a_1.Name),(.int .i64 a_1.Kind),(.int .i64 a_1.Min),(.int .i64 a_1.Max),(.int .i64 a_1.Low),(.int .i64 a_1.High),(.str a_1.Ref),(.bool false)])) rfl rfl rfl trivial ⟨rfl,nle⟩ ⟨⟨rfl,trivial⟩,trivial⟩ rfl)<|dk<|sr<|s_q (.ptr 0 0 7) rfl trivial rfl<|s_q (.bool a_1.Strong) rfl nle rfl<|s_q (.ptr 2 0 7) rfl trivial rfl<|s_do0 (o_storebox (v:=(.bool a_1.Strong)) (y':=(.agg [(.str a_1.Name),(.int .i64 a_1.Kind),(.int .i64 a_1.Min),(.int .i64 a_1.Max),(.int .i64 a_1.Low),(.int .i64 a_1.High),(.str a_1.Ref),(.bool a_1.Strong)])) rfl rfl rfl trivial ⟨rfl,nle⟩ ⟨⟨rfl,trivial⟩,trivial⟩ rfl)<|?_
 refine dk<|sr<|s_q (.agg [(.str a_1.Name),(.int .i64 a_1.Kind),(.int .i64 a_1.Min),(.int .i64 a_1.Max),(.int .i64 a_1.Low),(.int .i64 a_1.High),(.str a_1.Ref),(.bool a_1.Strong)]) rfl nle rfl<|s_do0 (o_storebox (v:=(.agg [(.str a_1.Name),(.int .i64 a_1.Kind),(.int .i64 a_1.Min),(.int .i64 a_1.Max),(.int .i64 a_1.Low),(.int .i64 a_1.High),(.str a_1.Ref),(.bool a_1.Strong)])) (y':=(.agg [(.str a_1.Name),(.int .i64 a_1.Kind),(.int .i64 a_1.Min),(.int .i64 a_1.Max),(.int .i64 a_1.Low),(.int .i64 a_1.High),(.str a_1.Ref),(.bool a_1.Strong)])) rfl rfl rfl trivial ⟨rfl,nle⟩ ⟨⟨rfl,trivial⟩,⟨⟨rfl,trivial⟩,⟨⟨rfl,trivial⟩,⟨⟨rfl,trivial⟩,⟨⟨rfl,trivial⟩,⟨⟨rfl,trivial⟩,⟨⟨rfl,trivial⟩,⟨⟨rfl,trivial⟩,trivial⟩⟩⟩⟩⟩⟩⟩⟩ rfl)<|?_
 refine dk<|w_ret<|?_;obtain rfl:=os hf;exact r_flat ⟨nle,trivial⟩ rfl (.refl _)

/- laws.toColumnS -/
def c172:ACode :=
 (.seq (.reg (tm 2 (.c .nil) .done))
 (.seq (.reg (tm 5 (.t 0) (tq 6 (.len (.t 5)) (tq 7 (.mkslice 8 80 (.agg [(.str []),(.int .i64 0),(.int .i64 0),(.int .i64 0),(.int .i64 0),(.int .i64 0),(.str []),(.bool false)]) (.t 6) (.t 6)) (tm 3 (.t 7) .done)))))
 (.seq (.seq (.reg (tm 4 (.c (.int .i64 0)) .done))
 (.block 0 (.loop (.seq (.seq (.reg (tm 8 (.t 4) (tm 9 (.t 0) (tq 10 (.len (.t 9)) (tq 11 (.bin .lss (.t 8) (.t 10)) .done)))))
 (.cond (.t 11) .skip
 (.exit 0)))
 (.seq (.block 1 (.reg (tm 14 (.t 3) (tm 15 (.t 4) (tm 16 (.t 0) (tm 17 (.t 4) (tq 18 (.iaddr 8 (.t 16) (.t 17)) (tq 19 (.load 8 true (.t 18)) (tq 20 (.call 206 [(.t 19)]) (tq 21 (.iaddr 8 (.t 14) (.t 15)) (.q ⟨none,none,.store 8 (.t 21) (.t 20)⟩
 .done)))))))))))
 (.reg (tm 12 (.t 4) (tq 13 (.bin .add (.t 12) (.c (.int .i64 1))) (tm 4 (.t 13) .done)))))))))
 (.cut (.seq (.reg (tm 22 (.t 3) (tm 2 (.t 22) .done)))
 .ret)))))
theorem fc172:fcomp Tryz.prog Tryz.f172 = some (c172.erase,[.mov (.t 2)],23):=by kernel_rfl
def laws_toColumnS_L1 :List GColumn → Nat → (List GColumn) → Option (List GColumn)
  | [],i_24,out_25 =>
    some out_25
  | x_44 :: xs,i_24,out_25 =>
    (laws_toColumn x_44).bind fun r_47 =>
    if i_24 < out_25.length then
    (out_25[i_24]?).bind fun x_50 =>
    laws_toColumnS_L1 xs (i_24 + 1) (out_25.set i_24 r_47)
    else none

def laws_toColumnS (a_1:(List GColumn)):Option (List GColumn) :=
    if (a_1.length:Int) ≤ 2 ^ 30 then
    (laws_toColumnS_L1 a_1 0 (List.replicate a_1.length (⟨[],0,0,0,0,0,[],false⟩:GColumn))).bind fun out_36 =>
    some out_36
    else none
theorem w_laws_toColumnS (a_1:(List GColumn)) (r:(List GColumn)) (hf:laws_toColumnS a_1 = some r):CallOK Tryz.prog 172 .fresh [(.lst 8 (a_1.map encGColumn))] (.lst 8 (r.map encGColumn)):=by
 refine CallOK.of_awp mixed Tryz.func172 fc172 nle ?_;rw [argT_eq];unfold laws_toColumnS at hf;unfold c172;refine (show awp Tryz.prog true 0 _ (ofL [(0,(.lst 8 (a_1.map encGColumn)))]) [] _ from ?_);refine sr<|s_mov .nil rfl<|dk<|sr<|?_
 obtain ⟨g3,hf⟩:=og hf
 refine s_mov (.lst 8 (a_1.map encGColumn)) rfl<|s_dof (o_len (enc:=encGColumn) rfl) fun hl2 => s_do (o_mkslice (j:=0) (enc:=encGColumn) (m:=a_1.length) (⟨[],0,0,0,0,0,[],false⟩:GColumn) (.refl _) rfl rfl (Int.le_refl _) g3 rfl)<|s_mov (.own 0 0 a_1.length) rfl<|dk<|awp_seq<|sr<|s_mov (.int .i64 0) rfl<|dk<|?_
 obtain ⟨out_36,hb1,hf⟩:=ob hf
 refine awp_cut ([(3,(.own 0 0 out_36.length))],[.row 8 (out_36.map encGColumn)]) ?_ ?_
 ·refine awp_loop (X:={q:(Nat × (List GColumn)) // laws_toColumnS_L1 (a_1.drop q.1) q.1 q.2 = some out_36}) (fun q => ([(0,(.lst 8 (a_1.map encGColumn))),(3,(.own 0 0 q.1.2.length)),(4,(.int .i64 (q.1.1:Int)))],[.row 8 (q.1.2.map encGColumn)])) (fun q => a_1.length - q.1.1) ⟨(0,List.replicate a_1.length (⟨[],0,0,0,0,0,[],false⟩:GColumn)),hb1⟩ ⟨[],[0],_,_,rfl,rfl,⟨.refl _,⟨.of_eq (congrArg (AV.own _ 0) (by simp)),⟨.refl _,trivial⟩⟩⟩,(.refl _)⟩ ?_
  rintro ⟨⟨i_24,out_25⟩,hc1⟩
  have hc1:laws_toColumnS_L1 (a_1.drop i_24) i_24 out_25 = some out_36:=hc1
  refine (show awp Tryz.prog true 0 _ (ofL [(0,(.lst 8 (a_1.map encGColumn))),(3,(.own 0 0 out_25.length)),(4,(.int .i64 (i_24:Int)))]) [.row 8 (out_25.map encGColumn)] _ from ?_)
  rcases dropc a_1 i_24 with ⟨hie40,hd43⟩ | ⟨hlt38,x_44,hx39,hd43⟩
  ·rw [hd43,laws_toColumnS_L1.eq_1] at hc1
   have hq42:=dlf hie40
   refine awp_seq<|sr<|s_mov (.int .i64 (i_24:Int)) rfl<|s_mov (.lst 8 (a_1.map encGColumn)) rfl<|s_dof (o_len (enc:=encGColumn) rfl) fun hl45 => s_q (.bool (decide ((i_24:Int) < (a_1.length:Int)))) rfl rfl rfl<|dk<|w_condf rfl hq42<|w_exit<|k_seqx<|k_loopx<|k_blkx<|?_;obtain rfl:=os hc1;exact ⟨[],[0],_,_,rfl,rfl,⟨.refl _,trivial⟩,(.refl _)⟩
  ·rw [hd43,laws_toColumnS_L1.eq_2] at hc1
   have hq42:=dlt hlt38
   refine awp_seq<|sr<|s_mov (.int .i64 (i_24:Int)) rfl<|s_mov (.lst 8 (a_1.map encGColumn)) rfl<|s_dof (o_len (enc:=encGColumn) rfl) fun hl46 => s_q (.bool (decide ((i_24:Int) < (a_1.length:Int)))) rfl rfl rfl<|dk<|w_condt rfl hq42<|w_skip<|k_seq<|awp_seq<|w_blk<|w_reg<|?_
   obtain ⟨r_47,er48,hc1⟩:=ob hc1
   obtain ⟨g49,hc1⟩:=og hc1
   obtain ⟨x_50,ex51,hc1⟩:=ob hc1
   refine s_mov (.own 0 0 out_25.length) rfl<|s_mov (.int .i64 (i_24:Int)) rfl<|s_mov (.lst 8 (a_1.map encGColumn)) rfl<|s_mov (.int .i64 (i_24:Int)) rfl<|s_do (o_iaddrn (enc:=encGColumn) rfl rfl hx39)<|s_q (encGColumn x_44) rfl nle rfl<|s_do (o_call (w_laws_toColumn _ _ er48) rfl (.refl _) rfl)<|s_do (o_iaddrownn rfl rfl g49 rfl rfl)<|?_;refine s_do0 (o_storerow (v':=(encGColumn r_47)) (e':=r_47) rfl rfl ex51 rfl rfl rfl (by decide) (fun _ => by decide) ⟨rfl,nle⟩ (.refl _) rfl) ?_;refine w_done<|k_blk<|k_seq<|w_reg<|s_mov (.int .i64 (i_24:Int)) rfl<|s_q (.int .i64 (w64 ((i_24:Int) + 1))) rfl rfl rfl<|s_mov (.int .i64 (w64 ((i_24:Int) + 1))) rfl<|w_done<|?_;exact k_loopn ⟨((i_24 + 1),out_25.set i_24 r_47),hc1⟩ (mul hlt38) ⟨[],[0],_,_,rfl,rfl,⟨.refl _,⟨.of_eq (congrArg (AV.own _ 0) (by simp)),⟨.of_eq (congrArg (AV.int _) (w64_incr hlt38 hl46)),trivial⟩⟩⟩,(.refl _)⟩
 ·refine sr<|s_mov (.own 0 0 out_36.length) rfl<|s_mov (.own 0 0 out_36.length) rfl<|dk<|w_ret<|?_;obtain rfl:=os hf;exact r_fresh ⟨trivial,trivial⟩ rfl (by decide) (.of_eq (congrArg (AV.lst _) (tk (enc:=encGColumn) out_36)))

/- laws.toIntS -/
def c173:ACode :=
 (.seq (.reg (tm 2 (.c .nil) .done))
 (.seq (.reg (tm 5 (.t 0) (tq 6 (.len (.t 5)) (tq 7 (.mkslice 1 8 (.int .i64 0) (.t 6) (.t 6)) (tm 3 (.t 7) .done)))))
 (.seq (.seq (.reg (tm 4 (.c (.int .i64 0)) .done))
 (.block 0 (.loop (.seq (.seq (.reg (tm 8 (.t 4) (tm 9 (.t 0) (tq 10 (.len (.t 9)) (tq 11 (.bin .lss (.t 8) (.t 10)) .done)))))
 (.cond (.t 11) .skip
 (.exit 0)))
 (.seq (.block 1 (.reg (tm 14 (.t 3) (tm 15 (.t 4) (tm 16 (.t 0) (tm 17 (.t 4) (tq 18 (.iaddr 1 (.t 16) (.t 17)) (tq 19 (.load 1 false (.t 18)) (tq 20 (.iaddr 1 (.t 14) (.t 15)) (.q ⟨none,none,.store 1 (.t 20) (.t 19)⟩
 .done))))))))))
 (.reg (tm 12 (.t 4) (tq 13 (.bin .add (.t 12) (.c (.int .i64 1))) (tm 4 (.t 13) .done)))))))))
 (.cut (.seq (.reg (tm 21 (.t 3) (tm 2 (.t 21) .done)))
 .ret)))))
theorem fc173:fcomp Tryz.prog Tryz.f173 = some (c173.erase,[.mov (.t 2)],22):=by kernel_rfl
def laws_toIntS_L1 :List Int → Nat → (List Int) → Option (List Int)
  | [],i_20,out_21 =>
    some out_21
  | x_38 :: xs,i_20,out_21 =>
    if i_20 < out_21.length then
    (out_21[i_20]?).bind fun x_42 =>
    laws_toIntS_L1 xs (i_20 + 1) (out_21.set i_20 x_38)
    else none

def laws_toIntS (a_1:(List Int)):Option (List Int) :=
    if (a_1.length:Int) ≤ 2 ^ 30 then
    (laws_toIntS_L1 a_1 0 (List.replicate a_1.length 0)).bind fun out_30 =>
    some out_30
    else none
theorem w_laws_toIntS (a_1:(List Int)) (r:(List Int)) (hf:laws_toIntS a_1 = some r):CallOK Tryz.prog 173 .fresh [(.lst 1 (a_1.map encI))] (.lst 1 (r.map encI)):=by
 refine CallOK.of_awp mixed Tryz.func173 fc173 nle ?_;rw [argT_eq];unfold laws_toIntS at hf;unfold c173;refine (show awp Tryz.prog true 0 _ (ofL [(0,(.lst 1 (a_1.map encI)))]) [] _ from ?_);refine sr<|s_mov .nil rfl<|dk<|sr<|?_
 obtain ⟨g3,hf⟩:=og hf
 refine s_mov (.lst 1 (a_1.map encI)) rfl<|s_dof (o_len (enc:=encI) rfl) fun hl2 => s_do (o_mkslice (j:=0) (enc:=encI) (m:=a_1.length) 0 (.refl _) rfl rfl (Int.le_refl _) g3 rfl)<|s_mov (.own 0 0 a_1.length) rfl<|dk<|awp_seq<|sr<|s_mov (.int .i64 0) rfl<|dk<|?_
 obtain ⟨out_30,hb1,hf⟩:=ob hf
 refine awp_cut ([(3,(.own 0 0 out_30.length))],[.row 1 (out_30.map encI)]) ?_ ?_
 ·refine awp_loop (X:={q:(Nat × (List Int)) // laws_toIntS_L1 (a_1.drop q.1) q.1 q.2 = some out_30}) (fun q => ([(0,(.lst 1 (a_1.map encI))),(3,(.own 0 0 q.1.2.length)),(4,(.int .i64 (q.1.1:Int)))],[.row 1 (q.1.2.map encI)])) (fun q => a_1.length - q.1.1) ⟨(0,List.replicate a_1.length 0),hb1⟩ ⟨[],[0],_,_,rfl,rfl,⟨.refl _,⟨.of_eq (congrArg (AV.own _ 0) (by simp)),⟨.refl _,trivial⟩⟩⟩,(.refl _)⟩ ?_
  rintro ⟨⟨i_20,out_21⟩,hc1⟩
  have hc1:laws_toIntS_L1 (a_1.drop i_20) i_20 out_21 = some out_30:=hc1
  refine (show awp Tryz.prog true 0 _ (ofL [(0,(.lst 1 (a_1.map encI))),(3,(.own 0 0 out_21.length)),(4,(.int .i64 (i_20:Int)))]) [.row 1 (out_21.map encI)] _ from ?_)
  rcases dropc a_1 i_20 with ⟨hie34,hd37⟩ | ⟨hlt32,x_38,hx33,hd37⟩
  ·rw [hd37,laws_toIntS_L1.eq_1] at hc1
   have hq36:=dlf hie34
   refine awp_seq<|sr<|s_mov (.int .i64 (i_20:Int)) rfl<|s_mov (.lst 1 (a_1.map encI)) rfl<|s_dof (o_len (enc:=encI) rfl) fun hl39 => s_q (.bool (decide ((i_20:Int) < (a_1.length:Int)))) rfl rfl rfl<|dk<|w_condf rfl hq36<|w_exit<|k_seqx<|k_loopx<|k_blkx<|?_;obtain rfl:=os hc1;exact ⟨[],[0],_,_,rfl,rfl,⟨.refl _,trivial⟩,(.refl _)⟩
  ·rw [hd37,laws_toIntS_L1.eq_2] at hc1
   have hq36:=dlt hlt32
   refine awp_seq<|sr<|s_mov (.int .i64 (i_20:Int)) rfl<|s_mov (.lst 1 (a_1.map encI)) rfl<|s_dof (o_len (enc:=encI) rfl) fun hl40 => s_q (.bool (decide ((i_20:Int) < (a_1.length:Int)))) rfl rfl rfl<|dk<|w_condt rfl hq36<|w_skip<|k_seq<|awp_seq<|w_blk<|w_reg<|?_
   obtain ⟨g41,hc1⟩:=og hc1
   obtain ⟨x_42,ex43,hc1⟩:=ob hc1
   refine s_mov (.own 0 0 out_21.length) rfl<|s_mov (.int .i64 (i_20:Int)) rfl<|s_mov (.lst 1 (a_1.map encI)) rfl<|s_mov (.int .i64 (i_20:Int)) rfl<|s_do (o_iaddrn (enc:=encI) rfl rfl hx33)<|s_q (.int .i64 x_38) rfl ⟨rfl,rfl⟩ rfl<|s_do (o_iaddrownn rfl rfl g41 rfl rfl)<|?_;refine s_do0 (o_storerow (v':=(.int .i64 x_38)) (e':=x_38) rfl rfl ex43 rfl rfl rfl (by decide) (fun _ => by decide) ⟨rfl,rfl,rfl⟩ (.refl _) rfl) ?_;refine w_done<|k_blk<|k_seq<|w_reg<|s_mov (.int .i64 (i_20:Int)) rfl<|s_q (.int .i64 (w64 ((i_20:Int) + 1))) rfl rfl rfl<|s_mov (.int .i64 (w64 ((i_20:Int) + 1))) rfl<|w_done<|?_;exact k_loopn ⟨((i_20 + 1),out_21.set i_20 x_38),hc1⟩ (mul hlt32) ⟨[],[0],_,_,rfl,rfl,⟨.refl _,⟨.of_eq (congrArg (AV.own _ 0) (by simp)),⟨.of_eq (congrArg (AV.int _) (w64_incr hlt32 hl40)),trivial⟩⟩⟩,(.refl _)⟩
 ·refine sr<|s_mov (.own 0 0 out_30.length) rfl<|s_mov (.own 0 0 out_30.length) rfl<|dk<|w_ret<|?_;obtain rfl:=os hf;exact r_fresh ⟨trivial,trivial⟩ rfl (by decide) (.of_eq (congrArg (AV.lst _) (tk (enc:=encI) out_30)))

/- laws.toTable -/
def c123:ACode :=
 (.seq (.reg (tq 1 (.box 4 (.t 0)) (tq 2 (.box 4 (.c (.agg [(.str []),.nil,.nil,(.bool false)]))) .done)))
 (.seq (.reg (tq 3 (.box 4 (.c (.agg [(.str []),.nil,.nil,(.bool false)]))) .done))
 (.seq (.reg (tq 4 (.faddr 0 (.t 1)) (tq 5 (.load 1 false (.t 4)) (tq 6 (.faddr 0 (.t 3)) (.q ⟨none,none,.store 1 (.t 6) (.t 5)⟩
 .done)))))
 (.seq (.reg (tq 7 (.faddr 1 (.t 1)) (tq 8 (.load 1 false (.t 7)) (tq 9 (.call 172 [(.t 8)]) (tq 10 (.faddr 1 (.t 3)) (.q ⟨none,none,.store 1 (.t 10) (.t 9)⟩
 .done))))))
 (.seq (.reg (tq 11 (.faddr 2 (.t 1)) (tq 12 (.load 1 false (.t 11)) (tq 13 (.call 173 [(.t 12)]) (tq 14 (.faddr 2 (.t 3)) (.q ⟨none,none,.store 1 (.t 14) (.t 13)⟩
 .done))))))
 (.seq (.reg (tq 15 (.faddr 3 (.t 1)) (tq 16 (.load 1 false (.t 15)) (tq 17 (.faddr 3 (.t 3)) (.q ⟨none,none,.store 1 (.t 17) (.t 16)⟩
 .done)))))
 (.seq (.reg (tq 18 (.load 4 true (.t 3)) (.q ⟨none,none,.store 4 (.t 2) (.t 18)⟩
 .done)))
 .ret)))))))
theorem fc123:fcomp Tryz.prog Tryz.f123 = some (c123.erase,[.load 4 true (.t 2)],19):=by kernel_rfl
def laws_toTable (a_1:GTable):Option GTable :=
    (laws_toColumnS a_1.Columns).bind fun r_2 =>
    (laws_toIntS a_1.Unique).bind fun r_4 =>
    some (⟨a_1.Name,r_2,r_4,a_1.Root⟩:GTable)
theorem w_laws_toTable (a_1:GTable) (r:GTable) (hf:laws_toTable a_1 = some r):CallOK Tryz.prog 123 .fresh [(encGTable a_1)] (encGTable r):=by
 refine CallOK.of_awp mixed Tryz.func123 fc123 nle ?_;rw [argT_eq];unfold laws_toTable at hf;unfold c123;refine (show awp Tryz.prog true 0 _ (ofL [(0,(encGTable a_1))]) [] _ from ?_);refine sr<|s_do (o_box (j:=0) (c:=(.agg [(.str a_1.Name),(.lst 8 (a_1.Columns.map encGColumn)),(.lst 1 (a_1.Unique.map encI)),(.bool a_1.Root)])) rfl trivial rfl rfl)<|s_do (o_box (j:=1) (c:=(.agg [(.str []),.nil,.nil,(.bool false)])) rfl trivial rfl rfl)<|dk<|sr<|s_do (o_box (j:=2) (c:=(.agg [(.str []),.nil,.nil,(.bool false)])) rfl trivial rfl rfl)<|dk<|sr<|s_q (.ptr 0 0 0) rfl trivial rfl<|s_q (.str a_1.Name) rfl nle rfl<|s_q (.ptr 2 0 0) rfl trivial rfl<|?_
 refine s_do0 (o_storebox (v:=(.str a_1.Name)) (y':=(.agg [(.str a_1.Name),.nil,.nil,(.bool false)])) rfl rfl rfl trivial ⟨rfl,nle⟩ ⟨⟨rfl,trivial⟩,trivial⟩ rfl)<|dk<|sr<|?_
 obtain ⟨r_2,er3,hf⟩:=ob hf
 refine s_q (.ptr 0 0 1) rfl trivial rfl<|s_q (.lst 8 (a_1.Columns.map encGColumn)) rfl nle rfl<|s_do (o_callf (v:=(.own 3 0 r_2.length)) (h':=[.row 8 (r_2.map encGColumn)]) (w_laws_toColumnS _ _ er3) rfl (.refl _) (by simp only [openV,openVs,List.length_map,List.nil_append,List.append_nil,List.cons_append];rfl))<|s_q (.ptr 2 0 1) rfl trivial rfl<|s_do0 (o_storebox (v:=(.own 3 0 r_2.length)) (y':=(.agg [(.str a_1.Name),(.own 3 0 r_2.length),.nil,(.bool false)])) rfl rfl rfl trivial ⟨rfl,nle⟩ ⟨⟨rfl,trivial⟩,trivial⟩ rfl)<|dk<|sr<|?_
 obtain ⟨r_4,er5,hf⟩:=ob hf
 refine s_q (.ptr 0 0 2) rfl trivial rfl<|s_q (.lst 1 (a_1.Unique.map encI)) rfl nle rfl<|s_do (o_callf (v:=(.own 4 0 r_4.length)) (h':=[.row 1 (r_4.map encI)]) (w_laws_toIntS _ _ er5) rfl (.refl _) (by simp only [openV,openVs,List.length_map,List.nil_append,List.append_nil,List.cons_append];rfl))<|s_q (.ptr 2 0 2) rfl trivial rfl<|s_do0 (o_storebox (v:=(.own 4 0 r_4.length)) (y':=(.agg [(.str a_1.Name),(.own 3 0 r_2.length),(.own 4 0 r_4.length),(.bool false)])) rfl rfl rfl trivial ⟨rfl,nle⟩ ⟨⟨rfl,trivial⟩,trivial⟩ rfl)<|dk<|sr<|s_q (.ptr 0 0 3) rfl trivial rfl<|s_q (.bool a_1.Root) rfl nle rfl<|s_q (.ptr 2 0 3) rfl trivial rfl<|s_do0 (o_storebox (v:=(.bool a_1.Root)) (y':=(.agg [(.str a_1.Name),(.own 3 0 r_2.length),(.own 4 0 r_4.length),(.bool a_1.Root)])) rfl rfl rfl trivial ⟨rfl,nle⟩ ⟨⟨rfl,trivial⟩,trivial⟩ rfl)<|?_
 refine dk<|sr<|s_q (.agg [(.str a_1.Name),(.own 3 0 r_2.length),(.own 4 0 r_4.length),(.bool a_1.Root)]) rfl nle rfl<|s_do0 (o_storebox (v:=(.agg [(.str a_1.Name),(.own 3 0 r_2.length),(.own 4 0 r_4.length),(.bool a_1.Root)])) (y':=(.agg [(.str a_1.Name),(.own 3 0 r_2.length),(.own 4 0 r_4.length),(.bool a_1.Root)])) rfl rfl rfl trivial ⟨rfl,nle⟩ ⟨⟨rfl,trivial⟩,⟨⟨rfl,trivial⟩,⟨⟨rfl,trivial⟩,⟨⟨rfl,trivial⟩,trivial⟩⟩⟩⟩ rfl)<|dk<|w_ret<|?_;obtain rfl:=os hf;exact r_fresh ⟨nle,trivial⟩ rfl (by decide) (.agg (.cons (.refl _) (.cons (.of_eq (congrArg (AV.lst _) (tk (enc:=encGColumn) r_2))) (.cons (.of_eq (congrArg (AV.lst _) (tk (enc:=encI) r_4))) (.cons (.refl _) .nil)))))

/- laws.toTableS -/
def c54:ACode :=
 (.seq (.reg (tm 2 (.c .nil) .done))
 (.seq (.reg (tm 5 (.t 0) (tq 6 (.len (.t 5)) (tq 7 (.mkslice 4 72 (.agg [(.str []),.nil,.nil,(.bool false)]) (.t 6) (.t 6)) (tm 3 (.t 7) .done)))))
 (.seq (.seq (.reg (tm 4 (.c (.int .i64 0)) .done))
 (.block 0 (.loop (.seq (.seq (.reg (tm 8 (.t 4) (tm 9 (.t 0) (tq 10 (.len (.t 9)) (tq 11 (.bin .lss (.t 8) (.t 10)) .done)))))
 (.cond (.t 11) .skip
 (.exit 0)))
 (.seq (.block 1 (.reg (tm 14 (.t 3) (tm 15 (.t 4) (tm 16 (.t 0) (tm 17 (.t 4) (tq 18 (.iaddr 4 (.t 16) (.t 17)) (tq 19 (.load 4 true (.t 18)) (tq 20 (.call 123 [(.t 19)]) (tq 21 (.iaddr 4 (.t 14) (.t 15)) (.q ⟨none,none,.store 4 (.t 21) (.t 20)⟩
 .done)))))))))))
 (.reg (tm 12 (.t 4) (tq 13 (.bin .add (.t 12) (.c (.int .i64 1))) (tm 4 (.t 13) .done)))))))))
 (.cut (.seq (.reg (tm 22 (.t 3) (tm 2 (.t 22) .done)))
 .ret)))))
theorem fc54:fcomp Tryz.prog Tryz.f54 = some (c54.erase,[.mov (.t 2)],23):=by kernel_rfl
def laws_toTableS_L1 :List GTable → Nat → (List GTable) → Option (List GTable)
  | [],i_24,out_25 =>
    some out_25
  | x_44 :: xs,i_24,out_25 =>
    (laws_toTable x_44).bind fun r_47 =>
    if i_24 < out_25.length then
    (out_25[i_24]?).bind fun x_50 =>
    laws_toTableS_L1 xs (i_24 + 1) (out_25.set i_24 r_47)
    else none

def laws_toTableS (a_1:(List GTable)):Option (List GTable) :=
    if (a_1.length:Int) ≤ 2 ^ 30 then
    (laws_toTableS_L1 a_1 0 (List.replicate a_1.length (⟨[],[],[],false⟩:GTable))).bind fun out_36 =>
    some out_36
    else none
theorem w_laws_toTableS (a_1:(List GTable)) (r:(List GTable)) (hf:laws_toTableS a_1 = some r):CallOK Tryz.prog 54 .fresh [(.lst 4 (a_1.map encGTable))] (.lst 4 (r.map encGTable)):=by
 refine CallOK.of_awp mixed Tryz.func54 fc54 nle ?_;rw [argT_eq];unfold laws_toTableS at hf;unfold c54;refine (show awp Tryz.prog true 0 _ (ofL [(0,(.lst 4 (a_1.map encGTable)))]) [] _ from ?_);refine sr<|s_mov .nil rfl<|dk<|sr<|?_
 obtain ⟨g3,hf⟩:=og hf
 refine s_mov (.lst 4 (a_1.map encGTable)) rfl<|s_dof (o_len (enc:=encGTable) rfl) fun hl2 => s_do (o_mkslice (j:=0) (enc:=encGTable) (m:=a_1.length) (⟨[],[],[],false⟩:GTable) (.agg (.cons (.refl _) (.cons (.nil _) (.cons (.nil _) (.cons (.refl _) .nil))))) rfl rfl (Int.le_refl _) g3 rfl)<|s_mov (.own 0 0 a_1.length) rfl<|dk<|awp_seq<|sr<|s_mov (.int .i64 0) rfl<|dk<|?_
 obtain ⟨out_36,hb1,hf⟩:=ob hf
 refine awp_cut ([(3,(.own 0 0 out_36.length))],[.row 4 (out_36.map encGTable)]) ?_ ?_
 ·refine awp_loop (X:={q:(Nat × (List GTable)) // laws_toTableS_L1 (a_1.drop q.1) q.1 q.2 = some out_36}) (fun q => ([(0,(.lst 4 (a_1.map encGTable))),(3,(.own 0 0 q.1.2.length)),(4,(.int .i64 (q.1.1:Int)))],[.row 4 (q.1.2.map encGTable)])) (fun q => a_1.length - q.1.1) ⟨(0,List.replicate a_1.length (⟨[],[],[],false⟩:GTable)),hb1⟩ ⟨[],[0],_,_,rfl,rfl,⟨.refl _,⟨.of_eq (congrArg (AV.own _ 0) (by simp)),⟨.refl _,trivial⟩⟩⟩,(.refl _)⟩ ?_
  rintro ⟨⟨i_24,out_25⟩,hc1⟩
  have hc1:laws_toTableS_L1 (a_1.drop i_24) i_24 out_25 = some out_36:=hc1
  refine (show awp Tryz.prog true 0 _ (ofL [(0,(.lst 4 (a_1.map encGTable))),(3,(.own 0 0 out_25.length)),(4,(.int .i64 (i_24:Int)))]) [.row 4 (out_25.map encGTable)] _ from ?_)
  rcases dropc a_1 i_24 with ⟨hie40,hd43⟩ | ⟨hlt38,x_44,hx39,hd43⟩
  ·rw [hd43,laws_toTableS_L1.eq_1] at hc1
   have hq42:=dlf hie40
   refine awp_seq<|sr<|s_mov (.int .i64 (i_24:Int)) rfl<|s_mov (.lst 4 (a_1.map encGTable)) rfl<|s_dof (o_len (enc:=encGTable) rfl) fun hl45 => s_q (.bool (decide ((i_24:Int) < (a_1.length:Int)))) rfl rfl rfl<|dk<|w_condf rfl hq42<|w_exit<|k_seqx<|k_loopx<|k_blkx<|?_;obtain rfl:=os hc1;exact ⟨[],[0],_,_,rfl,rfl,⟨.refl _,trivial⟩,(.refl _)⟩
  ·rw [hd43,laws_toTableS_L1.eq_2] at hc1
   have hq42:=dlt hlt38
   refine awp_seq<|sr<|s_mov (.int .i64 (i_24:Int)) rfl<|s_mov (.lst 4 (a_1.map encGTable)) rfl<|s_dof (o_len (enc:=encGTable) rfl) fun hl46 => s_q (.bool (decide ((i_24:Int) < (a_1.length:Int)))) rfl rfl rfl<|dk<|w_condt rfl hq42<|w_skip<|k_seq<|awp_seq<|w_blk<|w_reg<|?_
   obtain ⟨r_47,er48,hc1⟩:=ob hc1
   obtain ⟨g49,hc1⟩:=og hc1
   obtain ⟨x_50,ex51,hc1⟩:=ob hc1
   refine s_mov (.own 0 0 out_25.length) rfl<|s_mov (.int .i64 (i_24:Int)) rfl<|s_mov (.lst 4 (a_1.map encGTable)) rfl<|s_mov (.int .i64 (i_24:Int)) rfl<|s_do (o_iaddrn (enc:=encGTable) rfl rfl hx39)<|s_q (encGTable x_44) rfl nle rfl<|s_do (o_callf (v:=(.agg [(.str r_47.Name),(.own 1 0 r_47.Columns.length),(.own 2 0 r_47.Unique.length),(.bool r_47.Root)])) (h':=[.row 8 (r_47.Columns.map encGColumn),.row 1 (r_47.Unique.map encI)]) (w_laws_toTable _ _ er48) rfl (.refl _) (by simp only [openV,openVs,List.length_map,encGTable_eq,List.nil_append,List.append_nil,List.cons_append];rfl))<|s_do (o_iaddrownn rfl rfl g49 rfl rfl)<|?_;refine s_do0 (o_storerow (v':=(.agg [(.str r_47.Name),(.lst 8 (r_47.Columns.map encGColumn)),(.lst 1 (r_47.Unique.map encI)),(.bool r_47.Root)])) (e':=r_47) rfl rfl ex51 rfl rfl (by simp only [tk,tko,List.take_length]) (by decide) (fun _ => by decide) ⟨rfl,nle⟩ (.refl _) rfl) ?_
   refine w_done<|k_blk<|k_seq<|w_reg<|s_mov (.int .i64 (i_24:Int)) rfl<|s_q (.int .i64 (w64 ((i_24:Int) + 1))) rfl rfl rfl<|s_mov (.int .i64 (w64 ((i_24:Int) + 1))) rfl<|w_done<|?_;exact k_loopn ⟨((i_24 + 1),out_25.set i_24 r_47),hc1⟩ (mul hlt38) ⟨[],[0],_,_,rfl,rfl,⟨.refl _,⟨.of_eq (congrArg (AV.own _ 0) (by simp)),⟨.of_eq (congrArg (AV.int _) (w64_incr hlt38 hl46)),trivial⟩⟩⟩,(.refl _)⟩
 ·refine sr<|s_mov (.own 0 0 out_36.length) rfl<|s_mov (.own 0 0 out_36.length) rfl<|dk<|w_ret<|?_;obtain rfl:=os hf;exact r_fresh ⟨trivial,trivial⟩ rfl (by decide) (.of_eq (congrArg (AV.lst _) (tk (enc:=encGTable) out_36)))

/- laws.toSchema -/
def c15:ACode :=
 (.seq (.reg (tq 1 (.box 1 (.t 0)) (tq 2 (.box 1 (.c (.agg [.nil]))) .done)))
 (.seq (.reg (tq 3 (.box 1 (.c (.agg [.nil]))) .done))
 (.seq (.reg (tq 4 (.faddr 0 (.t 1)) (tq 5 (.load 1 false (.t 4)) (tq 6 (.call 54 [(.t 5)]) (tq 7 (.faddr 0 (.t 3)) (.q ⟨none,none,.store 1 (.t 7) (.t 6)⟩
 .done))))))
 (.seq (.reg (tq 8 (.load 1 true (.t 3)) (.q ⟨none,none,.store 1 (.t 2) (.t 8)⟩
 .done)))
 .ret))))
theorem fc15:fcomp Tryz.prog Tryz.f15 = some (c15.erase,[.load 1 true (.t 2)],9):=by kernel_rfl
def laws_toSchema (a_1:GSchema):Option GSchema :=
    (laws_toTableS a_1.Tables).bind fun r_2 =>
    some (⟨r_2⟩:GSchema)
theorem w_laws_toSchema (a_1:GSchema) (r:GSchema) (hf:laws_toSchema a_1 = some r):CallOK Tryz.prog 15 .fresh [(encGSchema a_1)] (encGSchema r):=by
 refine CallOK.of_awp mixed Tryz.func15 fc15 nle ?_;rw [argT_eq];unfold laws_toSchema at hf;unfold c15;refine (show awp Tryz.prog true 0 _ (ofL [(0,(encGSchema a_1))]) [] _ from ?_);refine sr<|s_do (o_box (j:=0) (c:=(.agg [(.lst 4 (a_1.Tables.map encGTable))])) rfl trivial rfl rfl)<|s_do (o_box (j:=1) (c:=(.agg [.nil])) rfl trivial rfl rfl)<|dk<|sr<|s_do (o_box (j:=2) (c:=(.agg [.nil])) rfl trivial rfl rfl)<|dk<|sr<|?_
 obtain ⟨r_2,er3,hf⟩:=ob hf
 refine s_q (.ptr 0 0 0) rfl trivial rfl<|s_q (.lst 4 (a_1.Tables.map encGTable)) rfl nle rfl<|s_do (o_callf (v:=(.own 3 0 r_2.length)) (h':=[.row 4 (r_2.map encGTable)]) (w_laws_toTableS _ _ er3) rfl (.refl _) (by simp only [openV,openVs,List.length_map,List.nil_append,List.append_nil,List.cons_append];rfl))<|s_q (.ptr 2 0 0) rfl trivial rfl<|s_do0 (o_storebox (v:=(.own 3 0 r_2.length)) (y':=(.agg [(.own 3 0 r_2.length)])) rfl rfl rfl trivial ⟨rfl,nle⟩ ⟨⟨rfl,trivial⟩,trivial⟩ rfl)<|dk<|sr<|s_q (.agg [(.own 3 0 r_2.length)]) rfl nle rfl<|s_do0 (o_storebox (v:=(.agg [(.own 3 0 r_2.length)])) (y':=(.agg [(.own 3 0 r_2.length)])) rfl rfl rfl trivial ⟨rfl,nle⟩ ⟨⟨rfl,trivial⟩,trivial⟩ rfl)<|?_
 refine dk<|w_ret<|?_;obtain rfl:=os hf;exact r_fresh ⟨nle,trivial⟩ rfl (by decide) (.agg (.cons (.of_eq (congrArg (AV.lst _) (tk (enc:=encGTable) r_2))) .nil))

/- laws.toAtom -/
def c234:ACode :=
 (.seq (.reg (tq 1 (.box 3 (.t 0)) (tq 2 (.box 3 (.c (.agg [(.int .i64 0),(.int .i64 0),(.str [])]))) .done)))
 (.seq (.reg (tq 3 (.box 3 (.c (.agg [(.int .i64 0),(.int .i64 0),(.str [])]))) .done))
 (.seq (.reg (tq 4 (.faddr 0 (.t 1)) (tq 5 (.load 1 false (.t 4)) (tq 6 (.faddr 0 (.t 3)) (.q ⟨none,none,.store 1 (.t 6) (.t 5)⟩
 .done)))))
 (.seq (.reg (tq 7 (.faddr 1 (.t 1)) (tq 8 (.load 1 false (.t 7)) (tq 9 (.faddr 1 (.t 3)) (.q ⟨none,none,.store 1 (.t 9) (.t 8)⟩
 .done)))))
 (.seq (.reg (tq 10 (.faddr 2 (.t 1)) (tq 11 (.load 1 false (.t 10)) (tq 12 (.faddr 2 (.t 3)) (.q ⟨none,none,.store 1 (.t 12) (.t 11)⟩
 .done)))))
 (.seq (.reg (tq 13 (.load 3 true (.t 3)) (.q ⟨none,none,.store 3 (.t 2) (.t 13)⟩
 .done)))
 .ret))))))
theorem fc234:fcomp Tryz.prog Tryz.f234 = some (c234.erase,[.load 3 true (.t 2)],14):=by kernel_rfl
def laws_toAtom (a_1:GAtom):Option GAtom :=
    some a_1
theorem w_laws_toAtom (a_1:GAtom) (r:GAtom) (hf:laws_toAtom a_1 = some r):CallOK Tryz.prog 234 .flat [(encGAtom a_1)] (encGAtom r):=by
 refine CallOK.of_awp mixed Tryz.func234 fc234 nle ?_;rw [argT_eq];unfold laws_toAtom at hf;unfold c234;refine (show awp Tryz.prog false 0 _ (ofL [(0,(encGAtom a_1))]) [] _ from ?_);refine sr<|s_do (o_box (j:=0) (c:=(.agg [(.int .i64 a_1.Kind),(.int .i64 a_1.N),(.str a_1.T)])) rfl trivial rfl rfl)<|s_do (o_box (j:=1) (c:=(.agg [(.int .i64 0),(.int .i64 0),(.str [])])) rfl trivial rfl rfl)<|dk<|sr<|s_do (o_box (j:=2) (c:=(.agg [(.int .i64 0),(.int .i64 0),(.str [])])) rfl trivial rfl rfl)<|dk<|sr<|s_q (.ptr 0 0 0) rfl trivial rfl<|s_q (.int .i64 a_1.Kind) rfl nle rfl<|s_q (.ptr 2 0 0) rfl trivial rfl<|s_do0 (o_storebox (v:=(.int .i64 a_1.Kind)) (y':=(.agg [(.int .i64 a_1.Kind),(.int .i64 0),(.str [])])) rfl rfl rfl trivial ⟨rfl,nle⟩ ⟨⟨rfl,trivial⟩,trivial⟩ rfl)<|?_
 refine dk<|sr<|s_q (.ptr 0 0 1) rfl trivial rfl<|s_q (.int .i64 a_1.N) rfl nle rfl<|s_q (.ptr 2 0 1) rfl trivial rfl<|s_do0 (o_storebox (v:=(.int .i64 a_1.N)) (y':=(.agg [(.int .i64 a_1.Kind),(.int .i64 a_1.N),(.str [])])) rfl rfl rfl trivial ⟨rfl,nle⟩ ⟨⟨rfl,trivial⟩,trivial⟩ rfl)<|dk<|sr<|s_q (.ptr 0 0 2) rfl trivial rfl<|s_q (.str a_1.T) rfl nle rfl<|s_q (.ptr 2 0 2) rfl trivial rfl<|s_do0 (o_storebox (v:=(.str a_1.T)) (y':=(.agg [(.int .i64 a_1.Kind),(.int .i64 a_1.N),(.str a_1.T)])) rfl rfl rfl trivial ⟨rfl,nle⟩ ⟨⟨rfl,trivial⟩,trivial⟩ rfl)<|dk<|sr<|s_q (.agg [(.int .i64 a_1.Kind),(.int .i64 a_1.N),(.str a_1.T)]) rfl nle rfl<|?_
 refine s_do0 (o_storebox (v:=(.agg [(.int .i64 a_1.Kind),(.int .i64 a_1.N),(.str a_1.T)])) (y':=(.agg [(.int .i64 a_1.Kind),(.int .i64 a_1.N),(.str a_1.T)])) rfl rfl rfl trivial ⟨rfl,nle⟩ ⟨⟨rfl,trivial⟩,⟨⟨rfl,trivial⟩,⟨⟨rfl,trivial⟩,trivial⟩⟩⟩ rfl)<|dk<|w_ret<|?_;obtain rfl:=os hf;exact r_flat ⟨nle,trivial⟩ rfl (.refl _)

/- laws.toAtomS -/
def c225:ACode :=
 (.seq (.reg (tm 2 (.c .nil) .done))
 (.seq (.reg (tm 5 (.t 0) (tq 6 (.len (.t 5)) (tq 7 (.mkslice 3 32 (.agg [(.int .i64 0),(.int .i64 0),(.str [])]) (.t 6) (.t 6)) (tm 3 (.t 7) .done)))))
 (.seq (.seq (.reg (tm 4 (.c (.int .i64 0)) .done))
 (.block 0 (.loop (.seq (.seq (.reg (tm 8 (.t 4) (tm 9 (.t 0) (tq 10 (.len (.t 9)) (tq 11 (.bin .lss (.t 8) (.t 10)) .done)))))
 (.cond (.t 11) .skip
 (.exit 0)))
 (.seq (.block 1 (.reg (tm 14 (.t 3) (tm 15 (.t 4) (tm 16 (.t 0) (tm 17 (.t 4) (tq 18 (.iaddr 3 (.t 16) (.t 17)) (tq 19 (.load 3 true (.t 18)) (tq 20 (.call 234 [(.t 19)]) (tq 21 (.iaddr 3 (.t 14) (.t 15)) (.q ⟨none,none,.store 3 (.t 21) (.t 20)⟩
 .done)))))))))))
 (.reg (tm 12 (.t 4) (tq 13 (.bin .add (.t 12) (.c (.int .i64 1))) (tm 4 (.t 13) .done)))))))))
 (.cut (.seq (.reg (tm 22 (.t 3) (tm 2 (.t 22) .done)))
 .ret)))))
theorem fc225:fcomp Tryz.prog Tryz.f225 = some (c225.erase,[.mov (.t 2)],23):=by kernel_rfl
def laws_toAtomS_L1 :List GAtom → Nat → (List GAtom) → Option (List GAtom)
  | [],i_24,out_25 =>
    some out_25
  | x_44 :: xs,i_24,out_25 =>
    (laws_toAtom x_44).bind fun r_47 =>
    if i_24 < out_25.length then
    (out_25[i_24]?).bind fun x_50 =>
    laws_toAtomS_L1 xs (i_24 + 1) (out_25.set i_24 r_47)
    else none

def laws_toAtomS (a_1:(List GAtom)):Option (List GAtom) :=
    if (a_1.length:Int) ≤ 2 ^ 30 then
    (laws_toAtomS_L1 a_1 0 (List.replicate a_1.length (⟨0,0,[]⟩:GAtom))).bind fun out_36 =>
    some out_36
    else none
theorem w_laws_toAtomS (a_1:(List GAtom)) (r:(List GAtom)) (hf:laws_toAtomS a_1 = some r):CallOK Tryz.prog 225 .fresh [(.lst 3 (a_1.map encGAtom))] (.lst 3 (r.map encGAtom)):=by
 refine CallOK.of_awp mixed Tryz.func225 fc225 nle ?_;rw [argT_eq];unfold laws_toAtomS at hf;unfold c225;refine (show awp Tryz.prog true 0 _ (ofL [(0,(.lst 3 (a_1.map encGAtom)))]) [] _ from ?_);refine sr<|s_mov .nil rfl<|dk<|sr<|?_
 obtain ⟨g3,hf⟩:=og hf
 refine s_mov (.lst 3 (a_1.map encGAtom)) rfl<|s_dof (o_len (enc:=encGAtom) rfl) fun hl2 => s_do (o_mkslice (j:=0) (enc:=encGAtom) (m:=a_1.length) (⟨0,0,[]⟩:GAtom) (.refl _) rfl rfl (Int.le_refl _) g3 rfl)<|s_mov (.own 0 0 a_1.length) rfl<|dk<|awp_seq<|sr<|s_mov (.int .i64 0) rfl<|dk<|?_
 obtain ⟨out_36,hb1,hf⟩:=ob hf
 refine awp_cut ([(3,(.own 0 0 out_36.length))],[.row 3 (out_36.map encGAtom)]) ?_ ?_
 ·refine awp_loop (X:={q:(Nat × (List GAtom)) // laws_toAtomS_L1 (a_1.drop q.1) q.1 q.2 = some out_36}) (fun q => ([(0,(.lst 3 (a_1.map encGAtom))),(3,(.own 0 0 q.1.2.length)),(4,(.int .i64 (q.1.1:Int)))],[.row 3 (q.1.2.map encGAtom)])) (fun q => a_1.length - q.1.1) ⟨(0,List.replicate a_1.length (⟨0,0,[]⟩:GAtom)),hb1⟩ ⟨[],[0],_,_,rfl,rfl,⟨.refl _,⟨.of_eq (congrArg (AV.own _ 0) (by simp)),⟨.refl _,trivial⟩⟩⟩,(.refl _)⟩ ?_
  rintro ⟨⟨i_24,out_25⟩,hc1⟩
  have hc1:laws_toAtomS_L1 (a_1.drop i_24) i_24 out_25 = some out_36:=hc1
  refine (show awp Tryz.prog true 0 _ (ofL [(0,(.lst 3 (a_1.map encGAtom))),(3,(.own 0 0 out_25.length)),(4,(.int .i64 (i_24:Int)))]) [.row 3 (out_25.map encGAtom)] _ from ?_)
  rcases dropc a_1 i_24 with ⟨hie40,hd43⟩ | ⟨hlt38,x_44,hx39,hd43⟩
  ·rw [hd43,laws_toAtomS_L1.eq_1] at hc1
   have hq42:=dlf hie40
   refine awp_seq<|sr<|s_mov (.int .i64 (i_24:Int)) rfl<|s_mov (.lst 3 (a_1.map encGAtom)) rfl<|s_dof (o_len (enc:=encGAtom) rfl) fun hl45 => s_q (.bool (decide ((i_24:Int) < (a_1.length:Int)))) rfl rfl rfl<|dk<|w_condf rfl hq42<|w_exit<|k_seqx<|k_loopx<|k_blkx<|?_;obtain rfl:=os hc1;exact ⟨[],[0],_,_,rfl,rfl,⟨.refl _,trivial⟩,(.refl _)⟩
  ·rw [hd43,laws_toAtomS_L1.eq_2] at hc1
   have hq42:=dlt hlt38
   refine awp_seq<|sr<|s_mov (.int .i64 (i_24:Int)) rfl<|s_mov (.lst 3 (a_1.map encGAtom)) rfl<|s_dof (o_len (enc:=encGAtom) rfl) fun hl46 => s_q (.bool (decide ((i_24:Int) < (a_1.length:Int)))) rfl rfl rfl<|dk<|w_condt rfl hq42<|w_skip<|k_seq<|awp_seq<|w_blk<|w_reg<|?_
   obtain ⟨r_47,er48,hc1⟩:=ob hc1
   obtain ⟨g49,hc1⟩:=og hc1
   obtain ⟨x_50,ex51,hc1⟩:=ob hc1
   refine s_mov (.own 0 0 out_25.length) rfl<|s_mov (.int .i64 (i_24:Int)) rfl<|s_mov (.lst 3 (a_1.map encGAtom)) rfl<|s_mov (.int .i64 (i_24:Int)) rfl<|s_do (o_iaddrn (enc:=encGAtom) rfl rfl hx39)<|s_q (encGAtom x_44) rfl nle rfl<|s_do (o_call (w_laws_toAtom _ _ er48) rfl (.refl _) rfl)<|s_do (o_iaddrownn rfl rfl g49 rfl rfl)<|?_;refine s_do0 (o_storerow (v':=(encGAtom r_47)) (e':=r_47) rfl rfl ex51 rfl rfl rfl (by decide) (fun _ => by decide) ⟨rfl,nle⟩ (.refl _) rfl) ?_;refine w_done<|k_blk<|k_seq<|w_reg<|s_mov (.int .i64 (i_24:Int)) rfl<|s_q (.int .i64 (w64 ((i_24:Int) + 1))) rfl rfl rfl<|s_mov (.int .i64 (w64 ((i_24:Int) + 1))) rfl<|w_done<|?_;exact k_loopn ⟨((i_24 + 1),out_25.set i_24 r_47),hc1⟩ (mul hlt38) ⟨[],[0],_,_,rfl,rfl,⟨.refl _,⟨.of_eq (congrArg (AV.own _ 0) (by simp)),⟨.of_eq (congrArg (AV.int _) (w64_incr hlt38 hl46)),trivial⟩⟩⟩,(.refl _)⟩
 ·refine sr<|s_mov (.own 0 0 out_36.length) rfl<|s_mov (.own 0 0 out_36.length) rfl<|dk<|w_ret<|?_;obtain rfl:=os hf;exact r_fresh ⟨trivial,trivial⟩ rfl (by decide) (.of_eq (congrArg (AV.lst _) (tk (enc:=encGAtom) out_36)))

/- laws.toAtomSS -/
def c207:ACode :=
 (.seq (.reg (tm 2 (.c .nil) .done))
 (.seq (.reg (tm 5 (.t 0) (tq 6 (.len (.t 5)) (tq 7 (.mkslice 1 24 .nil (.t 6) (.t 6)) (tm 3 (.t 7) .done)))))
 (.seq (.seq (.reg (tm 4 (.c (.int .i64 0)) .done))
 (.block 0 (.loop (.seq (.seq (.reg (tm 8 (.t 4) (tm 9 (.t 0) (tq 10 (.len (.t 9)) (tq 11 (.bin .lss (.t 8) (.t 10)) .done)))))
 (.cond (.t 11) .skip
 (.exit 0)))
 (.seq (.block 1 (.reg (tm 14 (.t 3) (tm 15 (.t 4) (tm 16 (.t 0) (tm 17 (.t 4) (tq 18 (.iaddr 1 (.t 16) (.t 17)) (tq 19 (.load 1 false (.t 18)) (tq 20 (.call 225 [(.t 19)]) (tq 21 (.iaddr 1 (.t 14) (.t 15)) (.q ⟨none,none,.store 1 (.t 21) (.t 20)⟩
 .done)))))))))))
 (.reg (tm 12 (.t 4) (tq 13 (.bin .add (.t 12) (.c (.int .i64 1))) (tm 4 (.t 13) .done)))))))))
 (.cut (.seq (.reg (tm 22 (.t 3) (tm 2 (.t 22) .done)))
 .ret)))))
theorem fc207:fcomp Tryz.prog Tryz.f207 = some (c207.erase,[.mov (.t 2)],23):=by kernel_rfl
def laws_toAtomSS_L1 :List (List GAtom) → Nat → (List (List GAtom)) → Option (List (List GAtom))
  | [],i_24,out_25 =>
    some out_25
  | x_44 :: xs,i_24,out_25 =>
    (laws_toAtomS x_44).bind fun r_47 =>
    if i_24 < out_25.length then
    (out_25[i_24]?).bind fun x_50 =>
    laws_toAtomSS_L1 xs (i_24 + 1) (out_25.set i_24 r_47)
    else none

def laws_toAtomSS (a_1:(List (List GAtom))):Option (List (List GAtom)) :=
    if (a_1.length:Int) ≤ 2 ^ 30 then
    (laws_toAtomSS_L1 a_1 0 (List.replicate a_1.length [])).bind fun out_36 =>
    some out_36
    else none
theorem w_laws_toAtomSS (a_1:(List (List GAtom))) (r:(List (List GAtom))) (hf:laws_toAtomSS a_1 = some r):CallOK Tryz.prog 207 .fresh [(.lst 1 (a_1.map (encL 3 encGAtom)))] (.lst 1 (r.map (encL 3 encGAtom))):=by
 refine CallOK.of_awp mixed Tryz.func207 fc207 nle ?_;rw [argT_eq];unfold laws_toAtomSS at hf;unfold c207;refine (show awp Tryz.prog true 0 _ (ofL [(0,(.lst 1 (a_1.map (encL 3 encGAtom))))]) [] _ from ?_);refine sr<|s_mov .nil rfl<|dk<|sr<|?_
 obtain ⟨g3,hf⟩:=og hf
 refine s_mov (.lst 1 (a_1.map (encL 3 encGAtom))) rfl<|s_dof (o_len (enc:=(encL 3 encGAtom)) rfl) fun hl2 => s_do (o_mkslice (j:=0) (enc:=(encL 3 encGAtom)) (m:=a_1.length) [] (.nil _) rfl rfl (Int.le_refl _) g3 rfl)<|s_mov (.own 0 0 a_1.length) rfl<|dk<|awp_seq<|sr<|s_mov (.int .i64 0) rfl<|dk<|?_
 obtain ⟨out_36,hb1,hf⟩:=ob hf
 refine awp_cut ([(3,(.own 0 0 out_36.length))],[.row 1 (out_36.map (encL 3 encGAtom))]) ?_ ?_
 ·refine awp_loop (X:={q:(Nat × (List (List GAtom))) // laws_toAtomSS_L1 (a_1.drop q.1) q.1 q.2 = some out_36}) (fun q => ([(0,(.lst 1 (a_1.map (encL 3 encGAtom)))),(3,(.own 0 0 q.1.2.length)),(4,(.int .i64 (q.1.1:Int)))],[.row 1 (q.1.2.map (encL 3 encGAtom))])) (fun q => a_1.length - q.1.1) ⟨(0,List.replicate a_1.length []),hb1⟩ ⟨[],[0],_,_,rfl,rfl,⟨.refl _,⟨.of_eq (congrArg (AV.own _ 0) (by simp)),⟨.refl _,trivial⟩⟩⟩,(.refl _)⟩ ?_
  rintro ⟨⟨i_24,out_25⟩,hc1⟩
  have hc1:laws_toAtomSS_L1 (a_1.drop i_24) i_24 out_25 = some out_36:=hc1
  refine (show awp Tryz.prog true 0 _ (ofL [(0,(.lst 1 (a_1.map (encL 3 encGAtom)))),(3,(.own 0 0 out_25.length)),(4,(.int .i64 (i_24:Int)))]) [.row 1 (out_25.map (encL 3 encGAtom))] _ from ?_)
  rcases dropc a_1 i_24 with ⟨hie40,hd43⟩ | ⟨hlt38,x_44,hx39,hd43⟩
  ·rw [hd43,laws_toAtomSS_L1.eq_1] at hc1
   have hq42:=dlf hie40
   refine awp_seq<|sr<|s_mov (.int .i64 (i_24:Int)) rfl<|s_mov (.lst 1 (a_1.map (encL 3 encGAtom))) rfl<|s_dof (o_len (enc:=(encL 3 encGAtom)) rfl) fun hl45 => s_q (.bool (decide ((i_24:Int) < (a_1.length:Int)))) rfl rfl rfl<|dk<|w_condf rfl hq42<|w_exit<|k_seqx<|k_loopx<|k_blkx<|?_;obtain rfl:=os hc1;exact ⟨[],[0],_,_,rfl,rfl,⟨.refl _,trivial⟩,(.refl _)⟩
  ·rw [hd43,laws_toAtomSS_L1.eq_2] at hc1
   have hq42:=dlt hlt38
   refine awp_seq<|sr<|s_mov (.int .i64 (i_24:Int)) rfl<|s_mov (.lst 1 (a_1.map (encL 3 encGAtom))) rfl<|s_dof (o_len (enc:=(encL 3 encGAtom)) rfl) fun hl46 => s_q (.bool (decide ((i_24:Int) < (a_1.length:Int)))) rfl rfl rfl<|dk<|w_condt rfl hq42<|w_skip<|k_seq<|awp_seq<|w_blk<|w_reg<|?_
   obtain ⟨r_47,er48,hc1⟩:=ob hc1
   obtain ⟨g49,hc1⟩:=og hc1
   obtain ⟨x_50,ex51,hc1⟩:=ob hc1
   refine s_mov (.own 0 0 out_25.length) rfl<|s_mov (.int .i64 (i_24:Int)) rfl<|s_mov (.lst 1 (a_1.map (encL 3 encGAtom))) rfl<|s_mov (.int .i64 (i_24:Int)) rfl<|s_do (o_iaddrn (enc:=(encL 3 encGAtom)) rfl rfl hx39)<|s_q (.lst 3 (x_44.map encGAtom)) rfl ⟨rfl,rfl⟩ rfl<|s_do (o_callf (v:=(.own 1 0 r_47.length)) (h':=[.row 3 (r_47.map encGAtom)]) (w_laws_toAtomS _ _ er48) rfl (.refl _) (by simp only [openV,openVs,List.length_map,List.nil_append,List.append_nil,List.cons_append];rfl))<|s_do (o_iaddrownn rfl rfl g49 rfl rfl)<|?_;refine s_do0 (o_storerow (v':=(.lst 3 (r_47.map encGAtom))) (e':=r_47) rfl rfl ex51 rfl rfl (by simp only [tk,tko,List.take_length]) (by decide) (fun _ => by decide) ⟨rfl,rfl,rfl⟩ (.refl _) rfl) ?_
   refine w_done<|k_blk<|k_seq<|w_reg<|s_mov (.int .i64 (i_24:Int)) rfl<|s_q (.int .i64 (w64 ((i_24:Int) + 1))) rfl rfl rfl<|s_mov (.int .i64 (w64 ((i_24:Int) + 1))) rfl<|w_done<|?_;exact k_loopn ⟨((i_24 + 1),out_25.set i_24 r_47),hc1⟩ (mul hlt38) ⟨[],[0],_,_,rfl,rfl,⟨.refl _,⟨.of_eq (congrArg (AV.own _ 0) (by simp)),⟨.of_eq (congrArg (AV.int _) (w64_incr hlt38 hl46)),trivial⟩⟩⟩,(.refl _)⟩
 ·refine sr<|s_mov (.own 0 0 out_36.length) rfl<|s_mov (.own 0 0 out_36.length) rfl<|dk<|w_ret<|?_;obtain rfl:=os hf;exact r_fresh ⟨trivial,trivial⟩ rfl (by decide) (.of_eq (congrArg (AV.lst _) (tk (enc:=(encL 3 encGAtom)) out_36)))

/- laws.toRow -/
def c174:ACode :=
 (.seq (.reg (tq 1 (.box 2 (.t 0)) (tq 2 (.box 2 (.c (.agg [(.int .i64 0),.nil]))) .done)))
 (.seq (.reg (tq 3 (.box 2 (.c (.agg [(.int .i64 0),.nil]))) .done))
 (.seq (.reg (tq 4 (.faddr 0 (.t 1)) (tq 5 (.load 1 false (.t 4)) (tq 6 (.faddr 0 (.t 3)) (.q ⟨none,none,.store 1 (.t 6) (.t 5)⟩
 .done)))))
 (.seq (.reg (tq 7 (.faddr 1 (.t 1)) (tq 8 (.load 1 false (.t 7)) (tq 9 (.call 207 [(.t 8)]) (tq 10 (.faddr 1 (.t 3)) (.q ⟨none,none,.store 1 (.t 10) (.t 9)⟩
 .done))))))
 (.seq (.reg (tq 11 (.load 2 true (.t 3)) (.q ⟨none,none,.store 2 (.t 2) (.t 11)⟩
 .done)))
 .ret)))))
theorem fc174:fcomp Tryz.prog Tryz.f174 = some (c174.erase,[.load 2 true (.t 2)],12):=by kernel_rfl
def laws_toRow (a_1:GRow):Option GRow :=
    (laws_toAtomSS a_1.Cells).bind fun r_2 =>
    some (⟨a_1.Id,r_2⟩:GRow)
theorem w_laws_toRow (a_1:GRow) (r:GRow) (hf:laws_toRow a_1 = some r):CallOK Tryz.prog 174 .fresh [(encGRow a_1)] (encGRow r):=by
 refine CallOK.of_awp mixed Tryz.func174 fc174 nle ?_;rw [argT_eq];unfold laws_toRow at hf;unfold c174;refine (show awp Tryz.prog true 0 _ (ofL [(0,(encGRow a_1))]) [] _ from ?_);refine sr<|s_do (o_box (j:=0) (c:=(.agg [(.int .i64 a_1.Id),(.lst 1 (a_1.Cells.map (encL 3 encGAtom)))])) rfl trivial rfl rfl)<|s_do (o_box (j:=1) (c:=(.agg [(.int .i64 0),.nil])) rfl trivial rfl rfl)<|dk<|sr<|s_do (o_box (j:=2) (c:=(.agg [(.int .i64 0),.nil])) rfl trivial rfl rfl)<|dk<|sr<|s_q (.ptr 0 0 0) rfl trivial rfl<|s_q (.int .i64 a_1.Id) rfl nle rfl<|s_q (.ptr 2 0 0) rfl trivial rfl<|s_do0 (o_storebox (v:=(.int .i64 a_1.Id)) (y':=(.agg [(.int .i64 a_1.Id),.nil])) rfl rfl rfl trivial ⟨rfl,nle⟩ ⟨⟨rfl,trivial⟩,trivial⟩ rfl)<|?_
 refine dk<|sr<|?_
 obtain ⟨r_2,er3,hf⟩:=ob hf
 refine s_q (.ptr 0 0 1) rfl trivial rfl<|s_q (.lst 1 (a_1.Cells.map (encL 3 encGAtom))) rfl nle rfl<|s_do (o_callf (v:=(.own 3 0 r_2.length)) (h':=[.row 1 (r_2.map (encL 3 encGAtom))]) (w_laws_toAtomSS _ _ er3) rfl (.refl _) (by simp only [openV,openVs,List.length_map,List.nil_append,List.append_nil,List.cons_append];rfl))<|s_q (.ptr 2 0 1) rfl trivial rfl<|s_do0 (o_storebox (v:=(.own 3 0 r_2.length)) (y':=(.agg [(.int .i64 a_1.Id),(.own 3 0 r_2.length)])) rfl rfl rfl trivial ⟨rfl,nle⟩ ⟨⟨rfl,trivial⟩,trivial⟩ rfl)<|dk<|sr<|s_q (.agg [(.int .i64 a_1.Id),(.own 3 0 r_2.length)]) rfl nle rfl<|s_do0 (o_storebox (v:=(.agg [(.int .i64 a_1.Id),(.own 3 0 r_2.length)])) (y':=(.agg [(.int .i64 a_1.Id),(.own 3 0 r_2.length)])) rfl rfl rfl trivial ⟨rfl,nle⟩ ⟨⟨rfl,trivial⟩,⟨⟨rfl,trivial⟩,trivial⟩⟩ rfl)<|?_
 refine dk<|w_ret<|?_;obtain rfl:=os hf;exact r_fresh ⟨nle,trivial⟩ rfl (by decide) (.agg (.cons (.refl _) (.cons (.of_eq (congrArg (AV.lst _) (tk (enc:=(encL 3 encGAtom)) r_2))) .nil)))

/- laws.toRowS -/
def c124:ACode :=
 (.seq (.reg (tm 2 (.c .nil) .done))
 (.seq (.reg (tm 5 (.t 0) (tq 6 (.len (.t 5)) (tq 7 (.mkslice 2 32 (.agg [(.int .i64 0),.nil]) (.t 6) (.t 6)) (tm 3 (.t 7) .done)))))
 (.seq (.seq (.reg (tm 4 (.c (.int .i64 0)) .done))
 (.block 0 (.loop (.seq (.seq (.reg (tm 8 (.t 4) (tm 9 (.t 0) (tq 10 (.len (.t 9)) (tq 11 (.bin .lss (.t 8) (.t 10)) .done)))))
 (.cond (.t 11) .skip
 (.exit 0)))
 (.seq (.block 1 (.reg (tm 14 (.t 3) (tm 15 (.t 4) (tm 16 (.t 0) (tm 17 (.t 4) (tq 18 (.iaddr 2 (.t 16) (.t 17)) (tq 19 (.load 2 true (.t 18)) (tq 20 (.call 174 [(.t 19)]) (tq 21 (.iaddr 2 (.t 14) (.t 15)) (.q ⟨none,none,.store 2 (.t 21) (.t 20)⟩
 .done)))))))))))
 (.reg (tm 12 (.t 4) (tq 13 (.bin .add (.t 12) (.c (.int .i64 1))) (tm 4 (.t 13) .done)))))))))
 (.cut (.seq (.reg (tm 22 (.t 3) (tm 2 (.t 22) .done)))
 .ret)))))
theorem fc124:fcomp Tryz.prog Tryz.f124 = some (c124.erase,[.mov (.t 2)],23):=by kernel_rfl
def laws_toRowS_L1 :List GRow → Nat → (List GRow) → Option (List GRow)
  | [],i_24,out_25 =>
    some out_25
  | x_44 :: xs,i_24,out_25 =>
    (laws_toRow x_44).bind fun r_47 =>
    if i_24 < out_25.length then
    (out_25[i_24]?).bind fun x_50 =>
    laws_toRowS_L1 xs (i_24 + 1) (out_25.set i_24 r_47)
    else none

def laws_toRowS (a_1:(List GRow)):Option (List GRow) :=
    if (a_1.length:Int) ≤ 2 ^ 30 then
    (laws_toRowS_L1 a_1 0 (List.replicate a_1.length (⟨0,[]⟩:GRow))).bind fun out_36 =>
    some out_36
    else none
theorem w_laws_toRowS (a_1:(List GRow)) (r:(List GRow)) (hf:laws_toRowS a_1 = some r):CallOK Tryz.prog 124 .fresh [(.lst 2 (a_1.map encGRow))] (.lst 2 (r.map encGRow)):=by
 refine CallOK.of_awp mixed Tryz.func124 fc124 nle ?_;rw [argT_eq];unfold laws_toRowS at hf;unfold c124;refine (show awp Tryz.prog true 0 _ (ofL [(0,(.lst 2 (a_1.map encGRow)))]) [] _ from ?_);refine sr<|s_mov .nil rfl<|dk<|sr<|?_
 obtain ⟨g3,hf⟩:=og hf
 refine s_mov (.lst 2 (a_1.map encGRow)) rfl<|s_dof (o_len (enc:=encGRow) rfl) fun hl2 => s_do (o_mkslice (j:=0) (enc:=encGRow) (m:=a_1.length) (⟨0,[]⟩:GRow) (.agg (.cons (.refl _) (.cons (.nil _) .nil))) rfl rfl (Int.le_refl _) g3 rfl)<|s_mov (.own 0 0 a_1.length) rfl<|dk<|awp_seq<|sr<|s_mov (.int .i64 0) rfl<|dk<|?_
 obtain ⟨out_36,hb1,hf⟩:=ob hf
 refine awp_cut ([(3,(.own 0 0 out_36.length))],[.row 2 (out_36.map encGRow)]) ?_ ?_
 ·refine awp_loop (X:={q:(Nat × (List GRow)) // laws_toRowS_L1 (a_1.drop q.1) q.1 q.2 = some out_36}) (fun q => ([(0,(.lst 2 (a_1.map encGRow))),(3,(.own 0 0 q.1.2.length)),(4,(.int .i64 (q.1.1:Int)))],[.row 2 (q.1.2.map encGRow)])) (fun q => a_1.length - q.1.1) ⟨(0,List.replicate a_1.length (⟨0,[]⟩:GRow)),hb1⟩ ⟨[],[0],_,_,rfl,rfl,⟨.refl _,⟨.of_eq (congrArg (AV.own _ 0) (by simp)),⟨.refl _,trivial⟩⟩⟩,(.refl _)⟩ ?_
  rintro ⟨⟨i_24,out_25⟩,hc1⟩
  have hc1:laws_toRowS_L1 (a_1.drop i_24) i_24 out_25 = some out_36:=hc1
  refine (show awp Tryz.prog true 0 _ (ofL [(0,(.lst 2 (a_1.map encGRow))),(3,(.own 0 0 out_25.length)),(4,(.int .i64 (i_24:Int)))]) [.row 2 (out_25.map encGRow)] _ from ?_)
  rcases dropc a_1 i_24 with ⟨hie40,hd43⟩ | ⟨hlt38,x_44,hx39,hd43⟩
  ·rw [hd43,laws_toRowS_L1.eq_1] at hc1
   have hq42:=dlf hie40
   refine awp_seq<|sr<|s_mov (.int .i64 (i_24:Int)) rfl<|s_mov (.lst 2 (a_1.map encGRow)) rfl<|s_dof (o_len (enc:=encGRow) rfl) fun hl45 => s_q (.bool (decide ((i_24:Int) < (a_1.length:Int)))) rfl rfl rfl<|dk<|w_condf rfl hq42<|w_exit<|k_seqx<|k_loopx<|k_blkx<|?_;obtain rfl:=os hc1;exact ⟨[],[0],_,_,rfl,rfl,⟨.refl _,trivial⟩,(.refl _)⟩
  ·rw [hd43,laws_toRowS_L1.eq_2] at hc1
   have hq42:=dlt hlt38
   refine awp_seq<|sr<|s_mov (.int .i64 (i_24:Int)) rfl<|s_mov (.lst 2 (a_1.map encGRow)) rfl<|s_dof (o_len (enc:=encGRow) rfl) fun hl46 => s_q (.bool (decide ((i_24:Int) < (a_1.length:Int)))) rfl rfl rfl<|dk<|w_condt rfl hq42<|w_skip<|k_seq<|awp_seq<|w_blk<|w_reg<|?_
   obtain ⟨r_47,er48,hc1⟩:=ob hc1
   obtain ⟨g49,hc1⟩:=og hc1
   obtain ⟨x_50,ex51,hc1⟩:=ob hc1
   refine s_mov (.own 0 0 out_25.length) rfl<|s_mov (.int .i64 (i_24:Int)) rfl<|s_mov (.lst 2 (a_1.map encGRow)) rfl<|s_mov (.int .i64 (i_24:Int)) rfl<|s_do (o_iaddrn (enc:=encGRow) rfl rfl hx39)<|s_q (encGRow x_44) rfl nle rfl<|s_do (o_callf (v:=(.agg [(.int .i64 r_47.Id),(.own 1 0 r_47.Cells.length)])) (h':=[.row 1 (r_47.Cells.map (encL 3 encGAtom))]) (w_laws_toRow _ _ er48) rfl (.refl _) (by simp only [openV,openVs,List.length_map,encGRow_eq,List.nil_append,List.append_nil,List.cons_append];rfl))<|s_do (o_iaddrownn rfl rfl g49 rfl rfl)<|?_;refine s_do0 (o_storerow (v':=(.agg [(.int .i64 r_47.Id),(.lst 1 (r_47.Cells.map (encL 3 encGAtom)))])) (e':=r_47) rfl rfl ex51 rfl rfl (by simp only [tk,tko,List.take_length]) (by decide) (fun _ => by decide) ⟨rfl,nle⟩ (.refl _) rfl) ?_
   refine w_done<|k_blk<|k_seq<|w_reg<|s_mov (.int .i64 (i_24:Int)) rfl<|s_q (.int .i64 (w64 ((i_24:Int) + 1))) rfl rfl rfl<|s_mov (.int .i64 (w64 ((i_24:Int) + 1))) rfl<|w_done<|?_;exact k_loopn ⟨((i_24 + 1),out_25.set i_24 r_47),hc1⟩ (mul hlt38) ⟨[],[0],_,_,rfl,rfl,⟨.refl _,⟨.of_eq (congrArg (AV.own _ 0) (by simp)),⟨.of_eq (congrArg (AV.int _) (w64_incr hlt38 hl46)),trivial⟩⟩⟩,(.refl _)⟩
 ·refine sr<|s_mov (.own 0 0 out_36.length) rfl<|s_mov (.own 0 0 out_36.length) rfl<|dk<|w_ret<|?_;obtain rfl:=os hf;exact r_fresh ⟨trivial,trivial⟩ rfl (by decide) (.of_eq (congrArg (AV.lst _) (tk (enc:=encGRow) out_36)))

/- laws.toRowSS -/
def c55:ACode :=
 (.seq (.reg (tm 2 (.c .nil) .done))
 (.seq (.reg (tm 5 (.t 0) (tq 6 (.len (.t 5)) (tq 7 (.mkslice 1 24 .nil (.t 6) (.t 6)) (tm 3 (.t 7) .done)))))
 (.seq (.seq (.reg (tm 4 (.c (.int .i64 0)) .done))
 (.block 0 (.loop (.seq (.seq (.reg (tm 8 (.t 4) (tm 9 (.t 0) (tq 10 (.len (.t 9)) (tq 11 (.bin .lss (.t 8) (.t 10)) .done)))))
 (.cond (.t 11) .skip
 (.exit 0)))
 (.seq (.block 1 (.reg (tm 14 (.t 3) (tm 15 (.t 4) (tm 16 (.t 0) (tm 17 (.t 4) (tq 18 (.iaddr 1 (.t 16) (.t 17)) (tq 19 (.load 1 false (.t 18)) (tq 20 (.call 124 [(.t 19)]) (tq 21 (.iaddr 1 (.t 14) (.t 15)) (.q ⟨none,none,.store 1 (.t 21) (.t 20)⟩
 .done)))))))))))
 (.reg (tm 12 (.t 4) (tq 13 (.bin .add (.t 12) (.c (.int .i64 1))) (tm 4 (.t 13) .done)))))))))
 (.cut (.seq (.reg (tm 22 (.t 3) (tm 2 (.t 22) .done)))
 .ret)))))
theorem fc55:fcomp Tryz.prog Tryz.f55 = some (c55.erase,[.mov (.t 2)],23):=by kernel_rfl
def laws_toRowSS_L1 :List (List GRow) → Nat → (List (List GRow)) → Option (List (List GRow))
  | [],i_24,out_25 =>
    some out_25
  | x_44 :: xs,i_24,out_25 =>
    (laws_toRowS x_44).bind fun r_47 =>
    if i_24 < out_25.length then
    (out_25[i_24]?).bind fun x_50 =>
    laws_toRowSS_L1 xs (i_24 + 1) (out_25.set i_24 r_47)
    else none

def laws_toRowSS (a_1:(List (List GRow))):Option (List (List GRow)) :=
    if (a_1.length:Int) ≤ 2 ^ 30 then
    (laws_toRowSS_L1 a_1 0 (List.replicate a_1.length [])).bind fun out_36 =>
    some out_36
    else none
theorem w_laws_toRowSS (a_1:(List (List GRow))) (r:(List (List GRow))) (hf:laws_toRowSS a_1 = some r):CallOK Tryz.prog 55 .fresh [(.lst 1 (a_1.map (encL 2 encGRow)))] (.lst 1 (r.map (encL 2 encGRow))):=by
 refine CallOK.of_awp mixed Tryz.func55 fc55 nle ?_;rw [argT_eq];unfold laws_toRowSS at hf;unfold c55;refine (show awp Tryz.prog true 0 _ (ofL [(0,(.lst 1 (a_1.map (encL 2 encGRow))))]) [] _ from ?_);refine sr<|s_mov .nil rfl<|dk<|sr<|?_
 obtain ⟨g3,hf⟩:=og hf
 refine s_mov (.lst 1 (a_1.map (encL 2 encGRow))) rfl<|s_dof (o_len (enc:=(encL 2 encGRow)) rfl) fun hl2 => s_do (o_mkslice (j:=0) (enc:=(encL 2 encGRow)) (m:=a_1.length) [] (.nil _) rfl rfl (Int.le_refl _) g3 rfl)<|s_mov (.own 0 0 a_1.length) rfl<|dk<|awp_seq<|sr<|s_mov (.int .i64 0) rfl<|dk<|?_
 obtain ⟨out_36,hb1,hf⟩:=ob hf
 refine awp_cut ([(3,(.own 0 0 out_36.length))],[.row 1 (out_36.map (encL 2 encGRow))]) ?_ ?_
 ·refine awp_loop (X:={q:(Nat × (List (List GRow))) // laws_toRowSS_L1 (a_1.drop q.1) q.1 q.2 = some out_36}) (fun q => ([(0,(.lst 1 (a_1.map (encL 2 encGRow)))),(3,(.own 0 0 q.1.2.length)),(4,(.int .i64 (q.1.1:Int)))],[.row 1 (q.1.2.map (encL 2 encGRow))])) (fun q => a_1.length - q.1.1) ⟨(0,List.replicate a_1.length []),hb1⟩ ⟨[],[0],_,_,rfl,rfl,⟨.refl _,⟨.of_eq (congrArg (AV.own _ 0) (by simp)),⟨.refl _,trivial⟩⟩⟩,(.refl _)⟩ ?_
  rintro ⟨⟨i_24,out_25⟩,hc1⟩
  have hc1:laws_toRowSS_L1 (a_1.drop i_24) i_24 out_25 = some out_36:=hc1
  refine (show awp Tryz.prog true 0 _ (ofL [(0,(.lst 1 (a_1.map (encL 2 encGRow)))),(3,(.own 0 0 out_25.length)),(4,(.int .i64 (i_24:Int)))]) [.row 1 (out_25.map (encL 2 encGRow))] _ from ?_)
  rcases dropc a_1 i_24 with ⟨hie40,hd43⟩ | ⟨hlt38,x_44,hx39,hd43⟩
  ·rw [hd43,laws_toRowSS_L1.eq_1] at hc1
   have hq42:=dlf hie40
   refine awp_seq<|sr<|s_mov (.int .i64 (i_24:Int)) rfl<|s_mov (.lst 1 (a_1.map (encL 2 encGRow))) rfl<|s_dof (o_len (enc:=(encL 2 encGRow)) rfl) fun hl45 => s_q (.bool (decide ((i_24:Int) < (a_1.length:Int)))) rfl rfl rfl<|dk<|w_condf rfl hq42<|w_exit<|k_seqx<|k_loopx<|k_blkx<|?_;obtain rfl:=os hc1;exact ⟨[],[0],_,_,rfl,rfl,⟨.refl _,trivial⟩,(.refl _)⟩
  ·rw [hd43,laws_toRowSS_L1.eq_2] at hc1
   have hq42:=dlt hlt38
   refine awp_seq<|sr<|s_mov (.int .i64 (i_24:Int)) rfl<|s_mov (.lst 1 (a_1.map (encL 2 encGRow))) rfl<|s_dof (o_len (enc:=(encL 2 encGRow)) rfl) fun hl46 => s_q (.bool (decide ((i_24:Int) < (a_1.length:Int)))) rfl rfl rfl<|dk<|w_condt rfl hq42<|w_skip<|k_seq<|awp_seq<|w_blk<|w_reg<|?_
   obtain ⟨r_47,er48,hc1⟩:=ob hc1
   obtain ⟨g49,hc1⟩:=og hc1
   obtain ⟨x_50,ex51,hc1⟩:=ob hc1
   refine s_mov (.own 0 0 out_25.length) rfl<|s_mov (.int .i64 (i_24:Int)) rfl<|s_mov (.lst 1 (a_1.map (encL 2 encGRow))) rfl<|s_mov (.int .i64 (i_24:Int)) rfl<|s_do (o_iaddrn (enc:=(encL 2 encGRow)) rfl rfl hx39)<|s_q (.lst 2 (x_44.map encGRow)) rfl ⟨rfl,rfl⟩ rfl<|s_do (o_callf (v:=(.own 1 0 r_47.length)) (h':=[.row 2 (r_47.map encGRow)]) (w_laws_toRowS _ _ er48) rfl (.refl _) (by simp only [openV,openVs,List.length_map,List.nil_append,List.append_nil,List.cons_append];rfl))<|s_do (o_iaddrownn rfl rfl g49 rfl rfl)<|?_;refine s_do0 (o_storerow (v':=(.lst 2 (r_47.map encGRow))) (e':=r_47) rfl rfl ex51 rfl rfl (by simp only [tk,tko,List.take_length]) (by decide) (fun _ => by decide) ⟨rfl,rfl,rfl⟩ (.refl _) rfl) ?_
   refine w_done<|k_blk<|k_seq<|w_reg<|s_mov (.int .i64 (i_24:Int)) rfl<|s_q (.int .i64 (w64 ((i_24:Int) + 1))) rfl rfl rfl<|s_mov (.int .i64 (w64 ((i_24:Int) + 1))) rfl<|w_done<|?_;exact k_loopn ⟨((i_24 + 1),out_25.set i_24 r_47),hc1⟩ (mul hlt38) ⟨[],[0],_,_,rfl,rfl,⟨.refl _,⟨.of_eq (congrArg (AV.own _ 0) (by simp)),⟨.of_eq (congrArg (AV.int _) (w64_incr hlt38 hl46)),trivial⟩⟩⟩,(.refl _)⟩
 ·refine sr<|s_mov (.own 0 0 out_36.length) rfl<|s_mov (.own 0 0 out_36.length) rfl<|dk<|w_ret<|?_;obtain rfl:=os hf;exact r_fresh ⟨trivial,trivial⟩ rfl (by decide) (.of_eq (congrArg (AV.lst _) (tk (enc:=(encL 2 encGRow)) out_36)))

/- laws.toStore -/
def c16:ACode :=
 (.seq (.reg (tq 1 (.box 2 (.t 0)) (tq 2 (.box 2 (.c (.agg [.nil,(.int .i64 0)]))) .done)))
 (.seq (.reg (tq 3 (.box 2 (.c (.agg [.nil,(.int .i64 0)]))) .done))
 (.seq (.reg (tq 4 (.faddr 0 (.t 1)) (tq 5 (.load 1 false (.t 4)) (tq 6 (.call 55 [(.t 5)]) (tq 7 (.faddr 0 (.t 3)) (.q ⟨none,none,.store 1 (.t 7) (.t 6)⟩
 .done))))))
 (.seq (.reg (tq 8 (.faddr 1 (.t 1)) (tq 9 (.load 1 false (.t 8)) (tq 10 (.faddr 1 (.t 3)) (.q ⟨none,none,.store 1 (.t 10) (.t 9)⟩
 .done)))))
 (.seq (.reg (tq 11 (.load 2 true (.t 3)) (.q ⟨none,none,.store 2 (.t 2) (.t 11)⟩
 .done)))
 .ret)))))
theorem fc16:fcomp Tryz.prog Tryz.f16 = some (c16.erase,[.load 2 true (.t 2)],12):=by kernel_rfl
def laws_toStore (a_1:GStore):Option GStore :=
    (laws_toRowSS a_1.Tables).bind fun r_2 =>
    some (⟨r_2,a_1.Next⟩:GStore)
theorem w_laws_toStore (a_1:GStore) (r:GStore) (hf:laws_toStore a_1 = some r):CallOK Tryz.prog 16 .fresh [(encGStore a_1)] (encGStore r):=by
 refine CallOK.of_awp mixed Tryz.func16 fc16 nle ?_;rw [argT_eq];unfold laws_toStore at hf;unfold c16;refine (show awp Tryz.prog true 0 _ (ofL [(0,(encGStore a_1))]) [] _ from ?_);refine sr<|s_do (o_box (j:=0) (c:=(.agg [(.lst 1 (a_1.Tables.map (encL 2 encGRow))),(.int .i64 a_1.Next)])) rfl trivial rfl rfl)<|s_do (o_box (j:=1) (c:=(.agg [.nil,(.int .i64 0)])) rfl trivial rfl rfl)<|dk<|sr<|s_do (o_box (j:=2) (c:=(.agg [.nil,(.int .i64 0)])) rfl trivial rfl rfl)<|dk<|sr<|?_
 obtain ⟨r_2,er3,hf⟩:=ob hf
 refine s_q (.ptr 0 0 0) rfl trivial rfl<|s_q (.lst 1 (a_1.Tables.map (encL 2 encGRow))) rfl nle rfl<|s_do (o_callf (v:=(.own 3 0 r_2.length)) (h':=[.row 1 (r_2.map (encL 2 encGRow))]) (w_laws_toRowSS _ _ er3) rfl (.refl _) (by simp only [openV,openVs,List.length_map,List.nil_append,List.append_nil,List.cons_append];rfl))<|s_q (.ptr 2 0 0) rfl trivial rfl<|s_do0 (o_storebox (v:=(.own 3 0 r_2.length)) (y':=(.agg [(.own 3 0 r_2.length),(.int .i64 0)])) rfl rfl rfl trivial ⟨rfl,nle⟩ ⟨⟨rfl,trivial⟩,trivial⟩ rfl)<|dk<|sr<|s_q (.ptr 0 0 1) rfl trivial rfl<|s_q (.int .i64 a_1.Next) rfl nle rfl<|s_q (.ptr 2 0 1) rfl trivial rfl<|s_do0 (o_storebox (v:=(.int .i64 a_1.Next)) (y':=(.agg [(.own 3 0 r_2.length),(.int .i64 a_1.Next)])) rfl rfl rfl trivial ⟨rfl,nle⟩ ⟨⟨rfl,trivial⟩,trivial⟩ rfl)<|?_
 refine dk<|sr<|s_q (.agg [(.own 3 0 r_2.length),(.int .i64 a_1.Next)]) rfl nle rfl<|s_do0 (o_storebox (v:=(.agg [(.own 3 0 r_2.length),(.int .i64 a_1.Next)])) (y':=(.agg [(.own 3 0 r_2.length),(.int .i64 a_1.Next)])) rfl rfl rfl trivial ⟨rfl,nle⟩ ⟨⟨rfl,trivial⟩,⟨⟨rfl,trivial⟩,trivial⟩⟩ rfl)<|dk<|w_ret<|?_;obtain rfl:=os hf;exact r_fresh ⟨nle,trivial⟩ rfl (by decide) (.agg (.cons (.of_eq (congrArg (AV.lst _) (tk (enc:=(encL 2 encGRow)) r_2))) (.cons (.refl _) .nil)))

/- spec.l01In -/
def c95:ACode :=
 (.seq (.reg (tm 6 (.c (.bool false)) .done))
 (.seq (.reg (tm 7 (.t 1) (tm 8 (.t 0) (tq 9 (.bin .leq (.t 7) (.t 8)) (tm 10 (.t 9) (tg 11 10 true (.mov (.t 0)) (tg 12 10 true (.mov (.t 2)) (tg 13 10 true (.bin .leq (.t 11) (.t 12)) (tq 14 (.pick (.t 10) (.t 13) (.c (.bool false))) (tm 6 (.t 14) .done))))))))))
 .ret))
theorem fc95:fcomp Tryz.prog Tryz.f95 = some (c95.erase,[.mov (.t 6)],15):=by kernel_rfl
def spec_l01In (n_1:Int) (low_2:Int) (high_3:Int):Option Bool :=
    if (decide (low_2 ≤ n_1)) then
    some (decide (n_1 ≤ high_3))
    else
    some false
theorem w_spec_l01In (n_1:Int) (low_2:Int) (high_3:Int) (r:Bool) (hf:spec_l01In n_1 low_2 high_3 = some r):CallOK Tryz.prog 95 .flat [(.int .i64 n_1),(.int .i64 low_2),(.int .i64 high_3)] (.bool r):=by
 refine CallOK.of_awp mixed Tryz.func95 fc95 nle ?_;rw [argT_eq];unfold spec_l01In at hf;unfold c95;refine (show awp Tryz.prog false 0 _ (ofL [(0,(.int .i64 n_1)),(1,(.int .i64 low_2)),(2,(.int .i64 high_3))]) [] _ from ?_);refine sr<|s_mov (.bool false) rfl<|dk<|sr<|?_
 rcases oi hf with ⟨c4,hf⟩ | ⟨c4,hf⟩
 ·refine s_mov (.int .i64 low_2) rfl<|s_mov (.int .i64 n_1) rfl<|s_q (.bool (decide (low_2 ≤ n_1))) rfl rfl rfl<|s_mov (.bool (decide (low_2 ≤ n_1))) rfl<|s_lit (s:=10) (b:=true) rfl c4<|s_on rfl<|s_mov (.int .i64 n_1) rfl<|s_on rfl<|s_mov (.int .i64 high_3) rfl<|s_on rfl<|s_q (.bool (decide (n_1 ≤ high_3))) rfl rfl rfl<|s_q (.bool (decide (n_1 ≤ high_3))) rfl trivial rfl<|s_mov (.bool (decide (n_1 ≤ high_3))) rfl<|dk<|w_ret<|?_;obtain rfl:=os hf;exact r_flat ⟨trivial,trivial⟩ rfl (.refl _)
 ·refine s_mov (.int .i64 low_2) rfl<|s_mov (.int .i64 n_1) rfl<|s_q (.bool (decide (low_2 ≤ n_1))) rfl rfl rfl<|s_mov (.bool (decide (low_2 ≤ n_1))) rfl<|s_lit (s:=10) (b:=false) rfl (bf c4)<|s_off rfl rfl<|s_off rfl rfl<|s_off rfl rfl<|s_q (.bool false) rfl trivial rfl<|s_mov (.bool false) rfl<|dk<|w_ret<|?_;obtain rfl:=os hf;exact r_flat ⟨trivial,trivial⟩ rfl (.refl _)

/- spec.l00Letter -/
def c198:ACode :=
 (.seq (.reg (tm 2 (.c (.bool false)) .done))
 (.seq (.reg (tm 3 (.t 0) (tq 4 (.bin .geq (.t 3) (.c (.int .u8 97))) (tm 5 (.t 4) (tg 6 5 true (.mov (.t 0)) (tg 7 5 true (.bin .leq (.t 6) (.c (.int .u8 122))) (tq 8 (.pick (.t 5) (.t 7) (.c (.bool false))) (tm 9 (.t 8) (tg 10 9 false (.mov (.t 0)) (tg 11 9 false (.bin .geq (.t 10) (.c (.int .u8 65))) (tg 12 9 false (.mov (.t 11)) (tg 13 12 true (.mov (.t 0)) (tg 14 12 true (.bin .leq (.t 13) (.c (.int .u8 90))) (tg 15 9 false (.pick (.t 12) (.t 14) (.c (.bool false))) (tq 16 (.pick (.t 9) (.c (.bool true)) (.t 15)) (tm 17 (.t 16) (tg 18 17 false (.mov (.t 0)) (tg 19 17 false (.bin .eql (.t 18) (.c (.int .u8 95))) (tq 20 (.pick (.t 17) (.c (.bool true)) (.t 19)) (tm 2 (.t 20) .done))))))))))))))))))))
 .ret))
theorem fc198:fcomp Tryz.prog Tryz.f198 = some (c198.erase,[.mov (.t 2)],21):=by kernel_rfl
def spec_l00Letter (c_1:Int):Option Bool :=
    some (bif (bif (bif (decide (c_1 ≥ 97)) then (decide (c_1 ≤ 122)) else false) then true else (bif (decide (c_1 ≥ 65)) then (decide (c_1 ≤ 90)) else false)) then true else (c_1 == 95))
theorem w_spec_l00Letter (c_1:Int) (r:Bool) (hf:spec_l00Letter c_1 = some r):CallOK Tryz.prog 198 .flat [(.int .u8 c_1)] (.bool r):=by
 refine CallOK.of_awp mixed Tryz.func198 fc198 nle ?_;rw [argT_eq];unfold spec_l00Letter at hf;unfold c198;refine (show awp Tryz.prog false 0 _ (ofL [(0,(.int .u8 c_1))]) [] _ from ?_);refine sr<|s_mov (.bool false) rfl<|dk<|sr<|s_mov (.int .u8 c_1) rfl<|s_q (.bool (decide (c_1 ≥ 97))) rfl rfl rfl<|s_mov (.bool (decide (c_1 ≥ 97))) rfl<|?_;refine s_g (v:=(decide (c_1 ≥ 97))) (.int .u8 c_1) rfl (fun hv => by (try simp only [gs_on hv]);exact ⟨rfl,trivial,rfl⟩) ?_;refine s_g (v:=(decide (c_1 ≥ 97))) (.bool (decide (c_1 ≤ 122))) rfl (fun hv => by (try simp only [gs_on hv]);exact ⟨rfl,rfl,rfl⟩) ?_;refine s_pick (x:=(decide (c_1 ≤ 122))) (y:=false) rfl (fun hv => by (try simp only [gs_on hv]);rfl) (fun hv => by (try simp only [gs_on hv]);rfl) ?_
 refine s_mov (.bool (bif (decide (c_1 ≥ 97)) then (decide (c_1 ≤ 122)) else false)) rfl ?_;refine s_g (v:=(bif (decide (c_1 ≥ 97)) then (decide (c_1 ≤ 122)) else false)) (.int .u8 c_1) rfl (fun hv => by (try simp only [gs_on hv]);exact ⟨rfl,trivial,rfl⟩) ?_;refine s_g (v:=(bif (decide (c_1 ≥ 97)) then (decide (c_1 ≤ 122)) else false)) (.bool (decide (c_1 ≥ 65))) rfl (fun hv => by (try simp only [gs_on hv]);exact ⟨rfl,rfl,rfl⟩) ?_;refine s_g (v:=(bif (decide (c_1 ≥ 97)) then (decide (c_1 ≤ 122)) else false)) (.bool (decide (c_1 ≥ 65))) rfl (fun hv => by (try simp only [gs_on hv]);exact ⟨rfl,trivial,rfl⟩) ?_;refine s_gg (v1:=(bif (decide (c_1 ≥ 97)) then (decide (c_1 ≤ 122)) else false)) (b1:=false) (v2:=(decide (c_1 ≥ 65))) (.int .u8 c_1) rfl (fun hv hw => by (try simp only [gs_on hv,gs_on hw]);exact ⟨rfl,trivial,rfl⟩) ?_
 refine s_gg (v1:=(bif (decide (c_1 ≥ 97)) then (decide (c_1 ≤ 122)) else false)) (b1:=false) (v2:=(decide (c_1 ≥ 65))) (.bool (decide (c_1 ≤ 90))) rfl (fun hv hw => by (try simp only [gs_on hv,gs_on hw]);exact ⟨rfl,rfl,rfl⟩) ?_;refine s_gp (v1:=(bif (decide (c_1 ≥ 97)) then (decide (c_1 ≤ 122)) else false)) (b1:=false) (v2:=(decide (c_1 ≥ 65))) (x:=(decide (c_1 ≤ 90))) (y:=false) rfl (fun hv => by (try simp only [gs_on hv]);rfl) (fun hv hw => by (try simp only [gs_on hv,gs_on hw]);rfl) (fun hv hw => by (try simp only [gs_on hv,gs_on hw]);rfl) ?_;refine s_pick (x:=true) (y:=(bif (decide (c_1 ≥ 65)) then (decide (c_1 ≤ 90)) else false)) rfl (fun hv => by (try simp only [gs_on hv]);rfl) (fun hv => by (try simp only [gs_on hv]);rfl) ?_
 refine s_mov (.bool (bif (bif (decide (c_1 ≥ 97)) then (decide (c_1 ≤ 122)) else false) then true else (bif (decide (c_1 ≥ 65)) then (decide (c_1 ≤ 90)) else false))) rfl ?_;refine s_g (v:=(bif (bif (decide (c_1 ≥ 97)) then (decide (c_1 ≤ 122)) else false) then true else (bif (decide (c_1 ≥ 65)) then (decide (c_1 ≤ 90)) else false))) (.int .u8 c_1) rfl (fun hv => by (try simp only [gs_on hv]);exact ⟨rfl,trivial,rfl⟩) ?_;refine s_g (v:=(bif (bif (decide (c_1 ≥ 97)) then (decide (c_1 ≤ 122)) else false) then true else (bif (decide (c_1 ≥ 65)) then (decide (c_1 ≤ 90)) else false))) (.bool (c_1 == 95)) rfl (fun hv => by (try simp only [gs_on hv]);exact ⟨rfl,rfl,rfl⟩) ?_;refine s_pick (x:=true) (y:=(c_1 == 95)) rfl (fun hv => by (try simp only [gs_on hv]);rfl) (fun hv => by (try simp only [gs_on hv]);rfl) ?_
 refine s_mov (.bool (bif (bif (bif (decide (c_1 ≥ 97)) then (decide (c_1 ≤ 122)) else false) then true else (bif (decide (c_1 ≥ 65)) then (decide (c_1 ≤ 90)) else false)) then true else (c_1 == 95))) rfl<|dk<|w_ret<|?_;obtain rfl:=os hf;exact r_flat ⟨trivial,trivial⟩ rfl (.refl _)

/- spec.l00Digit -/
def c199:ACode :=
 (.seq (.reg (tm 2 (.c (.bool false)) .done))
 (.seq (.reg (tm 3 (.t 0) (tq 4 (.bin .geq (.t 3) (.c (.int .u8 48))) (tm 5 (.t 4) (tg 6 5 true (.mov (.t 0)) (tg 7 5 true (.bin .leq (.t 6) (.c (.int .u8 57))) (tq 8 (.pick (.t 5) (.t 7) (.c (.bool false))) (tm 2 (.t 8) .done))))))))
 .ret))
theorem fc199:fcomp Tryz.prog Tryz.f199 = some (c199.erase,[.mov (.t 2)],9):=by kernel_rfl
def spec_l00Digit (c_1:Int):Option Bool :=
    if (decide (c_1 ≥ 48)) then
    some (decide (c_1 ≤ 57))
    else
    some false
theorem w_spec_l00Digit (c_1:Int) (r:Bool) (hf:spec_l00Digit c_1 = some r):CallOK Tryz.prog 199 .flat [(.int .u8 c_1)] (.bool r):=by
 refine CallOK.of_awp mixed Tryz.func199 fc199 nle ?_;rw [argT_eq];unfold spec_l00Digit at hf;unfold c199;refine (show awp Tryz.prog false 0 _ (ofL [(0,(.int .u8 c_1))]) [] _ from ?_);refine sr<|s_mov (.bool false) rfl<|dk<|sr<|?_
 rcases oi hf with ⟨c2,hf⟩ | ⟨c2,hf⟩
 ·refine s_mov (.int .u8 c_1) rfl<|s_q (.bool (decide (c_1 ≥ 48))) rfl rfl rfl<|s_mov (.bool (decide (c_1 ≥ 48))) rfl<|s_lit (s:=5) (b:=true) rfl c2<|s_on rfl<|s_mov (.int .u8 c_1) rfl<|s_on rfl<|s_q (.bool (decide (c_1 ≤ 57))) rfl rfl rfl<|s_q (.bool (decide (c_1 ≤ 57))) rfl trivial rfl<|s_mov (.bool (decide (c_1 ≤ 57))) rfl<|dk<|w_ret<|?_;obtain rfl:=os hf;exact r_flat ⟨trivial,trivial⟩ rfl (.refl _)
 ·refine s_mov (.int .u8 c_1) rfl<|s_q (.bool (decide (c_1 ≥ 48))) rfl rfl rfl<|s_mov (.bool (decide (c_1 ≥ 48))) rfl<|s_lit (s:=5) (b:=false) rfl (bf c2)<|s_off rfl rfl<|s_off rfl rfl<|s_q (.bool false) rfl trivial rfl<|s_mov (.bool false) rfl<|dk<|w_ret<|?_;obtain rfl:=os hf;exact r_flat ⟨trivial,trivial⟩ rfl (.refl _)

/- spec.l00Word -/
def c157:ACode :=
 (.seq (.reg (tm 2 (.c (.bool false)) .done))
 (.seq (.seq (.reg (tm 4 (.t 0) (tq 5 (.lenS (.t 4)) (tq 6 (.bin .lss (.t 5) (.c (.int .i64 1))) (tm 7 (.t 6) (tg 8 7 false (.mov (.t 0)) (tg 9 7 false (.lenS (.t 8)) (tg 10 7 false (.bin .gtr (.t 9) (.c (.int .i64 40))) (tq 11 (.pick (.t 7) (.c (.bool true)) (.t 10)) (tm 12 (.t 11) (tg 13 12 false (.mov (.t 0)) (tg 14 12 false (.idxs (.t 13) (.c (.int .i64 0))) (tg 15 12 false (.call 198 [(.t 14)]) (tg 16 12 false (.not (.t 15)) (tq 17 (.pick (.t 12) (.c (.bool true)) (.t 16)) .done)))))))))))))))
 (.cut (.cond (.t 17) (.seq (.reg (tm 2 (.c (.bool false)) .done))
 .ret)
 .skip)))
 (.seq (.seq (.reg (tm 3 (.c (.int .i64 1)) .done))
 (.block 0 (.loop (.seq (.seq (.reg (tm 18 (.t 3) (tm 19 (.t 0) (tq 20 (.lenS (.t 19)) (tq 21 (.bin .lss (.t 18) (.t 20)) .done)))))
 (.cond (.t 21) .skip
 (.exit 0)))
 (.seq (.block 1 (.seq (.reg (tm 24 (.t 0) (tm 25 (.t 3) (tq 26 (.idxs (.t 24) (.t 25)) (tq 27 (.call 198 [(.t 26)]) (tq 28 (.not (.t 27)) (tm 29 (.t 28) (tg 30 29 true (.mov (.t 0)) (tg 31 29 true (.mov (.t 3)) (tg 32 29 true (.idxs (.t 30) (.t 31)) (tg 33 29 true (.call 199 [(.t 32)]) (tg 34 29 true (.not (.t 33)) (tq 35 (.pick (.t 29) (.t 34) (.c (.bool false))) .done)))))))))))))
 (.cut (.cond (.t 35) (.seq (.reg (tm 2 (.c (.bool false)) .done))
 .ret)
 .skip))))
 (.reg (tm 22 (.t 3) (tq 23 (.bin .add (.t 22) (.c (.int .i64 1))) (tm 3 (.t 23) .done)))))))))
 (.cut (.seq (.reg (tm 2 (.c (.bool true)) .done))
 .ret)))))
theorem fc157:fcomp Tryz.prog Tryz.f157 = some (c157.erase,[.mov (.t 2)],36):=by kernel_rfl
def spec_l00Word_L1 :List UInt8 → Option (Fl Bool Unit)
  | [] =>
    some (.go ())
  | x_98 :: xs =>
    (((spec_l00Letter (x_98.toNat:Int)).bind fun r_108 =>
    if (!r_108) then
    (spec_l00Digit (x_98.toNat:Int)).bind fun r_111 =>
    some (!r_111)
    else
    some false:Option Bool)).bind fun s35_106 =>
    if s35_106 then
    some (.ret false)
    else
    spec_l00Word_L1 xs 

def spec_l00Word (t_1:Str):Option Bool :=
    ((if (bif (decide ((t_1.length:Int) < 1)) then true else (decide ((t_1.length:Int) > 40))) then
    some true
    else
    (idx t_1 0).bind fun b_14 =>
    (spec_l00Letter (b_14.toNat:Int)).bind fun r_16 =>
    some (!r_16):Option Bool)).bind fun s17_9 =>
    if s17_9 then
    some false
    else
    (spec_l00Word_L1 (t_1.drop 1) ).bind fun q => (match q with
    | .ret r => some r
    | .go _ =>
    some true)
theorem w_spec_l00Word (t_1:Str) (r:Bool) (hf:spec_l00Word t_1 = some r):CallOK Tryz.prog 157 .flat [(.str t_1)] (.bool r):=by
 refine CallOK.of_awp mixed Tryz.func157 fc157 nle ?_;rw [argT_eq];unfold spec_l00Word at hf;unfold c157;refine (show awp Tryz.prog false 0 _ (ofL [(0,(.str t_1))]) [] _ from ?_);refine sr<|s_mov (.bool false) rfl<|dk<|awp_seq<|awp_seq<|?_
 obtain ⟨s17_9,hb1,hf⟩:=ob hf
 refine awp_cut ([(0,(.str t_1)),(17,(.bool s17_9))],[]) ?_ ?_
 ·refine w_reg<|s_mov (.str t_1) rfl<|s_dof (o_lenS rfl) fun hl11 => s_q (.bool (decide ((t_1.length:Int) < 1))) rfl rfl rfl<|s_mov (.bool (decide ((t_1.length:Int) < 1))) rfl<|?_;refine s_g (v:=(decide ((t_1.length:Int) < 1))) (.str t_1) rfl (fun hv => by (try simp only [gs_on hv]);exact ⟨rfl,trivial,rfl⟩) ?_;refine s_g (v:=(decide ((t_1.length:Int) < 1))) (.int .i64 (t_1.length:Int)) rfl (fun hv => by (try simp only [gs_on hv]);exact ⟨rfl,trivial,rfl⟩) ?_;refine s_g (v:=(decide ((t_1.length:Int) < 1))) (.bool (decide ((t_1.length:Int) > 40))) rfl (fun hv => by (try simp only [gs_on hv]);exact ⟨rfl,rfl,rfl⟩) ?_;refine s_pick (x:=true) (y:=(decide ((t_1.length:Int) > 40))) rfl (fun hv => by (try simp only [gs_on hv]);rfl) (fun hv => by (try simp only [gs_on hv]);rfl) ?_
  refine s_mov (.bool (bif (decide ((t_1.length:Int) < 1)) then true else (decide ((t_1.length:Int) > 40)))) rfl ?_
  rcases oi hb1 with ⟨c13,hb1⟩ | ⟨c13,hb1⟩
  ·refine s_lit (s:=12) (b:=true) rfl c13<|s_off rfl rfl<|s_off rfl rfl<|s_off rfl rfl<|s_off rfl rfl<|s_q (.bool true) rfl trivial rfl<|w_done<|?_;obtain rfl:=os hb1;exact ⟨[],[],_,_,rfl,rfl,⟨.refl _,⟨.refl _,trivial⟩⟩,(.refl _)⟩
  ·refine s_lit (s:=12) (b:=false) rfl (bf c13)<|s_on rfl<|s_mov (.str t_1) rfl<|s_on rfl<|?_
   obtain ⟨b_14,eb15,hb1⟩:=ob hb1
   refine s_do (o_idxs rfl rfl (idx0 eb15) (idx1 eb15))<|s_on rfl<|?_
   obtain ⟨r_16,er17,hb1⟩:=ob hb1
   refine s_do (o_call (w_spec_l00Letter _ _ er17) rfl (.refl _) rfl)<|s_on rfl<|s_q (.bool (!r_16)) rfl trivial rfl<|s_q (.bool (!r_16)) rfl trivial rfl<|w_done<|?_;obtain rfl:=os hb1;exact ⟨[],[],_,_,rfl,rfl,⟨.refl _,⟨.refl _,trivial⟩⟩,(.refl _)⟩
 ·rcases oi hf with ⟨c18,hf⟩ | ⟨c18,hf⟩
  ·refine w_condt rfl c18<|sr<|s_mov (.bool false) rfl<|dk<|w_ret<|?_;obtain rfl:=os hf;exact r_flat ⟨trivial,trivial⟩ rfl (.refl _)
  ·refine w_condf rfl (bf c18)<|w_skip<|k_seq<|awp_seq<|sr<|s_mov (.int .i64 1) rfl<|dk<|?_
   obtain ⟨p91,hb1,hf⟩:=ob hf
   refine awp_cutx (X:={q:Unit // p91 = .go q}) (fun q => ([],[])) ?_ ?_
   ·refine awp_loop (X:={q:Nat // spec_l00Word_L1 (t_1.drop q)  = some p91}) (fun q => ([(0,(.str t_1)),(3,(.int .i64 (q.1:Int)))],[])) (fun q => t_1.length - q.1) ⟨1,hb1⟩ ⟨[],[],_,_,rfl,rfl,⟨.refl _,⟨.refl _,trivial⟩⟩,(.refl _)⟩ ?_
    rintro ⟨i_66,hc1⟩
    have hc1:spec_l00Word_L1 (t_1.drop i_66)  = some p91:=hc1
    refine (show awp Tryz.prog false 0 _ (ofL [(0,(.str t_1)),(3,(.int .i64 (i_66:Int)))]) [] _ from ?_)
    rcases dropc t_1 i_66 with ⟨hie94,hd97⟩ | ⟨hlt92,x_98,hx93,hd97⟩
    ·rw [hd97,spec_l00Word_L1.eq_1] at hc1
     have hq96:=dlf hie94
     refine awp_seq<|sr<|s_mov (.int .i64 (i_66:Int)) rfl<|s_mov (.str t_1) rfl<|s_dof (o_lenS rfl) fun hl99 => s_q (.bool (decide ((i_66:Int) < (t_1.length:Int)))) rfl rfl rfl<|dk<|w_condf rfl hq96<|w_exit<|k_seqx<|k_loopx<|k_blkx<|?_;obtain rfl:=os hc1;exact k_cutn ⟨_,rfl⟩ ⟨[],[],_,_,rfl,rfl,trivial,(.refl _)⟩
    ·rw [hd97,spec_l00Word_L1.eq_2] at hc1
     have hq96:=dlt hlt92
     refine awp_seq<|sr<|s_mov (.int .i64 (i_66:Int)) rfl<|s_mov (.str t_1) rfl<|s_dof (o_lenS rfl) fun hl100 => s_q (.bool (decide ((i_66:Int) < (t_1.length:Int)))) rfl rfl rfl<|dk<|w_condt rfl hq96<|w_skip<|k_seq<|awp_seq<|w_blk<|awp_seq<|?_
     obtain ⟨s35_106,hb2,hc1⟩:=ob hc1
     refine awp_cut ([(0,(.str t_1)),(3,(.int .i64 (i_66:Int))),(35,(.bool s35_106))],[]) ?_ ?_
     ·refine w_reg ?_
      obtain ⟨r_108,er109,hb2⟩:=ob hb2
      rcases oi hb2 with ⟨c110,hb2⟩ | ⟨c110,hb2⟩
      ·obtain ⟨r_111,er112,hb2⟩:=ob hb2
       refine s_mov (.str t_1) rfl<|s_mov (.int .i64 (i_66:Int)) rfl<|s_do (o_idxsn rfl rfl hx93)<|s_do (o_call (w_spec_l00Letter _ _ er109) rfl (.refl _) rfl)<|s_q (.bool (!r_108)) rfl trivial rfl<|s_mov (.bool (!r_108)) rfl<|s_lit (s:=29) (b:=true) rfl c110<|s_on rfl<|s_mov (.str t_1) rfl<|s_on rfl<|s_mov (.int .i64 (i_66:Int)) rfl<|s_on rfl<|s_do (o_idxsn rfl rfl hx93)<|s_on rfl<|s_do (o_call (w_spec_l00Digit _ _ er112) rfl (.refl _) rfl)<|s_on rfl<|s_q (.bool (!r_111)) rfl trivial rfl<|s_q (.bool (!r_111)) rfl trivial rfl<|w_done<|?_;obtain rfl:=os hb2;exact ⟨[],[],_,_,rfl,rfl,⟨.refl _,⟨.refl _,⟨.refl _,trivial⟩⟩⟩,(.refl _)⟩
      ·refine s_mov (.str t_1) rfl<|s_mov (.int .i64 (i_66:Int)) rfl<|s_do (o_idxsn rfl rfl hx93)<|s_do (o_call (w_spec_l00Letter _ _ er109) rfl (.refl _) rfl)<|s_q (.bool (!r_108)) rfl trivial rfl<|s_mov (.bool (!r_108)) rfl<|s_lit (s:=29) (b:=false) rfl (bf c110)<|s_off rfl rfl<|s_off rfl rfl<|s_off rfl rfl<|s_off rfl rfl<|s_off rfl rfl<|s_q (.bool false) rfl trivial rfl<|w_done<|?_;obtain rfl:=os hb2;exact ⟨[],[],_,_,rfl,rfl,⟨.refl _,⟨.refl _,⟨.refl _,trivial⟩⟩⟩,(.refl _)⟩
     ·rcases oi hc1 with ⟨c113,hc1⟩ | ⟨c113,hc1⟩
      ·refine w_condt rfl c113<|sr<|s_mov (.bool false) rfl<|dk<|w_ret<|?_;obtain rfl:=os hc1;obtain rfl:=os hf;exact r_flat ⟨trivial,trivial⟩ rfl (.refl _)
      ·refine w_condf rfl (bf c113)<|w_skip<|k_blk<|k_seq<|w_reg<|s_mov (.int .i64 (i_66:Int)) rfl<|s_q (.int .i64 (w64 ((i_66:Int) + 1))) rfl rfl rfl<|s_mov (.int .i64 (w64 ((i_66:Int) + 1))) rfl<|w_done<|?_;exact k_loopn ⟨(i_66 + 1),hc1⟩ (mul hlt92) ⟨[],[],_,_,rfl,rfl,⟨.refl _,⟨.of_eq (congrArg (AV.int _) (w64_incr hlt92 hl100)),trivial⟩⟩,(.refl _)⟩
   ·rintro ⟨_,rfl⟩
    refine sr<|s_mov (.bool true) rfl<|dk<|w_ret<|?_;obtain rfl:=os hf;exact r_flat ⟨trivial,trivial⟩ rfl (.refl _)

/- spec.NameOK -/
def c99:ACode :=
 (.seq (.reg (tm 2 (.c (.bool false)) .done))
 (.seq (.reg (tm 3 (.t 0) (tq 4 (.call 157 [(.t 3)]) (tm 2 (.t 4) .done))))
 .ret))
theorem fc99:fcomp Tryz.prog Tryz.f99 = some (c99.erase,[.mov (.t 2)],5):=by kernel_rfl
def spec_NameOK (t_1:Str):Option Bool :=
    (spec_l00Word t_1).bind fun r_2 =>
    some r_2
theorem w_spec_NameOK (t_1:Str) (r:Bool) (hf:spec_NameOK t_1 = some r):CallOK Tryz.prog 99 .flat [(.str t_1)] (.bool r):=by
  refine CallOK.of_awp mixed Tryz.func99 fc99 nle ?_
  rw [argT_eq]
  unfold spec_NameOK at hf
  unfold c99
  refine (show awp Tryz.prog false 0 _ (ofL [(0,(.str t_1))]) [] _ from ?_)
  refine awp_seq ?_
  refine w_reg ?_
  refine s_do (o_mov (.bool false) rfl) ?_
  refine w_done ?_
  refine k_seq ?_
  refine awp_seq ?_
  refine w_reg ?_
  obtain ⟨r_2,er3,hf⟩:=ob hf
  refine s_do (o_mov (.str t_1) rfl) ?_
  refine s_do (o_call (w_spec_l00Word _ _ er3) rfl (.refl _) rfl) ?_
  refine s_do (o_mov (.bool r_2) rfl) ?_
  refine w_done ?_
  refine k_seq ?_
  refine w_ret ?_
  obtain rfl:=os hf
  exact r_flat ⟨trivial,trivial⟩ rfl (.refl _)

/- spec.ColumnOK -/
def c142:ACode :=
 (.seq (.reg (tq 1 (.box 8 (.t 0)) (tm 2 (.c (.bool false)) .done)))
 (.seq (.seq (.reg (tq 3 (.faddr 0 (.t 1)) (tq 4 (.load 1 false (.t 3)) (tq 5 (.call 99 [(.t 4)]) (tq 6 (.not (.t 5)) (tm 7 (.t 6) (tg 8 7 false (.faddr 1 (.t 1)) (tg 9 7 false (.load 1 false (.t 8)) (tg 10 7 false (.call 95 [(.t 9),(.c (.int .i64 1)),(.c (.int .i64 4))]) (tg 11 7 false (.not (.t 10)) (tq 12 (.pick (.t 7) (.c (.bool true)) (.t 11)) (tm 13 (.t 12) (tg 14 13 false (.faddr 2 (.t 1)) (tg 15 13 false (.load 1 false (.t 14)) (tg 16 13 false (.call 95 [(.t 15),(.c (.int .i64 0)),(.c (.int .i64 1))]) (tg 17 13 false (.not (.t 16)) (tq 18 (.pick (.t 13) (.c (.bool true)) (.t 17)) (tm 19 (.t 18) (tg 20 19 false (.faddr 3 (.t 1)) (tg 21 19 false (.load 1 false (.t 20)) (tg 22 19 false (.call 95 [(.t 21),(.c (.int .i64 1)),(.c (.int .i64 8))]) (tg 23 19 false (.not (.t 22)) (tq 24 (.pick (.t 19) (.c (.bool true)) (.t 23)) .done)))))))))))))))))))))))
 (.cut (.cond (.t 24) (.seq (.reg (tm 2 (.c (.bool false)) .done))
 .ret)
 .skip)))
 (.seq (.seq (.reg (tq 25 (.faddr 1 (.t 1)) (tq 26 (.load 1 false (.t 25)) (tq 27 (.bin .eql (.t 26) (.c (.int .i64 1))) .done))))
 (.cond (.t 27) (.seq (.reg (tq 28 (.faddr 4 (.t 1)) (tq 29 (.load 1 false (.t 28)) (tq 30 (.faddr 5 (.t 1)) (tq 31 (.load 1 false (.t 30)) (tq 32 (.call 95 [(.t 29),(.c (.int .i64 (-1000000000))),(.t 31)]) (tm 33 (.t 32) (tg 34 33 true (.faddr 5 (.t 1)) (tg 35 33 true (.load 1 false (.t 34)) (tg 36 33 true (.faddr 4 (.t 1)) (tg 37 33 true (.load 1 false (.t 36)) (tg 38 33 true (.call 95 [(.t 35),(.t 37),(.c (.int .i64 1000000000))]) (tq 39 (.pick (.t 33) (.t 38) (.c (.bool false))) (tm 40 (.t 39) (tg 41 40 true (.faddr 6 (.t 1)) (tg 42 40 true (.load 1 false (.t 41)) (tg 43 40 true (.bin .eql (.t 42) (.c (.str []))) (tq 44 (.pick (.t 40) (.t 43) (.c (.bool false))) (tm 45 (.t 44) (tg 46 45 true (.faddr 7 (.t 1)) (tg 47 45 true (.load 1 false (.t 46)) (tg 48 45 true (.not (.t 47)) (tq 49 (.pick (.t 45) (.t 48) (.c (.bool false))) (tm 2 (.t 49) .done))))))))))))))))))))))))
 .ret)
 .skip))
 (.seq (.seq (.reg (tq 50 (.faddr 4 (.t 1)) (tq 51 (.load 1 false (.t 50)) (tq 52 (.bin .neq (.t 51) (.c (.int .i64 0))) (tm 53 (.t 52) (tg 54 53 false (.faddr 5 (.t 1)) (tg 55 53 false (.load 1 false (.t 54)) (tg 56 53 false (.bin .neq (.t 55) (.c (.int .i64 0))) (tq 57 (.pick (.t 53) (.c (.bool true)) (.t 56)) .done)))))))))
 (.cut (.cond (.t 57) (.seq (.reg (tm 2 (.c (.bool false)) .done))
 .ret)
 .skip)))
 (.seq (.seq (.reg (tq 58 (.faddr 1 (.t 1)) (tq 59 (.load 1 false (.t 58)) (tq 60 (.bin .eql (.t 59) (.c (.int .i64 4))) .done))))
 (.cond (.t 60) (.seq (.reg (tq 61 (.faddr 6 (.t 1)) (tq 62 (.load 1 false (.t 61)) (tq 63 (.call 99 [(.t 62)]) (tm 64 (.t 63) (tg 65 64 true (.faddr 2 (.t 1)) (tg 66 64 true (.load 1 false (.t 65)) (tg 67 64 true (.bin .eql (.t 66) (.c (.int .i64 0))) (tq 68 (.pick (.t 64) (.t 67) (.c (.bool false))) (tm 2 (.t 68) .done))))))))))
 .ret)
 .skip))
 (.seq (.reg (tq 69 (.faddr 6 (.t 1)) (tq 70 (.load 1 false (.t 69)) (tq 71 (.bin .eql (.t 70) (.c (.str []))) (tm 72 (.t 71) (tg 73 72 true (.faddr 7 (.t 1)) (tg 74 72 true (.load 1 false (.t 73)) (tg 75 72 true (.not (.t 74)) (tq 76 (.pick (.t 72) (.t 75) (.c (.bool false))) (tm 2 (.t 76) .done))))))))))
 .ret))))))
theorem fc142:fcomp Tryz.prog Tryz.f142 = some (c142.erase,[.mov (.t 2)],77):=by kernel_rfl
def spec_ColumnOK (c_1:GColumn):Option Bool :=
    (((spec_NameOK c_1.Name).bind fun r_15 =>
    if (!r_15) then
    some true
    else
    (spec_l01In c_1.Kind 1 4).bind fun r_18 =>
    if (!r_18) then
    some true
    else
    (spec_l01In c_1.Min 0 1).bind fun r_21 =>
    if (!r_21) then
    some true
    else
    (spec_l01In c_1.Max 1 8).bind fun r_24 =>
    some (!r_24):Option Bool)).bind fun s24_13 =>
    if s24_13 then
    some false
    else
    if (c_1.Kind == 1) then
    (spec_l01In c_1.Low (-1000000000) c_1.High).bind fun r_28 =>
    if r_28 then
    (spec_l01In c_1.High c_1.Low 1000000000).bind fun r_31 =>
    some (bif (bif r_31 then (c_1.Ref == []) else false) then (!c_1.Strong) else false)
    else
    some false
    else
    ((if (c_1.Low != 0) then
    some true
    else
    some (c_1.High != 0):Option Bool)).bind fun s57_34 =>
    if s57_34 then
    some false
    else
    if (c_1.Kind == 4) then
    (spec_NameOK c_1.Ref).bind fun r_39 =>
    if r_39 then
    some (c_1.Min == 0)
    else
    some false
    else
    if (c_1.Ref == []) then
    some (!c_1.Strong)
    else
    some false
theorem w_spec_ColumnOK (c_1:GColumn) (r:Bool) (hf:spec_ColumnOK c_1 = some r):CallOK Tryz.prog 142 .flat [(encGColumn c_1)] (.bool r):=by
 refine CallOK.of_awp mixed Tryz.func142 fc142 nle ?_;rw [argT_eq];unfold spec_ColumnOK at hf;unfold c142;refine (show awp Tryz.prog false 0 _ (ofL [(0,(encGColumn c_1))]) [] _ from ?_);refine sr<|s_do (o_box (j:=0) (c:=(.agg [(.str c_1.Name),(.int .i64 c_1.Kind),(.int .i64 c_1.Min),(.int .i64 c_1.Max),(.int .i64 c_1.Low),(.int .i64 c_1.High),(.str c_1.Ref),(.bool c_1.Strong)])) rfl trivial rfl rfl)<|s_mov (.bool false) rfl<|dk<|awp_seq<|awp_seq<|?_
 obtain ⟨s24_13,hb1,hf⟩:=ob hf
 refine awp_cut ([(1,(.ptr 0 0 0)),(24,(.bool s24_13))],[.box 8 (.agg [(.str c_1.Name),(.int .i64 c_1.Kind),(.int .i64 c_1.Min),(.int .i64 c_1.Max),(.int .i64 c_1.Low),(.int .i64 c_1.High),(.str c_1.Ref),(.bool c_1.Strong)])]) ?_ ?_
 ·refine w_reg<|s_q (.ptr 0 0 0) rfl trivial rfl<|s_q (.str c_1.Name) rfl nle rfl<|?_
  obtain ⟨r_15,er16,hb1⟩:=ob hb1
  refine s_do (o_call (w_spec_NameOK _ _ er16) rfl (.refl _) rfl)<|s_q (.bool (!r_15)) rfl trivial rfl<|s_mov (.bool (!r_15)) rfl<|?_
  rcases oi hb1 with ⟨c17,hb1⟩ | ⟨c17,hb1⟩
  ·refine s_lit (s:=7) (b:=true) rfl c17<|s_off rfl rfl<|s_off rfl rfl<|s_off rfl rfl<|s_off rfl rfl<|s_q (.bool true) rfl trivial rfl<|s_mov (.bool true) rfl<|s_off rfl rfl<|s_off rfl rfl<|s_off rfl rfl<|s_off rfl rfl<|s_q (.bool true) rfl trivial rfl<|s_mov (.bool true) rfl<|s_off rfl rfl<|s_off rfl rfl<|s_off rfl rfl<|s_off rfl rfl<|s_q (.bool true) rfl trivial rfl<|w_done<|?_;obtain rfl:=os hb1;exact ⟨[],[0],_,_,rfl,rfl,⟨.refl _,⟨.refl _,trivial⟩⟩,(.refl _)⟩
  ·refine s_lit (s:=7) (b:=false) rfl (bf c17)<|s_on rfl<|s_q (.ptr 0 0 1) rfl trivial rfl<|s_on rfl<|s_q (.int .i64 c_1.Kind) rfl nle rfl<|s_on rfl<|?_
   obtain ⟨r_18,er19,hb1⟩:=ob hb1
   refine s_do (o_call (w_spec_l01In _ _ _ _ er19) rfl (.refl _) rfl)<|s_on rfl<|s_q (.bool (!r_18)) rfl trivial rfl<|s_q (.bool (!r_18)) rfl trivial rfl<|s_mov (.bool (!r_18)) rfl<|?_
   rcases oi hb1 with ⟨c20,hb1⟩ | ⟨c20,hb1⟩
   ·refine s_lit (s:=13) (b:=true) rfl c20<|s_off rfl rfl<|s_off rfl rfl<|s_off rfl rfl<|s_off rfl rfl<|s_q (.bool true) rfl trivial rfl<|s_mov (.bool true) rfl<|s_off rfl rfl<|s_off rfl rfl<|s_off rfl rfl<|s_off rfl rfl<|s_q (.bool true) rfl trivial rfl<|w_done<|?_;obtain rfl:=os hb1;exact ⟨[],[0],_,_,rfl,rfl,⟨.refl _,⟨.refl _,trivial⟩⟩,(.refl _)⟩
   ·refine s_lit (s:=13) (b:=false) rfl (bf c20)<|s_on rfl<|s_q (.ptr 0 0 2) rfl trivial rfl<|s_on rfl<|s_q (.int .i64 c_1.Min) rfl nle rfl<|s_on rfl<|?_
    obtain ⟨r_21,er22,hb1⟩:=ob hb1
    refine s_do (o_call (w_spec_l01In _ _ _ _ er22) rfl (.refl _) rfl)<|s_on rfl<|s_q (.bool (!r_21)) rfl trivial rfl<|s_q (.bool (!r_21)) rfl trivial rfl<|s_mov (.bool (!r_21)) rfl<|?_
    rcases oi hb1 with ⟨c23,hb1⟩ | ⟨c23,hb1⟩
    ·refine s_lit (s:=19) (b:=true) rfl c23<|s_off rfl rfl<|s_off rfl rfl<|s_off rfl rfl<|s_off rfl rfl<|s_q (.bool true) rfl trivial rfl<|w_done<|?_;obtain rfl:=os hb1;exact ⟨[],[0],_,_,rfl,rfl,⟨.refl _,⟨.refl _,trivial⟩⟩,(.refl _)⟩
    ·refine s_lit (s:=19) (b:=false) rfl (bf c23)<|s_on rfl<|s_q (.ptr 0 0 3) rfl trivial rfl<|s_on rfl<|s_q (.int .i64 c_1.Max) rfl nle rfl<|s_on rfl<|?_
     obtain ⟨r_24,er25,hb1⟩:=ob hb1
     refine s_do (o_call (w_spec_l01In _ _ _ _ er25) rfl (.refl _) rfl)<|s_on rfl<|s_q (.bool (!r_24)) rfl trivial rfl<|s_q (.bool (!r_24)) rfl trivial rfl<|w_done<|?_;obtain rfl:=os hb1;exact ⟨[],[0],_,_,rfl,rfl,⟨.refl _,⟨.refl _,trivial⟩⟩,(.refl _)⟩
 ·rcases oi hf with ⟨c26,hf⟩ | ⟨c26,hf⟩
  ·refine w_condt rfl c26<|sr<|s_mov (.bool false) rfl<|dk<|w_ret<|?_;obtain rfl:=os hf;exact r_flat ⟨trivial,trivial⟩ rfl (.refl _)
  ·refine w_condf rfl (bf c26)<|w_skip<|k_seq<|awp_seq<|sr<|s_q (.ptr 0 0 1) rfl trivial rfl<|s_q (.int .i64 c_1.Kind) rfl nle rfl<|s_q (.bool (c_1.Kind == 1)) rfl rfl rfl<|dk<|?_
   rcases oi hf with ⟨c27,hf⟩ | ⟨c27,hf⟩
   ·refine w_condt rfl c27<|sr<|s_q (.ptr 0 0 4) rfl trivial rfl<|s_q (.int .i64 c_1.Low) rfl nle rfl<|s_q (.ptr 0 0 5) rfl trivial rfl<|s_q (.int .i64 c_1.High) rfl nle rfl<|?_
    obtain ⟨r_28,er29,hf⟩:=ob hf
    refine s_do (o_call (w_spec_l01In _ _ _ _ er29) rfl (.refl _) rfl)<|s_mov (.bool r_28) rfl<|?_
    rcases oi hf with ⟨c30,hf⟩ | ⟨c30,hf⟩
    ·refine s_lit (s:=33) (b:=true) rfl c30<|s_on rfl<|s_q (.ptr 0 0 5) rfl trivial rfl<|s_on rfl<|s_q (.int .i64 c_1.High) rfl nle rfl<|s_on rfl<|s_q (.ptr 0 0 4) rfl trivial rfl<|s_on rfl<|s_q (.int .i64 c_1.Low) rfl nle rfl<|s_on rfl<|?_
     obtain ⟨r_31,er32,hf⟩:=ob hf
     refine s_do (o_call (w_spec_l01In _ _ _ _ er32) rfl (.refl _) rfl)<|s_q (.bool r_31) rfl trivial rfl<|s_mov (.bool r_31) rfl<|?_;refine s_g (v:=r_31) (.ptr 0 0 6) rfl (fun hv => by (try simp only [gs_on hv]);exact ⟨rfl,trivial,rfl⟩) ?_;refine s_g (v:=r_31) (.str c_1.Ref) rfl (fun hv => by (try simp only [gs_on hv]);exact ⟨rfl,nle,rfl⟩) ?_;refine s_g (v:=r_31) (.bool (c_1.Ref == [])) rfl (fun hv => by (try simp only [gs_on hv]);exact ⟨rfl,trivial,rfl⟩) ?_;refine s_pick (x:=(c_1.Ref == [])) (y:=false) rfl (fun hv => by (try simp only [gs_on hv]);rfl) (fun hv => by (try simp only [gs_on hv]);rfl) ?_;refine s_mov (.bool (bif r_31 then (c_1.Ref == []) else false)) rfl ?_;refine s_g (v:=(bif r_31 then (c_1.Ref == []) else false)) (.ptr 0 0 7) rfl (fun hv => by (try simp only [gs_on hv]);exact ⟨rfl,trivial,rfl⟩) ?_
     refine s_g (v:=(bif r_31 then (c_1.Ref == []) else false)) (.bool c_1.Strong) rfl (fun hv => by (try simp only [gs_on hv]);exact ⟨rfl,nle,rfl⟩) ?_;refine s_g (v:=(bif r_31 then (c_1.Ref == []) else false)) (.bool (!c_1.Strong)) rfl (fun hv => by (try simp only [gs_on hv]);exact ⟨rfl,trivial,rfl⟩) ?_;refine s_pick (x:=(!c_1.Strong)) (y:=false) rfl (fun hv => by (try simp only [gs_on hv]);rfl) (fun hv => by (try simp only [gs_on hv]);rfl) ?_;refine s_mov (.bool (bif (bif r_31 then (c_1.Ref == []) else false) then (!c_1.Strong) else false)) rfl<|dk<|w_ret<|?_;obtain rfl:=os hf;exact r_flat ⟨trivial,trivial⟩ rfl (.refl _)
    ·refine s_lit (s:=33) (b:=false) rfl (bf c30)<|s_off rfl rfl<|s_off rfl rfl<|s_off rfl rfl<|s_off rfl rfl<|s_off rfl rfl<|s_q (.bool false) rfl trivial rfl<|s_mov (.bool false) rfl<|s_off rfl rfl<|s_off rfl rfl<|s_off rfl rfl<|s_q (.bool false) rfl trivial rfl<|s_mov (.bool false) rfl<|s_off rfl rfl<|s_off rfl rfl<|s_off rfl rfl<|s_q (.bool false) rfl trivial rfl<|s_mov (.bool false) rfl<|dk<|w_ret<|?_;obtain rfl:=os hf;exact r_flat ⟨trivial,trivial⟩ rfl (.refl _)
   ·refine w_condf rfl (bf c27)<|w_skip<|k_seq<|awp_seq<|awp_seq<|?_
    obtain ⟨s57_34,hb1,hf⟩:=ob hf
    refine awp_cut ([(1,(.ptr 0 0 0)),(57,(.bool s57_34))],[.box 8 (.agg [(.str c_1.Name),(.int .i64 c_1.Kind),(.int .i64 c_1.Min),(.int .i64 c_1.Max),(.int .i64 c_1.Low),(.int .i64 c_1.High),(.str c_1.Ref),(.bool c_1.Strong)])]) ?_ ?_
    ·refine w_reg ?_
     rcases oi hb1 with ⟨c36,hb1⟩ | ⟨c36,hb1⟩
     ·refine s_q (.ptr 0 0 4) rfl trivial rfl<|s_q (.int .i64 c_1.Low) rfl nle rfl<|s_q (.bool (c_1.Low != 0)) rfl rfl rfl<|s_mov (.bool (c_1.Low != 0)) rfl<|s_lit (s:=53) (b:=true) rfl c36<|s_off rfl rfl<|s_off rfl rfl<|s_off rfl rfl<|s_q (.bool true) rfl trivial rfl<|w_done<|?_;obtain rfl:=os hb1;exact ⟨[],[0],_,_,rfl,rfl,⟨.refl _,⟨.refl _,trivial⟩⟩,(.refl _)⟩
     ·refine s_q (.ptr 0 0 4) rfl trivial rfl<|s_q (.int .i64 c_1.Low) rfl nle rfl<|s_q (.bool (c_1.Low != 0)) rfl rfl rfl<|s_mov (.bool (c_1.Low != 0)) rfl<|s_lit (s:=53) (b:=false) rfl (bf c36)<|s_on rfl<|s_q (.ptr 0 0 5) rfl trivial rfl<|s_on rfl<|s_q (.int .i64 c_1.High) rfl nle rfl<|s_on rfl<|s_q (.bool (c_1.High != 0)) rfl rfl rfl<|s_q (.bool (c_1.High != 0)) rfl trivial rfl<|w_done<|?_;obtain rfl:=os hb1;exact ⟨[],[0],_,_,rfl,rfl,⟨.refl _,⟨.refl _,trivial⟩⟩,(.refl _)⟩
    ·rcases oi hf with ⟨c37,hf⟩ | ⟨c37,hf⟩
     ·refine w_condt rfl c37<|sr<|s_mov (.bool false) rfl<|dk<|w_ret<|?_;obtain rfl:=os hf;exact r_flat ⟨trivial,trivial⟩ rfl (.refl _)
     ·refine w_condf rfl (bf c37)<|w_skip<|k_seq<|awp_seq<|sr<|s_q (.ptr 0 0 1) rfl trivial rfl<|s_q (.int .i64 c_1.Kind) rfl nle rfl<|s_q (.bool (c_1.Kind == 4)) rfl rfl rfl<|dk<|?_
      rcases oi hf with ⟨c38,hf⟩ | ⟨c38,hf⟩
      ·refine w_condt rfl c38<|sr<|?_
       obtain ⟨r_39,er40,hf⟩:=ob hf
       rcases oi hf with ⟨c41,hf⟩ | ⟨c41,hf⟩
       ·refine s_q (.ptr 0 0 6) rfl trivial rfl<|s_q (.str c_1.Ref) rfl nle rfl<|s_do (o_call (w_spec_NameOK _ _ er40) rfl (.refl _) rfl)<|s_mov (.bool r_39) rfl<|s_lit (s:=64) (b:=true) rfl c41<|s_on rfl<|s_q (.ptr 0 0 2) rfl trivial rfl<|s_on rfl<|s_q (.int .i64 c_1.Min) rfl nle rfl<|s_on rfl<|s_q (.bool (c_1.Min == 0)) rfl rfl rfl<|s_q (.bool (c_1.Min == 0)) rfl trivial rfl<|s_mov (.bool (c_1.Min == 0)) rfl<|dk<|w_ret<|?_;obtain rfl:=os hf;exact r_flat ⟨trivial,trivial⟩ rfl (.refl _)
       ·refine s_q (.ptr 0 0 6) rfl trivial rfl<|s_q (.str c_1.Ref) rfl nle rfl<|s_do (o_call (w_spec_NameOK _ _ er40) rfl (.refl _) rfl)<|s_mov (.bool r_39) rfl<|s_lit (s:=64) (b:=false) rfl (bf c41)<|s_off rfl rfl<|s_off rfl rfl<|s_off rfl rfl<|s_q (.bool false) rfl trivial rfl<|s_mov (.bool false) rfl<|dk<|w_ret<|?_;obtain rfl:=os hf;exact r_flat ⟨trivial,trivial⟩ rfl (.refl _)
      ·refine w_condf rfl (bf c38)<|w_skip<|k_seq<|sr<|?_
       rcases oi hf with ⟨c42,hf⟩ | ⟨c42,hf⟩
       ·refine s_q (.ptr 0 0 6) rfl trivial rfl<|s_q (.str c_1.Ref) rfl nle rfl<|s_q (.bool (c_1.Ref == [])) rfl trivial rfl<|s_mov (.bool (c_1.Ref == [])) rfl<|s_lit (s:=72) (b:=true) rfl c42<|s_on rfl<|s_q (.ptr 0 0 7) rfl trivial rfl<|s_on rfl<|s_q (.bool c_1.Strong) rfl nle rfl<|s_on rfl<|s_q (.bool (!c_1.Strong)) rfl trivial rfl<|s_q (.bool (!c_1.Strong)) rfl trivial rfl<|s_mov (.bool (!c_1.Strong)) rfl<|dk<|w_ret<|?_;obtain rfl:=os hf;exact r_flat ⟨trivial,trivial⟩ rfl (.refl _)
       ·refine s_q (.ptr 0 0 6) rfl trivial rfl<|s_q (.str c_1.Ref) rfl nle rfl<|s_q (.bool (c_1.Ref == [])) rfl trivial rfl<|s_mov (.bool (c_1.Ref == [])) rfl<|s_lit (s:=72) (b:=false) rfl (bf c42)<|s_off rfl rfl<|s_off rfl rfl<|s_off rfl rfl<|s_q (.bool false) rfl trivial rfl<|s_mov (.bool false) rfl<|dk<|w_ret<|?_;obtain rfl:=os hf;exact r_flat ⟨trivial,trivial⟩ rfl (.refl _)

/- spec.l04Table -/
def c77:ACode :=
 (.seq (.reg (tq 1 (.box 4 (.t 0)) (tm 2 (.c (.bool false)) .done)))
 (.seq (.seq (.reg (tq 6 (.faddr 0 (.t 1)) (tq 7 (.load 1 false (.t 6)) (tq 8 (.call 99 [(.t 7)]) (tq 9 (.not (.t 8)) (tm 10 (.t 9) (tg 11 10 false (.faddr 1 (.t 1)) (tg 12 10 false (.load 1 false (.t 11)) (tg 13 10 false (.len (.t 12)) (tg 14 10 false (.call 95 [(.t 13),(.c (.int .i64 1)),(.c (.int .i64 6))]) (tg 15 10 false (.not (.t 14)) (tq 16 (.pick (.t 10) (.c (.bool true)) (.t 15)) (tm 17 (.t 16) (tg 18 17 false (.faddr 2 (.t 1)) (tg 19 17 false (.load 1 false (.t 18)) (tg 20 17 false (.len (.t 19)) (tg 21 17 false (.bin .gtr (.t 20) (.c (.int .i64 6))) (tq 22 (.pick (.t 17) (.c (.bool true)) (.t 21)) .done))))))))))))))))))
 (.cut (.cond (.t 22) (.seq (.reg (tm 2 (.c (.bool false)) .done))
 .ret)
 .skip)))
 (.seq (.seq (.reg (tm 3 (.c (.int .i64 0)) .done))
 (.block 0 (.loop (.seq (.seq (.reg (tm 23 (.t 3) (tq 24 (.faddr 1 (.t 1)) (tq 25 (.load 1 false (.t 24)) (tq 26 (.len (.t 25)) (tq 27 (.bin .lss (.t 23) (.t 26)) .done))))))
 (.cond (.t 27) .skip
 (.exit 0)))
 (.seq (.block 1 (.seq (.seq (.reg (tq 30 (.faddr 1 (.t 1)) (tq 31 (.load 1 false (.t 30)) (tm 32 (.t 3) (tq 33 (.iaddr 8 (.t 31) (.t 32)) (tq 34 (.load 8 true (.t 33)) (tq 35 (.call 142 [(.t 34)]) (tq 36 (.not (.t 35)) .done))))))))
 (.cond (.t 36) (.seq (.reg (tm 2 (.c (.bool false)) .done))
 .ret)
 .skip))
 (.seq (.reg (tm 4 (.c (.int .i64 0)) .done))
 (.block 2 (.loop (.seq (.seq (.reg (tm 37 (.t 4) (tm 38 (.t 3) (tq 39 (.bin .lss (.t 37) (.t 38)) .done))))
 (.cond (.t 39) .skip
 (.exit 2)))
 (.seq (.block 3 (.seq (.reg (tq 42 (.faddr 1 (.t 1)) (tq 43 (.load 1 false (.t 42)) (tm 44 (.t 4) (tq 45 (.iaddr 8 (.t 43) (.t 44)) (tq 46 (.faddr 0 (.t 45)) (tq 47 (.load 1 false (.t 46)) (tq 48 (.faddr 1 (.t 1)) (tq 49 (.load 1 false (.t 48)) (tm 50 (.t 3) (tq 51 (.iaddr 8 (.t 49) (.t 50)) (tq 52 (.faddr 0 (.t 51)) (tq 53 (.load 1 false (.t 52)) (tq 54 (.bin .eql (.t 47) (.t 53)) .done))))))))))))))
 (.cond (.t 54) (.seq (.reg (tm 2 (.c (.bool false)) .done))
 .ret)
 .skip)))
 (.reg (tm 40 (.t 4) (tq 41 (.bin .add (.t 40) (.c (.int .i64 1))) (tm 4 (.t 41) .done)))))))))))
 (.cut (.reg (tm 28 (.t 3) (tq 29 (.bin .add (.t 28) (.c (.int .i64 1))) (tm 3 (.t 29) .done))))))))))
 (.cut (.seq (.seq (.reg (tm 5 (.c (.int .i64 0)) .done))
 (.block 4 (.loop (.seq (.seq (.reg (tm 55 (.t 5) (tq 56 (.faddr 2 (.t 1)) (tq 57 (.load 1 false (.t 56)) (tq 58 (.len (.t 57)) (tq 59 (.bin .lss (.t 55) (.t 58)) .done))))))
 (.cond (.t 59) .skip
 (.exit 4)))
 (.seq (.block 5 (.seq (.reg (tq 62 (.faddr 2 (.t 1)) (tq 63 (.load 1 false (.t 62)) (tm 64 (.t 5) (tq 65 (.iaddr 1 (.t 63) (.t 64)) (tq 66 (.load 1 false (.t 65)) (tq 67 (.faddr 1 (.t 1)) (tq 68 (.load 1 false (.t 67)) (tq 69 (.len (.t 68)) (tq 70 (.bin .sub (.t 69) (.c (.int .i64 1))) (.l ⟨(some 71),none,.call 95 [(.t 66),(.c (.int .i64 0)),(.t 70)]⟩ []
 (tq 72 (.not (.t 71)) (tm 73 (.t 72) (tg 74 73 false (.mov (.t 5)) (tg 75 73 false (.bin .gtr (.t 74) (.c (.int .i64 0))) (tg 76 73 false (.mov (.t 75)) (tg 77 76 true (.faddr 2 (.t 1)) (tg 78 76 true (.load 1 false (.t 77)) (tg 79 76 true (.mov (.t 5)) (tg 80 76 true (.bin .sub (.t 79) (.c (.int .i64 1))) (tg 81 76 true (.iaddr 1 (.t 78) (.t 80)) (tg 82 76 true (.load 1 false (.t 81)) (tg 83 76 true (.faddr 2 (.t 1)) (tg 84 76 true (.load 1 false (.t 83)) (tg 85 76 true (.mov (.t 5)) (tg 86 76 true (.iaddr 1 (.t 84) (.t 85)) (tg 87 76 true (.load 1 false (.t 86)) (tg 88 76 true (.bin .geq (.t 82) (.t 87)) (tg 89 73 false (.pick (.t 76) (.t 88) (.c (.bool false))) (tq 90 (.pick (.t 73) (.c (.bool true)) (.t 89)) .done))))))))))))))))))) .non)))))))))))
 (.cut (.cond (.t 90) (.seq (.reg (tm 2 (.c (.bool false)) .done))
 .ret)
 .skip))))
 (.reg (tm 60 (.t 5) (tq 61 (.bin .add (.t 60) (.c (.int .i64 1))) (tm 5 (.t 61) .done)))))))))
 (.cut (.seq (.reg (tm 2 (.c (.bool true)) .done))
 .ret)))))))
theorem fc77:fcomp Tryz.prog Tryz.f77 = some (c77.erase,[.mov (.t 2)],91):=by kernel_rfl
def spec_l04Table_L2 (i_130:Nat) (t_1:GTable) (x_193:GColumn):Nat → Int → Option (Fl Bool Unit)
  | 0,_ => none
  | k + 1,k_222 =>
    if (decide (k_222 < (i_130:Int))) then
    (idx t_1.Columns k_222).bind fun x_229 =>
    if (x_229.Name == x_193.Name) then
    some (.ret false)
    else
    spec_l04Table_L2 i_130 t_1 x_193 k (w64 (k_222 + 1))
    else
    some (.go ())

def spec_l04Table_L1 (t_1:GTable):List GColumn → Nat → Option (Fl Bool Unit)
  | [],i_130 =>
    some (.go ())
  | x_193 :: xs,i_130 =>
    (spec_ColumnOK x_193).bind fun r_196 =>
    if (!r_196) then
    some (.ret false)
    else
    (spec_l04Table_L2 i_130 t_1 x_193 FUEL 0).bind fun q => (match q with
    | .ret r => some (.ret r)
    | .go _ =>
    spec_l04Table_L1 t_1 xs (i_130 + 1))

def spec_l04Table_L3 (t_1:GTable):List Int → Nat → Option (Fl Bool Unit)
  | [],i_287 =>
    some (.go ())
  | x_323 :: xs,i_287 =>
    (((spec_l01In x_323 0 (w64 ((t_1.Columns.length:Int) - 1))).bind fun r_336 =>
    if (!r_336) then
    some true
    else
    if (decide ((i_287:Int) > 0)) then
    (idx t_1.Unique (w64 ((i_287:Int) - 1))).bind fun x_340 =>
    some (decide (x_340 ≥ x_323))
    else
    some false:Option Bool)).bind fun s90_333 =>
    if s90_333 then
    some (.ret false)
    else
    spec_l04Table_L3 t_1 xs (i_287 + 1)

def spec_l04Table (t_1:GTable):Option Bool :=
    (((spec_NameOK t_1.Name).bind fun r_12 =>
    if (!r_12) then
    some true
    else
    (spec_l01In (t_1.Columns.length:Int) 1 6).bind fun r_17 =>
    some (bif (!r_17) then true else (decide ((t_1.Unique.length:Int) > 6))):Option Bool)).bind fun s22_10 =>
    if s22_10 then
    some false
    else
    (spec_l04Table_L1 t_1 t_1.Columns 0).bind fun q => (match q with
    | .ret r => some r
    | .go _ =>
    (spec_l04Table_L3 t_1 t_1.Unique 0).bind fun q => (match q with
    | .ret r => some r
    | .go _ =>
    some true))
theorem w_spec_l04Table (t_1:GTable) (r:Bool) (hf:spec_l04Table t_1 = some r):CallOK Tryz.prog 77 .flat [(encGTable t_1)] (.bool r):=by
 refine CallOK.of_awp mixed Tryz.func77 fc77 nle ?_;rw [argT_eq];unfold spec_l04Table at hf;unfold c77;refine (show awp Tryz.prog false 0 _ (ofL [(0,(encGTable t_1))]) [] _ from ?_);refine sr<|s_do (o_box (j:=0) (c:=(.agg [(.str t_1.Name),(.lst 8 (t_1.Columns.map encGColumn)),(.lst 1 (t_1.Unique.map encI)),(.bool t_1.Root)])) rfl trivial rfl rfl)<|s_mov (.bool false) rfl<|dk<|awp_seq<|awp_seq<|?_
 obtain ⟨s22_10,hb1,hf⟩:=ob hf
 refine awp_cut ([(1,(.ptr 0 0 0)),(22,(.bool s22_10))],[.box 4 (.agg [(.str t_1.Name),(.lst 8 (t_1.Columns.map encGColumn)),(.lst 1 (t_1.Unique.map encI)),(.bool t_1.Root)])]) ?_ ?_
 ·refine w_reg<|s_q (.ptr 0 0 0) rfl trivial rfl<|s_q (.str t_1.Name) rfl nle rfl<|?_
  obtain ⟨r_12,er13,hb1⟩:=ob hb1
  refine s_do (o_call (w_spec_NameOK _ _ er13) rfl (.refl _) rfl)<|s_q (.bool (!r_12)) rfl trivial rfl<|s_mov (.bool (!r_12)) rfl<|?_
  rcases oi hb1 with ⟨c15,hb1⟩ | ⟨c15,hb1⟩
  ·refine s_lit (s:=10) (b:=true) rfl c15<|s_off rfl rfl<|s_off rfl rfl<|s_off rfl rfl<|s_off rfl rfl<|s_off rfl rfl<|s_q (.bool true) rfl trivial rfl<|s_mov (.bool true) rfl<|s_off rfl rfl<|s_off rfl rfl<|s_off rfl rfl<|s_off rfl rfl<|s_q (.bool true) rfl trivial rfl<|w_done<|?_;obtain rfl:=os hb1;exact ⟨[],[0],_,_,rfl,rfl,⟨.refl _,⟨.refl _,trivial⟩⟩,(.refl _)⟩
  ·refine s_lit (s:=10) (b:=false) rfl (bf c15)<|s_on rfl<|s_q (.ptr 0 0 1) rfl trivial rfl<|s_on rfl<|s_q (.lst 8 (t_1.Columns.map encGColumn)) rfl nle rfl<|s_on rfl<|s_dof (o_len (enc:=encGColumn) rfl) fun hl16 => s_on rfl<|?_
   obtain ⟨r_17,er18,hb1⟩:=ob hb1
   refine s_do (o_call (w_spec_l01In _ _ _ _ er18) rfl (.refl _) rfl)<|s_on rfl<|s_q (.bool (!r_17)) rfl trivial rfl<|s_q (.bool (!r_17)) rfl trivial rfl<|s_mov (.bool (!r_17)) rfl<|?_;refine s_g (v:=(!r_17)) (.ptr 0 0 2) rfl (fun hv => by (try simp only [gs_on hv]);exact ⟨rfl,trivial,rfl⟩) ?_;refine s_g (v:=(!r_17)) (.lst 1 (t_1.Unique.map encI)) rfl (fun hv => by (try simp only [gs_on hv]);exact ⟨rfl,nle,rfl⟩) ?_;refine s_g (v:=(!r_17)) (.int .i64 (t_1.Unique.length:Int)) rfl (fun hv => by (try simp only [gs_on hv]);exact ⟨rfl,trivial,lenV _ _⟩) ?_;refine s_g (v:=(!r_17)) (.bool (decide ((t_1.Unique.length:Int) > 6))) rfl (fun hv => by (try simp only [gs_on hv]);exact ⟨rfl,rfl,rfl⟩) ?_
   refine s_pick (x:=true) (y:=(decide ((t_1.Unique.length:Int) > 6))) rfl (fun hv => by (try simp only [gs_on hv]);rfl) (fun hv => by (try simp only [gs_on hv]);rfl) ?_;refine w_done ?_;obtain rfl:=os hb1;exact ⟨[],[0],_,_,rfl,rfl,⟨.refl _,⟨.refl _,trivial⟩⟩,(.refl _)⟩
 ·rcases oi hf with ⟨c20,hf⟩ | ⟨c20,hf⟩
  ·refine w_condt rfl c20<|sr<|s_mov (.bool false) rfl<|dk<|w_ret<|?_;obtain rfl:=os hf;exact r_flat ⟨trivial,trivial⟩ rfl (.refl _)
  ·refine w_condf rfl (bf c20)<|w_skip<|k_seq<|awp_seq<|sr<|s_mov (.int .i64 0) rfl<|dk<|?_
   obtain ⟨p186,hb1,hf⟩:=ob hf
   refine awp_cutx (X:={q:Unit // p186 = .go q}) (fun q => ([(1,(.ptr 0 0 0))],[.box 4 (.agg [(.str t_1.Name),(.lst 8 (t_1.Columns.map encGColumn)),(.lst 1 (t_1.Unique.map encI)),(.bool t_1.Root)])])) ?_ ?_
   ·refine awp_loop (X:={q:Nat // spec_l04Table_L1 t_1 (t_1.Columns.drop q) q = some p186}) (fun q => ([(1,(.ptr 0 0 0)),(3,(.int .i64 (q.1:Int)))],[.box 4 (.agg [(.str t_1.Name),(.lst 8 (t_1.Columns.map encGColumn)),(.lst 1 (t_1.Unique.map encI)),(.bool t_1.Root)])])) (fun q => t_1.Columns.length - q.1) ⟨0,hb1⟩ ⟨[],[0],_,_,rfl,rfl,⟨.refl _,⟨.refl _,trivial⟩⟩,(.refl _)⟩ ?_
    rintro ⟨i_130,hc1⟩
    have hc1:spec_l04Table_L1 t_1 (t_1.Columns.drop i_130) i_130 = some p186:=hc1
    refine (show awp Tryz.prog false 0 _ (ofL [(1,(.ptr 0 0 0)),(3,(.int .i64 (i_130:Int)))]) [.box 4 (.agg [(.str t_1.Name),(.lst 8 (t_1.Columns.map encGColumn)),(.lst 1 (t_1.Unique.map encI)),(.bool t_1.Root)])] _ from ?_)
    rcases dropc t_1.Columns i_130 with ⟨hie189,hd192⟩ | ⟨hlt187,x_193,hx188,hd192⟩
    ·rw [hd192,spec_l04Table_L1.eq_1] at hc1
     have hq191:=dlf hie189
     refine awp_seq<|sr<|s_mov (.int .i64 (i_130:Int)) rfl<|s_q (.ptr 0 0 1) rfl trivial rfl<|s_q (.lst 8 (t_1.Columns.map encGColumn)) rfl nle rfl<|s_dof (o_len (enc:=encGColumn) rfl) fun hl194 => s_q (.bool (decide ((i_130:Int) < (t_1.Columns.length:Int)))) rfl rfl rfl<|dk<|w_condf rfl hq191<|w_exit<|k_seqx<|k_loopx<|k_blkx<|?_;obtain rfl:=os hc1;exact k_cutn ⟨_,rfl⟩ ⟨[],[0],_,_,rfl,rfl,⟨.refl _,trivial⟩,(.refl _)⟩
    ·rw [hd192,spec_l04Table_L1.eq_2] at hc1
     have hq191:=dlt hlt187
     refine awp_seq<|sr<|s_mov (.int .i64 (i_130:Int)) rfl<|s_q (.ptr 0 0 1) rfl trivial rfl<|s_q (.lst 8 (t_1.Columns.map encGColumn)) rfl nle rfl<|s_dof (o_len (enc:=encGColumn) rfl) fun hl195 => s_q (.bool (decide ((i_130:Int) < (t_1.Columns.length:Int)))) rfl rfl rfl<|dk<|w_condt rfl hq191<|w_skip<|k_seq<|awp_seq<|w_blk<|awp_seq<|sr<|?_
     obtain ⟨r_196,er197,hc1⟩:=ob hc1
     refine s_q (.ptr 0 0 1) rfl trivial rfl<|s_q (.lst 8 (t_1.Columns.map encGColumn)) rfl nle rfl<|s_mov (.int .i64 (i_130:Int)) rfl<|s_do (o_iaddrn (enc:=encGColumn) rfl rfl hx188)<|s_q (encGColumn x_193) rfl nle rfl<|s_do (o_call (w_spec_ColumnOK _ _ er197) rfl (.refl _) rfl)<|s_q (.bool (!r_196)) rfl trivial rfl<|dk<|?_
     rcases oi hc1 with ⟨c198,hc1⟩ | ⟨c198,hc1⟩
     ·refine w_condt rfl c198<|sr<|s_mov (.bool false) rfl<|dk<|w_ret<|?_;obtain rfl:=os hc1;obtain rfl:=os hf;exact r_flat ⟨trivial,trivial⟩ rfl (.refl _)
     ·refine w_condf rfl (bf c198)<|w_skip<|k_seq<|sr<|s_mov (.int .i64 0) rfl<|dk<|?_
      obtain ⟨p227,hb2,hc1⟩:=ob hc1
      refine awp_cutxb (X:={q:Unit // p227 = .go q}) (fun q => ([(1,(.ptr 0 0 0)),(3,(.int .i64 (i_130:Int)))],[.box 4 (.agg [(.str t_1.Name),(.lst 8 (t_1.Columns.map encGColumn)),(.lst 1 (t_1.Unique.map encI)),(.bool t_1.Root)])])) ?_ ?_
      ·refine awp_loop (X:={q:(Nat × Int) // spec_l04Table_L2 i_130 t_1 x_193 q.1 q.2 = some p227}) (fun q => ([(1,(.ptr 0 0 0)),(3,(.int .i64 (i_130:Int))),(4,(.int .i64 q.1.2))],[.box 4 (.agg [(.str t_1.Name),(.lst 8 (t_1.Columns.map encGColumn)),(.lst 1 (t_1.Unique.map encI)),(.bool t_1.Root)])])) (fun q => q.1.1) ⟨(FUEL,0),hb2⟩ ⟨[],[0],_,_,rfl,rfl,⟨.refl _,⟨.refl _,⟨.refl _,trivial⟩⟩⟩,(.refl _)⟩ ?_
       rintro ⟨⟨k,k_222⟩,hc2⟩
       have hc2:spec_l04Table_L2 i_130 t_1 x_193 k k_222 = some p227:=hc2
       refine (show awp Tryz.prog false 0 _ (ofL [(1,(.ptr 0 0 0)),(3,(.int .i64 (i_130:Int))),(4,(.int .i64 k_222))]) [.box 4 (.agg [(.str t_1.Name),(.lst 8 (t_1.Columns.map encGColumn)),(.lst 1 (t_1.Unique.map encI)),(.bool t_1.Root)])] _ from ?_)
       rcases k with _ | k
       ·rw [spec_l04Table_L2.eq_1] at hc2
        cases hc2
       ·rw [spec_l04Table_L2.eq_2] at hc2;refine awp_seq<|sr<|s_mov (.int .i64 k_222) rfl<|s_mov (.int .i64 (i_130:Int)) rfl<|s_q (.bool (decide (k_222 < (i_130:Int)))) rfl rfl rfl<|dk<|?_
        rcases oi hc2 with ⟨c228,hc2⟩ | ⟨c228,hc2⟩
        ·refine w_condt rfl c228<|w_skip<|k_seq<|awp_seq<|w_blk<|sr<|s_q (.ptr 0 0 1) rfl trivial rfl<|s_q (.lst 8 (t_1.Columns.map encGColumn)) rfl nle rfl<|s_mov (.int .i64 k_222) rfl<|?_
         obtain ⟨x_229,ex230,hc2⟩:=ob hc2
         refine s_do (o_iaddr (enc:=encGColumn) rfl rfl (idx0 ex230) (idx1 ex230))<|s_q (.iptr (encGColumn x_229) 0) rfl trivial rfl<|s_q (.str x_229.Name) rfl nle rfl<|s_q (.ptr 0 0 1) rfl trivial rfl<|s_q (.lst 8 (t_1.Columns.map encGColumn)) rfl nle rfl<|s_mov (.int .i64 (i_130:Int)) rfl<|s_do (o_iaddrn (enc:=encGColumn) rfl rfl hx188)<|s_q (.iptr (encGColumn x_193) 0) rfl trivial rfl<|s_q (.str x_193.Name) rfl nle rfl<|s_q (.bool (x_229.Name == x_193.Name)) rfl trivial rfl<|dk<|?_
         rcases oi hc2 with ⟨c231,hc2⟩ | ⟨c231,hc2⟩
         ·refine w_condt rfl c231<|sr<|s_mov (.bool false) rfl<|dk<|w_ret<|?_;obtain rfl:=os hc2;obtain rfl:=os hc1;obtain rfl:=os hf;exact r_flat ⟨trivial,trivial⟩ rfl (.refl _)
         ·refine w_condf rfl (bf c231)<|w_skip<|k_blk<|k_seq<|w_reg<|s_mov (.int .i64 k_222) rfl<|s_q (.int .i64 (w64 (k_222 + 1))) rfl rfl rfl<|s_mov (.int .i64 (w64 (k_222 + 1))) rfl<|w_done<|?_;exact k_loopn ⟨(k,w64 (k_222 + 1)),hc2⟩ (Nat.lt_succ_self _) ⟨[],[0],_,_,rfl,rfl,⟨.refl _,⟨.refl _,⟨.refl _,trivial⟩⟩⟩,(.refl _)⟩
        ·refine w_condf rfl (bf c228)<|w_exit<|k_seqx<|k_loopx<|k_blkx<|?_;refine k_blk ?_;obtain rfl:=os hc2;exact k_cutn ⟨_,rfl⟩ ⟨[],[0],_,_,rfl,rfl,⟨.refl _,⟨.refl _,trivial⟩⟩,(.refl _)⟩
      ·rintro ⟨_,rfl⟩
       refine w_reg<|s_mov (.int .i64 (i_130:Int)) rfl<|s_q (.int .i64 (w64 ((i_130:Int) + 1))) rfl rfl rfl<|s_mov (.int .i64 (w64 ((i_130:Int) + 1))) rfl<|w_done<|?_;exact k_loopn ⟨(i_130 + 1),hc1⟩ (mul hlt187) ⟨[],[0],_,_,rfl,rfl,⟨.refl _,⟨.of_eq (congrArg (AV.int _) (w64_incr hlt187 hl195)),trivial⟩⟩,(.refl _)⟩
   ·rintro ⟨_,rfl⟩
    refine awp_seq<|sr<|s_mov (.int .i64 0) rfl<|dk<|?_
    obtain ⟨p316,hb1,hf⟩:=ob hf
    refine awp_cutx (X:={q:Unit // p316 = .go q}) (fun q => ([],[])) ?_ ?_
    ·refine awp_loop (X:={q:Nat // spec_l04Table_L3 t_1 (t_1.Unique.drop q) q = some p316}) (fun q => ([(1,(.ptr 0 0 0)),(5,(.int .i64 (q.1:Int)))],[.box 4 (.agg [(.str t_1.Name),(.lst 8 (t_1.Columns.map encGColumn)),(.lst 1 (t_1.Unique.map encI)),(.bool t_1.Root)])])) (fun q => t_1.Unique.length - q.1) ⟨0,hb1⟩ ⟨[],[0],_,_,rfl,rfl,⟨.refl _,⟨.refl _,trivial⟩⟩,(.refl _)⟩ ?_
     rintro ⟨i_287,hc1⟩
     have hc1:spec_l04Table_L3 t_1 (t_1.Unique.drop i_287) i_287 = some p316:=hc1
     refine (show awp Tryz.prog false 0 _ (ofL [(1,(.ptr 0 0 0)),(5,(.int .i64 (i_287:Int)))]) [.box 4 (.agg [(.str t_1.Name),(.lst 8 (t_1.Columns.map encGColumn)),(.lst 1 (t_1.Unique.map encI)),(.bool t_1.Root)])] _ from ?_)
     rcases dropc t_1.Unique i_287 with ⟨hie319,hd322⟩ | ⟨hlt317,x_323,hx318,hd322⟩
     ·rw [hd322,spec_l04Table_L3.eq_1] at hc1
      have hq321:=dlf hie319
      refine awp_seq<|sr<|s_mov (.int .i64 (i_287:Int)) rfl<|s_q (.ptr 0 0 2) rfl trivial rfl<|s_q (.lst 1 (t_1.Unique.map encI)) rfl nle rfl<|s_dof (o_len (enc:=encI) rfl) fun hl324 => s_q (.bool (decide ((i_287:Int) < (t_1.Unique.length:Int)))) rfl rfl rfl<|dk<|w_condf rfl hq321<|w_exit<|k_seqx<|k_loopx<|k_blkx<|?_;obtain rfl:=os hc1;exact k_cutn ⟨_,rfl⟩ ⟨[],[],_,_,rfl,rfl,trivial,(.refl _)⟩
     ·rw [hd322,spec_l04Table_L3.eq_2] at hc1
      have hq321:=dlt hlt317
      refine awp_seq<|sr<|s_mov (.int .i64 (i_287:Int)) rfl<|s_q (.ptr 0 0 2) rfl trivial rfl<|s_q (.lst 1 (t_1.Unique.map encI)) rfl nle rfl<|s_dof (o_len (enc:=encI) rfl) fun hl325 => s_q (.bool (decide ((i_287:Int) < (t_1.Unique.length:Int)))) rfl rfl rfl<|dk<|w_condt rfl hq321<|w_skip<|k_seq<|awp_seq<|w_blk<|awp_seq<|?_
      obtain ⟨s90_333,hb2,hc1⟩:=ob hc1
      refine awp_cut ([(1,(.ptr 0 0 0)),(5,(.int .i64 (i_287:Int))),(90,(.bool s90_333))],[.box 4 (.agg [(.str t_1.Name),(.lst 8 (t_1.Columns.map encGColumn)),(.lst 1 (t_1.Unique.map encI)),(.bool t_1.Root)])]) ?_ ?_
      ·refine w_reg<|s_q (.ptr 0 0 2) rfl trivial rfl<|s_q (.lst 1 (t_1.Unique.map encI)) rfl nle rfl<|s_mov (.int .i64 (i_287:Int)) rfl<|s_do (o_iaddrn (enc:=encI) rfl rfl hx318)<|s_q (.int .i64 x_323) rfl ⟨rfl,rfl⟩ rfl<|s_q (.ptr 0 0 1) rfl trivial rfl<|s_q (.lst 8 (t_1.Columns.map encGColumn)) rfl nle rfl<|s_dof (o_len (enc:=encGColumn) rfl) fun hl335 => s_q (.int .i64 (w64 ((t_1.Columns.length:Int) - 1))) rfl rfl rfl<|?_
       obtain ⟨r_336,er337,hb2⟩:=ob hb2
       refine s_dol (o_call (w_spec_l01In _ _ _ _ er337) rfl (.refl _) rfl) a_same trivial<|s_q (.bool (!r_336)) rfl trivial rfl<|s_mov (.bool (!r_336)) rfl<|?_
       rcases oi hb2 with ⟨c338,hb2⟩ | ⟨c338,hb2⟩
       ·refine s_lit (s:=73) (b:=true) rfl c338<|s_off rfl rfl<|s_off rfl rfl<|s_off rfl rfl<|s_offs rfl<|s_offs rfl<|s_offs rfl<|s_offs rfl<|s_offs rfl<|s_offs rfl<|s_offs rfl<|s_offs rfl<|s_offs rfl<|s_offs rfl<|s_offs rfl<|s_offs rfl<|s_off rfl rfl<|s_q (.bool true) rfl trivial rfl<|w_done<|?_;obtain rfl:=os hb2;exact ⟨[],[0],_,_,rfl,rfl,⟨.refl _,⟨.refl _,⟨.refl _,trivial⟩⟩⟩,(.refl _)⟩
       ·refine s_lit (s:=73) (b:=false) rfl (bf c338)<|s_on rfl<|s_mov (.int .i64 (i_287:Int)) rfl<|s_on rfl<|s_q (.bool (decide ((i_287:Int) > 0))) rfl rfl rfl<|s_on rfl<|s_mov (.bool (decide ((i_287:Int) > 0))) rfl<|?_
        rcases oi hb2 with ⟨c339,hb2⟩ | ⟨c339,hb2⟩
        ·refine s_lit (s:=76) (b:=true) rfl c339<|s_on rfl<|s_q (.ptr 0 0 2) rfl trivial rfl<|s_on rfl<|s_q (.lst 1 (t_1.Unique.map encI)) rfl nle rfl<|s_on rfl<|s_mov (.int .i64 (i_287:Int)) rfl<|s_on rfl<|s_q (.int .i64 (w64 ((i_287:Int) - 1))) rfl rfl rfl<|s_on rfl<|?_
         obtain ⟨x_340,ex341,hb2⟩:=ob hb2
         refine s_do (o_iaddr (enc:=encI) rfl rfl (idx0 ex341) (idx1 ex341))<|s_on rfl<|s_q (.int .i64 x_340) rfl ⟨rfl,rfl⟩ rfl<|s_on rfl<|s_q (.ptr 0 0 2) rfl trivial rfl<|s_on rfl<|s_q (.lst 1 (t_1.Unique.map encI)) rfl nle rfl<|s_on rfl<|s_mov (.int .i64 (i_287:Int)) rfl<|s_on rfl<|s_do (o_iaddrn (enc:=encI) rfl rfl hx318)<|s_on rfl<|s_q (.int .i64 x_323) rfl ⟨rfl,rfl⟩ rfl<|s_on rfl<|s_q (.bool (decide (x_340 ≥ x_323))) rfl rfl rfl<|s_on rfl<|s_q (.bool (decide (x_340 ≥ x_323))) rfl trivial rfl<|s_q (.bool (decide (x_340 ≥ x_323))) rfl trivial rfl<|w_done<|?_;obtain rfl:=os hb2;exact ⟨[],[0],_,_,rfl,rfl,⟨.refl _,⟨.refl _,⟨.refl _,trivial⟩⟩⟩,(.refl _)⟩
        ·refine s_lit (s:=76) (b:=false) rfl (bf c339)<|s_off rfl rfl<|s_off rfl rfl<|s_off rfl rfl<|s_off rfl rfl<|s_off rfl rfl<|s_off rfl rfl<|s_off rfl rfl<|s_off rfl rfl<|s_off rfl rfl<|s_off rfl rfl<|s_off rfl rfl<|s_off rfl rfl<|s_on rfl<|s_q (.bool false) rfl trivial rfl<|s_q (.bool false) rfl trivial rfl<|w_done<|?_;obtain rfl:=os hb2;exact ⟨[],[0],_,_,rfl,rfl,⟨.refl _,⟨.refl _,⟨.refl _,trivial⟩⟩⟩,(.refl _)⟩
      ·rcases oi hc1 with ⟨c342,hc1⟩ | ⟨c342,hc1⟩
       ·refine w_condt rfl c342<|sr<|s_mov (.bool false) rfl<|dk<|w_ret<|?_;obtain rfl:=os hc1;obtain rfl:=os hf;exact r_flat ⟨trivial,trivial⟩ rfl (.refl _)
       ·refine w_condf rfl (bf c342)<|w_skip<|k_blk<|k_seq<|w_reg<|s_mov (.int .i64 (i_287:Int)) rfl<|s_q (.int .i64 (w64 ((i_287:Int) + 1))) rfl rfl rfl<|s_mov (.int .i64 (w64 ((i_287:Int) + 1))) rfl<|w_done<|?_;exact k_loopn ⟨(i_287 + 1),hc1⟩ (mul hlt317) ⟨[],[0],_,_,rfl,rfl,⟨.refl _,⟨.of_eq (congrArg (AV.int _) (w64_incr hlt317 hl325)),trivial⟩⟩,(.refl _)⟩
    ·rintro ⟨_,rfl⟩
     refine sr<|s_mov (.bool true) rfl<|dk<|w_ret<|?_;obtain rfl:=os hf;exact r_flat ⟨trivial,trivial⟩ rfl (.refl _)

/- spec.l04Find -/
def c96:ACode :=
 (.seq (.reg (tq 2 (.box 1 (.t 0)) (tm 4 (.c (.int .i64 0)) .done)))
 (.seq (.seq (.reg (tm 5 (.c (.int .i64 0)) .done))
 (.block 0 (.loop (.seq (.seq (.reg (tm 6 (.t 5) (tq 7 (.faddr 0 (.t 2)) (tq 8 (.load 1 false (.t 7)) (tq 9 (.len (.t 8)) (tq 10 (.bin .lss (.t 6) (.t 9)) .done))))))
 (.cond (.t 10) .skip
 (.exit 0)))
 (.seq (.block 1 (.seq (.reg (tq 13 (.faddr 0 (.t 2)) (tq 14 (.load 1 false (.t 13)) (tm 15 (.t 5) (tq 16 (.iaddr 4 (.t 14) (.t 15)) (tq 17 (.faddr 0 (.t 16)) (tq 18 (.load 1 false (.t 17)) (tm 19 (.t 1) (tq 20 (.bin .eql (.t 18) (.t 19)) .done)))))))))
 (.cond (.t 20) (.seq (.reg (tm 21 (.t 5) (tm 4 (.t 21) .done)))
 .ret)
 .skip)))
 (.reg (tm 11 (.t 5) (tq 12 (.bin .add (.t 11) (.c (.int .i64 1))) (tm 5 (.t 12) .done)))))))))
 (.cut (.seq (.reg (tq 4 (.mov (.c (.int .i64 (-1)))) .done))
 .ret))))
theorem fc96:fcomp Tryz.prog Tryz.f96 = some (c96.erase,[.mov (.t 4)],22):=by kernel_rfl
def spec_l04Find_L1 (name_2:Str):List GTable → Nat → Option (Fl Int Unit)
  | [],i_14 =>
    some (.go ())
  | x_28 :: xs,i_14 =>
    if (x_28.Name == name_2) then
    some (.ret (i_14:Int))
    else
    spec_l04Find_L1 name_2 xs (i_14 + 1)

def spec_l04Find (s_1:GSchema) (name_2:Str):Option Int :=
    (spec_l04Find_L1 name_2 s_1.Tables 0).bind fun q => (match q with
    | .ret r => some r
    | .go _ =>
    some (-1))
theorem w_spec_l04Find (s_1:GSchema) (name_2:Str) (r:Int) (hf:spec_l04Find s_1 name_2 = some r):CallOK Tryz.prog 96 .flat [(encGSchema s_1),(.str name_2)] (.int .i64 r):=by
 refine CallOK.of_awp mixed Tryz.func96 fc96 nle ?_;rw [argT_eq];unfold spec_l04Find at hf;unfold c96;refine (show awp Tryz.prog false 0 _ (ofL [(0,(encGSchema s_1)),(1,(.str name_2))]) [] _ from ?_);refine sr<|s_do (o_box (j:=0) (c:=(.agg [(.lst 4 (s_1.Tables.map encGTable))])) rfl trivial rfl rfl)<|s_mov (.int .i64 0) rfl<|dk<|awp_seq<|sr<|s_mov (.int .i64 0) rfl<|dk<|?_
 obtain ⟨p21,hb1,hf⟩:=ob hf
 refine awp_cutx (X:={q:Unit // p21 = .go q}) (fun q => ([],[])) ?_ ?_
 ·refine awp_loop (X:={q:Nat // spec_l04Find_L1 name_2 (s_1.Tables.drop q) q = some p21}) (fun q => ([(1,(.str name_2)),(2,(.ptr 0 0 0)),(5,(.int .i64 (q.1:Int)))],[.box 1 (.agg [(.lst 4 (s_1.Tables.map encGTable))])])) (fun q => s_1.Tables.length - q.1) ⟨0,hb1⟩ ⟨[],[0],_,_,rfl,rfl,⟨.refl _,⟨.refl _,⟨.refl _,trivial⟩⟩⟩,(.refl _)⟩ ?_
  rintro ⟨i_14,hc1⟩
  have hc1:spec_l04Find_L1 name_2 (s_1.Tables.drop i_14) i_14 = some p21:=hc1
  refine (show awp Tryz.prog false 0 _ (ofL [(1,(.str name_2)),(2,(.ptr 0 0 0)),(5,(.int .i64 (i_14:Int)))]) [.box 1 (.agg [(.lst 4 (s_1.Tables.map encGTable))])] _ from ?_)
  rcases dropc s_1.Tables i_14 with ⟨hie24,hd27⟩ | ⟨hlt22,x_28,hx23,hd27⟩
  ·rw [hd27,spec_l04Find_L1.eq_1] at hc1
   have hq26:=dlf hie24
   refine awp_seq<|sr<|s_mov (.int .i64 (i_14:Int)) rfl<|s_q (.ptr 0 0 0) rfl trivial rfl<|s_q (.lst 4 (s_1.Tables.map encGTable)) rfl nle rfl<|s_dof (o_len (enc:=encGTable) rfl) fun hl29 => s_q (.bool (decide ((i_14:Int) < (s_1.Tables.length:Int)))) rfl rfl rfl<|dk<|w_condf rfl hq26<|w_exit<|k_seqx<|k_loopx<|k_blkx<|?_;obtain rfl:=os hc1;exact k_cutn ⟨_,rfl⟩ ⟨[],[],_,_,rfl,rfl,trivial,(.refl _)⟩
  ·rw [hd27,spec_l04Find_L1.eq_2] at hc1
   have hq26:=dlt hlt22
   refine awp_seq<|sr<|s_mov (.int .i64 (i_14:Int)) rfl<|s_q (.ptr 0 0 0) rfl trivial rfl<|s_q (.lst 4 (s_1.Tables.map encGTable)) rfl nle rfl<|s_dof (o_len (enc:=encGTable) rfl) fun hl30 => s_q (.bool (decide ((i_14:Int) < (s_1.Tables.length:Int)))) rfl rfl rfl<|dk<|w_condt rfl hq26<|w_skip<|k_seq<|awp_seq<|w_blk<|sr<|s_q (.ptr 0 0 0) rfl trivial rfl<|s_q (.lst 4 (s_1.Tables.map encGTable)) rfl nle rfl<|s_mov (.int .i64 (i_14:Int)) rfl<|s_do (o_iaddrn (enc:=encGTable) rfl rfl hx23)<|s_q (.iptr (encGTable x_28) 0) rfl trivial rfl<|s_q (.str x_28.Name) rfl nle rfl<|s_mov (.str name_2) rfl<|s_q (.bool (x_28.Name == name_2)) rfl trivial rfl<|?_
   refine dk<|?_
   rcases oi hc1 with ⟨c31,hc1⟩ | ⟨c31,hc1⟩
   ·refine w_condt rfl c31<|sr<|s_mov (.int .i64 (i_14:Int)) rfl<|s_mov (.int .i64 (i_14:Int)) rfl<|dk<|w_ret<|?_;obtain rfl:=os hc1;obtain rfl:=os hf;exact r_flat ⟨trivial,trivial⟩ rfl (.refl _)
   ·refine w_condf rfl (bf c31)<|w_skip<|k_blk<|k_seq<|w_reg<|s_mov (.int .i64 (i_14:Int)) rfl<|s_q (.int .i64 (w64 ((i_14:Int) + 1))) rfl rfl rfl<|s_mov (.int .i64 (w64 ((i_14:Int) + 1))) rfl<|w_done<|?_;exact k_loopn ⟨(i_14 + 1),hc1⟩ (mul hlt22) ⟨[],[0],_,_,rfl,rfl,⟨.refl _,⟨.refl _,⟨.of_eq (congrArg (AV.int _) (w64_incr hlt22 hl30)),trivial⟩⟩⟩,(.refl _)⟩
 ·rintro ⟨_,rfl⟩
  refine sr<|s_mov (.int .i64 (-1)) rfl<|dk<|w_ret<|?_;obtain rfl:=os hf;exact r_flat ⟨trivial,trivial⟩ rfl (.refl _)

end Go.R
