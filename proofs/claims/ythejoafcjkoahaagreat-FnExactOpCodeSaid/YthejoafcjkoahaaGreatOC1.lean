/- Walks. -/
import Derived.Test.YthejoafcjkoahaaGreatOCT
set_option linter.all false
namespace Go.R
open Go Go.Proofs
set_option linter.unusedVariables false
set_option linter.unusedSimpArgs false
set_option maxHeartbeats 8000000
/- laws.szColumn -/
def c152:ACode :=
 (.seq (.reg (tq 2 (.box 8 (.t 0)) (tm 4 (.c (.int .i64 0)) .done)))
 (.seq (.reg (tm 5 (.t 1) (tq 6 (.faddr 0 (.t 2)) (tq 7 (.load 1 false (.t 6)) (tq 8 (.lenS (.t 7)) (tq 9 (.bin .sub (.t 5) (.t 8)) (tm 1 (.t 9) .done)))))))
 (.seq (.seq (.reg (tm 10 (.t 1) (tq 11 (.bin .lss (.t 10) (.c (.int .i64 0))) .done)))
 (.cond (.t 11) (.seq (.reg (tq 4 (.mov (.c (.int .i64 (-1)))) .done))
 .ret)
 .skip))
 (.seq (.reg (tm 12 (.t 1) (tq 13 (.faddr 6 (.t 2)) (tq 14 (.load 1 false (.t 13)) (tq 15 (.lenS (.t 14)) (tq 16 (.bin .sub (.t 12) (.t 15)) (tm 1 (.t 16) .done)))))))
 (.seq (.seq (.reg (tm 17 (.t 1) (tq 18 (.bin .lss (.t 17) (.c (.int .i64 0))) .done)))
 (.cond (.t 18) (.seq (.reg (tq 4 (.mov (.c (.int .i64 (-1)))) .done))
 .ret)
 .skip))
 (.seq (.reg (tm 19 (.t 1) (tm 4 (.t 19) .done)))
 .ret))))))
theorem fc152:fcomp Tryz.prog Tryz.f152 = some (c152.erase,[.mov (.t 4)],20):=by kernel_rfl
def laws_szColumn (a_1:GColumn) (left_2:Int):Option Int :=
    if (decide (w64 (left_2 - (a_1.Name.length:Int)) < 0)) then
    some (-1)
    else
    if (decide (w64 ((w64 (left_2 - (a_1.Name.length:Int))) - (a_1.Ref.length:Int)) < 0)) then
    some (-1)
    else
    some (w64 ((w64 (left_2 - (a_1.Name.length:Int))) - (a_1.Ref.length:Int)))
theorem w_laws_szColumn (a_1:GColumn) (left_2:Int) (r:Int) (hf:laws_szColumn a_1 left_2 = some r):CallOK Tryz.prog 152 .flat [(encGColumn a_1),(.int .i64 left_2)] (.int .i64 r):=by
 refine CallOK.of_awp mixed Tryz.func152 fc152 nle ?_;rw [argT_eq];unfold laws_szColumn at hf;unfold c152;refine (show awp Tryz.prog false 0 _ (ofL [(0,(encGColumn a_1)),(1,(.int .i64 left_2))]) [] _ from ?_);refine sr<|s_do (o_box (j:=0) (c:=(.agg [(.str a_1.Name),(.int .i64 a_1.Kind),(.int .i64 a_1.Min),(.int .i64 a_1.Max),(.int .i64 a_1.Low),(.int .i64 a_1.High),(.str a_1.Ref),(.bool a_1.Strong)])) rfl trivial rfl rfl)<|s_mov (.int .i64 0) rfl<|dk<|sr<|s_mov (.int .i64 left_2) rfl<|s_q (.ptr 0 0 0) rfl trivial rfl<|s_q (.str a_1.Name) rfl nle rfl<|s_dof (o_lenS rfl) fun hl3 => s_q (.int .i64 (w64 (left_2 - (a_1.Name.length:Int)))) rfl rfl rfl<|?_
 refine s_mov (.int .i64 (w64 (left_2 - (a_1.Name.length:Int)))) rfl<|dk<|awp_seq<|sr<|s_mov (.int .i64 (w64 (left_2 - (a_1.Name.length:Int)))) rfl<|s_q (.bool (decide (w64 (left_2 - (a_1.Name.length:Int)) < 0))) rfl rfl rfl<|dk<|?_
 rcases oi hf with ⟨c4,hf⟩ | ⟨c4,hf⟩
 ·refine w_condt rfl c4<|sr<|s_mov (.int .i64 (-1)) rfl<|dk<|w_ret<|?_;obtain rfl:=os hf;exact r_flat ⟨trivial,trivial⟩ rfl (.refl _)
 ·refine w_condf rfl (bf c4)<|w_skip<|k_seq<|sr<|s_mov (.int .i64 (w64 (left_2 - (a_1.Name.length:Int)))) rfl<|s_q (.ptr 0 0 6) rfl trivial rfl<|s_q (.str a_1.Ref) rfl nle rfl<|s_dof (o_lenS rfl) fun hl5 => s_q (.int .i64 (w64 ((w64 (left_2 - (a_1.Name.length:Int))) - (a_1.Ref.length:Int)))) rfl rfl rfl<|s_mov (.int .i64 (w64 ((w64 (left_2 - (a_1.Name.length:Int))) - (a_1.Ref.length:Int)))) rfl<|dk<|awp_seq<|sr<|s_mov (.int .i64 (w64 ((w64 (left_2 - (a_1.Name.length:Int))) - (a_1.Ref.length:Int)))) rfl<|s_q (.bool (decide (w64 ((w64 (left_2 - (a_1.Name.length:Int))) - (a_1.Ref.length:Int)) < 0))) rfl rfl rfl<|w_done<|?_
  refine k_seq ?_
  rcases oi hf with ⟨c6,hf⟩ | ⟨c6,hf⟩
  ·refine w_condt rfl c6<|sr<|s_mov (.int .i64 (-1)) rfl<|dk<|w_ret<|?_;obtain rfl:=os hf;exact r_flat ⟨trivial,trivial⟩ rfl (.refl _)
  ·refine w_condf rfl (bf c6)<|w_skip<|k_seq<|sr<|s_mov (.int .i64 (w64 ((w64 (left_2 - (a_1.Name.length:Int))) - (a_1.Ref.length:Int)))) rfl<|s_mov (.int .i64 (w64 ((w64 (left_2 - (a_1.Name.length:Int))) - (a_1.Ref.length:Int)))) rfl<|dk<|w_ret<|?_;obtain rfl:=os hf;exact r_flat ⟨trivial,trivial⟩ rfl (.refl _)

/- laws.szColumnS -/
def c100:ACode :=
 (.seq (.reg (tm 4 (.c (.int .i64 0)) .done))
 (.seq (.reg (tm 6 (.t 1) (tm 7 (.t 0) (tq 8 (.len (.t 7)) (tq 9 (.bin .sub (.t 6) (.t 8)) (tm 1 (.t 9) .done))))))
 (.seq (.seq (.reg (tm 10 (.t 1) (tq 11 (.bin .lss (.t 10) (.c (.int .i64 0))) .done)))
 (.cond (.t 11) (.seq (.reg (tq 4 (.mov (.c (.int .i64 (-1)))) .done))
 .ret)
 .skip))
 (.seq (.seq (.reg (tm 5 (.c (.int .i64 0)) .done))
 (.block 0 (.loop (.seq (.seq (.reg (tm 12 (.t 5) (tm 13 (.t 0) (tq 14 (.len (.t 13)) (tq 15 (.bin .lss (.t 12) (.t 14)) .done)))))
 (.cond (.t 15) .skip
 (.exit 0)))
 (.seq (.block 1 (.seq (.reg (tm 18 (.t 0) (tm 19 (.t 5) (tq 20 (.iaddr 8 (.t 18) (.t 19)) (tq 21 (.load 8 true (.t 20)) (tm 22 (.t 1) (tq 23 (.call 152 [(.t 21),(.t 22)]) (tm 1 (.t 23) .done))))))))
 (.seq (.reg (tm 24 (.t 1) (tq 25 (.bin .lss (.t 24) (.c (.int .i64 0))) .done)))
 (.cond (.t 25) (.seq (.reg (tq 4 (.mov (.c (.int .i64 (-1)))) .done))
 .ret)
 .skip))))
 (.reg (tm 16 (.t 5) (tq 17 (.bin .add (.t 16) (.c (.int .i64 1))) (tm 5 (.t 17) .done)))))))))
 (.cut (.seq (.reg (tm 26 (.t 1) (tm 4 (.t 26) .done)))
 .ret))))))
theorem fc100:fcomp Tryz.prog Tryz.f100 = some (c100.erase,[.mov (.t 4)],27):=by kernel_rfl
def laws_szColumnS_L1 :List GColumn → Int → Option (Fl Int Int)
  | [],left_21 =>
    some (.go left_21)
  | x_39 :: xs,left_21 =>
    (laws_szColumn x_39 left_21).bind fun r_42 =>
    if (decide (r_42 < 0)) then
    some (.ret (-1))
    else
    laws_szColumnS_L1 xs r_42 

def laws_szColumnS (a_1:(List GColumn)) (left_2:Int):Option Int :=
    if (decide (w64 (left_2 - (a_1.length:Int)) < 0)) then
    some (-1)
    else
    (laws_szColumnS_L1 a_1 (w64 (left_2 - (a_1.length:Int)))).bind fun q => (match q with
    | .ret r => some r
    | .go left_31 =>
    some left_31)
theorem w_laws_szColumnS (a_1:(List GColumn)) (left_2:Int) (r:Int) (hf:laws_szColumnS a_1 left_2 = some r):CallOK Tryz.prog 100 .flat [(.lst 8 (a_1.map encGColumn)),(.int .i64 left_2)] (.int .i64 r):=by
 refine CallOK.of_awp mixed Tryz.func100 fc100 nle ?_;rw [argT_eq];unfold laws_szColumnS at hf;unfold c100;refine (show awp Tryz.prog false 0 _ (ofL [(0,(.lst 8 (a_1.map encGColumn))),(1,(.int .i64 left_2))]) [] _ from ?_);refine sr<|s_mov (.int .i64 0) rfl<|dk<|sr<|s_mov (.int .i64 left_2) rfl<|s_mov (.lst 8 (a_1.map encGColumn)) rfl<|s_dof (o_len (enc:=encGColumn) rfl) fun hl3 => s_q (.int .i64 (w64 (left_2 - (a_1.length:Int)))) rfl rfl rfl<|s_mov (.int .i64 (w64 (left_2 - (a_1.length:Int)))) rfl<|dk<|awp_seq<|sr<|s_mov (.int .i64 (w64 (left_2 - (a_1.length:Int)))) rfl<|s_q (.bool (decide (w64 (left_2 - (a_1.length:Int)) < 0))) rfl rfl rfl<|?_
 refine dk<|?_
 rcases oi hf with ⟨c4,hf⟩ | ⟨c4,hf⟩
 ·refine w_condt rfl c4<|sr<|s_mov (.int .i64 (-1)) rfl<|dk<|w_ret<|?_;obtain rfl:=os hf;exact r_flat ⟨trivial,trivial⟩ rfl (.refl _)
 ·refine w_condf rfl (bf c4)<|w_skip<|k_seq<|awp_seq<|sr<|s_mov (.int .i64 0) rfl<|dk<|?_
  obtain ⟨p32,hb1,hf⟩:=ob hf
  refine awp_cutx (X:={q:Int // p32 = .go q}) (fun q => ([(1,(.int .i64 q.1))],[])) ?_ ?_
  ·refine awp_loop (X:={q:(Int × Nat) // laws_szColumnS_L1 (a_1.drop q.2) q.1 = some p32}) (fun q => ([(0,(.lst 8 (a_1.map encGColumn))),(1,(.int .i64 q.1.1)),(5,(.int .i64 (q.1.2:Int)))],[])) (fun q => a_1.length - q.1.2) ⟨(w64 (left_2 - (a_1.length:Int)),0),hb1⟩ ⟨[],[],_,_,rfl,rfl,⟨.refl _,⟨.refl _,⟨.refl _,trivial⟩⟩⟩,(.refl _)⟩ ?_
   rintro ⟨⟨left_21,i_22⟩,hc1⟩
   have hc1:laws_szColumnS_L1 (a_1.drop i_22) left_21 = some p32:=hc1
   refine (show awp Tryz.prog false 0 _ (ofL [(0,(.lst 8 (a_1.map encGColumn))),(1,(.int .i64 left_21)),(5,(.int .i64 (i_22:Int)))]) [] _ from ?_)
   rcases dropc a_1 i_22 with ⟨hie35,hd38⟩ | ⟨hlt33,x_39,hx34,hd38⟩
   ·rw [hd38,laws_szColumnS_L1.eq_1] at hc1
    have hq37:=dlf hie35
    refine awp_seq<|sr<|s_mov (.int .i64 (i_22:Int)) rfl<|s_mov (.lst 8 (a_1.map encGColumn)) rfl<|s_dof (o_len (enc:=encGColumn) rfl) fun hl40 => s_q (.bool (decide ((i_22:Int) < (a_1.length:Int)))) rfl rfl rfl<|dk<|w_condf rfl hq37<|w_exit<|k_seqx<|k_loopx<|k_blkx<|?_;obtain rfl:=os hc1;exact k_cutn ⟨_,rfl⟩ ⟨[],[],_,_,rfl,rfl,⟨.refl _,trivial⟩,(.refl _)⟩
   ·rw [hd38,laws_szColumnS_L1.eq_2] at hc1
    have hq37:=dlt hlt33
    refine awp_seq<|sr<|s_mov (.int .i64 (i_22:Int)) rfl<|s_mov (.lst 8 (a_1.map encGColumn)) rfl<|s_dof (o_len (enc:=encGColumn) rfl) fun hl41 => s_q (.bool (decide ((i_22:Int) < (a_1.length:Int)))) rfl rfl rfl<|dk<|w_condt rfl hq37<|w_skip<|k_seq<|awp_seq<|w_blk<|sr<|?_
    obtain ⟨r_42,er43,hc1⟩:=ob hc1
    refine s_mov (.lst 8 (a_1.map encGColumn)) rfl<|s_mov (.int .i64 (i_22:Int)) rfl<|s_do (o_iaddrn (enc:=encGColumn) rfl rfl hx34)<|s_q (encGColumn x_39) rfl nle rfl<|s_mov (.int .i64 left_21) rfl<|s_do (o_call (w_laws_szColumn _ _ _ er43) rfl (.refl _) rfl)<|s_mov (.int .i64 r_42) rfl<|dk<|sr<|s_mov (.int .i64 r_42) rfl<|s_q (.bool (decide (r_42 < 0))) rfl rfl rfl<|dk<|?_
    rcases oi hc1 with ⟨c44,hc1⟩ | ⟨c44,hc1⟩
    ·refine w_condt rfl c44<|sr<|s_mov (.int .i64 (-1)) rfl<|dk<|w_ret<|?_;obtain rfl:=os hc1;obtain rfl:=os hf;exact r_flat ⟨trivial,trivial⟩ rfl (.refl _)
    ·refine w_condf rfl (bf c44)<|w_skip<|k_blk<|k_seq<|w_reg<|s_mov (.int .i64 (i_22:Int)) rfl<|s_q (.int .i64 (w64 ((i_22:Int) + 1))) rfl rfl rfl<|s_mov (.int .i64 (w64 ((i_22:Int) + 1))) rfl<|w_done<|?_;exact k_loopn ⟨(r_42,(i_22 + 1)),hc1⟩ (mul hlt33) ⟨[],[],_,_,rfl,rfl,⟨.refl _,⟨.refl _,⟨.of_eq (congrArg (AV.int _) (w64_incr hlt33 hl41)),trivial⟩⟩⟩,(.refl _)⟩
  ·rintro ⟨left_31,rfl⟩
   refine sr<|s_mov (.int .i64 left_31) rfl<|s_mov (.int .i64 left_31) rfl<|dk<|w_ret<|?_;obtain rfl:=os hf;exact r_flat ⟨trivial,trivial⟩ rfl (.refl _)

/- laws.szIntS -/
def c101:ACode :=
 (.seq (.reg (tm 4 (.c (.int .i64 0)) .done))
 (.seq (.reg (tm 5 (.t 1) (tm 6 (.t 0) (tq 7 (.len (.t 6)) (tq 8 (.bin .sub (.t 5) (.t 7)) (tm 1 (.t 8) .done))))))
 (.seq (.seq (.reg (tm 9 (.t 1) (tq 10 (.bin .lss (.t 9) (.c (.int .i64 0))) .done)))
 (.cond (.t 10) (.seq (.reg (tq 4 (.mov (.c (.int .i64 (-1)))) .done))
 .ret)
 .skip))
 (.seq (.reg (tm 11 (.t 1) (tm 4 (.t 11) .done)))
 .ret))))
theorem fc101:fcomp Tryz.prog Tryz.f101 = some (c101.erase,[.mov (.t 4)],12):=by kernel_rfl
def laws_szIntS (a_1:(List Int)) (left_2:Int):Option Int :=
    if (decide (w64 (left_2 - (a_1.length:Int)) < 0)) then
    some (-1)
    else
    some (w64 (left_2 - (a_1.length:Int)))
theorem w_laws_szIntS (a_1:(List Int)) (left_2:Int) (r:Int) (hf:laws_szIntS a_1 left_2 = some r):CallOK Tryz.prog 101 .flat [(.lst 1 (a_1.map encI)),(.int .i64 left_2)] (.int .i64 r):=by
 refine CallOK.of_awp mixed Tryz.func101 fc101 nle ?_;rw [argT_eq];unfold laws_szIntS at hf;unfold c101;refine (show awp Tryz.prog false 0 _ (ofL [(0,(.lst 1 (a_1.map encI))),(1,(.int .i64 left_2))]) [] _ from ?_);refine sr<|s_mov (.int .i64 0) rfl<|dk<|sr<|s_mov (.int .i64 left_2) rfl<|s_mov (.lst 1 (a_1.map encI)) rfl<|s_dof (o_len (enc:=encI) rfl) fun hl3 => s_q (.int .i64 (w64 (left_2 - (a_1.length:Int)))) rfl rfl rfl<|s_mov (.int .i64 (w64 (left_2 - (a_1.length:Int)))) rfl<|dk<|awp_seq<|sr<|s_mov (.int .i64 (w64 (left_2 - (a_1.length:Int)))) rfl<|s_q (.bool (decide (w64 (left_2 - (a_1.length:Int)) < 0))) rfl rfl rfl<|?_
 refine dk<|?_
 rcases oi hf with ⟨c4,hf⟩ | ⟨c4,hf⟩
 ·refine w_condt rfl c4<|sr<|s_mov (.int .i64 (-1)) rfl<|dk<|w_ret<|?_;obtain rfl:=os hf;exact r_flat ⟨trivial,trivial⟩ rfl (.refl _)
 ·refine w_condf rfl (bf c4)<|w_skip<|k_seq<|sr<|s_mov (.int .i64 (w64 (left_2 - (a_1.length:Int)))) rfl<|s_mov (.int .i64 (w64 (left_2 - (a_1.length:Int)))) rfl<|dk<|w_ret<|?_;obtain rfl:=os hf;exact r_flat ⟨trivial,trivial⟩ rfl (.refl _)

/- laws.szTable -/
def c46:ACode :=
 (.seq (.reg (tq 2 (.box 4 (.t 0)) (tm 4 (.c (.int .i64 0)) .done)))
 (.seq (.reg (tm 5 (.t 1) (tq 6 (.faddr 0 (.t 2)) (tq 7 (.load 1 false (.t 6)) (tq 8 (.lenS (.t 7)) (tq 9 (.bin .sub (.t 5) (.t 8)) (tm 1 (.t 9) .done)))))))
 (.seq (.seq (.reg (tm 10 (.t 1) (tq 11 (.bin .lss (.t 10) (.c (.int .i64 0))) .done)))
 (.cond (.t 11) (.seq (.reg (tq 4 (.mov (.c (.int .i64 (-1)))) .done))
 .ret)
 .skip))
 (.seq (.reg (tq 12 (.faddr 1 (.t 2)) (tq 13 (.load 1 false (.t 12)) (tm 14 (.t 1) (tq 15 (.call 100 [(.t 13),(.t 14)]) (tm 1 (.t 15) .done))))))
 (.seq (.seq (.reg (tm 16 (.t 1) (tq 17 (.bin .lss (.t 16) (.c (.int .i64 0))) .done)))
 (.cond (.t 17) (.seq (.reg (tq 4 (.mov (.c (.int .i64 (-1)))) .done))
 .ret)
 .skip))
 (.seq (.reg (tq 18 (.faddr 2 (.t 2)) (tq 19 (.load 1 false (.t 18)) (tm 20 (.t 1) (tq 21 (.call 101 [(.t 19),(.t 20)]) (tm 1 (.t 21) .done))))))
 (.seq (.seq (.reg (tm 22 (.t 1) (tq 23 (.bin .lss (.t 22) (.c (.int .i64 0))) .done)))
 (.cond (.t 23) (.seq (.reg (tq 4 (.mov (.c (.int .i64 (-1)))) .done))
 .ret)
 .skip))
 (.seq (.reg (tm 24 (.t 1) (tm 4 (.t 24) .done)))
 .ret))))))))
theorem fc46:fcomp Tryz.prog Tryz.f46 = some (c46.erase,[.mov (.t 4)],25):=by kernel_rfl
def laws_szTable (a_1:GTable) (left_2:Int):Option Int :=
    if (decide (w64 (left_2 - (a_1.Name.length:Int)) < 0)) then
    some (-1)
    else
    (laws_szColumnS a_1.Columns (w64 (left_2 - (a_1.Name.length:Int)))).bind fun r_5 =>
    if (decide (r_5 < 0)) then
    some (-1)
    else
    (laws_szIntS a_1.Unique r_5).bind fun r_8 =>
    if (decide (r_8 < 0)) then
    some (-1)
    else
    some r_8
theorem w_laws_szTable (a_1:GTable) (left_2:Int) (r:Int) (hf:laws_szTable a_1 left_2 = some r):CallOK Tryz.prog 46 .flat [(encGTable a_1),(.int .i64 left_2)] (.int .i64 r):=by
 refine CallOK.of_awp mixed Tryz.func46 fc46 nle ?_;rw [argT_eq];unfold laws_szTable at hf;unfold c46;refine (show awp Tryz.prog false 0 _ (ofL [(0,(encGTable a_1)),(1,(.int .i64 left_2))]) [] _ from ?_);refine sr<|s_do (o_box (j:=0) (c:=(.agg [(.str a_1.Name),(.lst 8 (a_1.Columns.map encGColumn)),(.lst 1 (a_1.Unique.map encI)),(.bool a_1.Root)])) rfl trivial rfl rfl)<|s_mov (.int .i64 0) rfl<|dk<|sr<|s_mov (.int .i64 left_2) rfl<|s_q (.ptr 0 0 0) rfl trivial rfl<|s_q (.str a_1.Name) rfl nle rfl<|s_dof (o_lenS rfl) fun hl3 => s_q (.int .i64 (w64 (left_2 - (a_1.Name.length:Int)))) rfl rfl rfl<|s_mov (.int .i64 (w64 (left_2 - (a_1.Name.length:Int)))) rfl<|?_
 refine dk<|awp_seq<|sr<|s_mov (.int .i64 (w64 (left_2 - (a_1.Name.length:Int)))) rfl<|s_q (.bool (decide (w64 (left_2 - (a_1.Name.length:Int)) < 0))) rfl rfl rfl<|dk<|?_
 rcases oi hf with ⟨c4,hf⟩ | ⟨c4,hf⟩
 ·refine w_condt rfl c4<|sr<|s_mov (.int .i64 (-1)) rfl<|dk<|w_ret<|?_;obtain rfl:=os hf;exact r_flat ⟨trivial,trivial⟩ rfl (.refl _)
 ·refine w_condf rfl (bf c4)<|w_skip<|k_seq<|sr<|?_
  obtain ⟨r_5,er6,hf⟩:=ob hf
  refine s_q (.ptr 0 0 1) rfl trivial rfl<|s_q (.lst 8 (a_1.Columns.map encGColumn)) rfl nle rfl<|s_mov (.int .i64 (w64 (left_2 - (a_1.Name.length:Int)))) rfl<|s_do (o_call (w_laws_szColumnS _ _ _ er6) rfl (.refl _) rfl)<|s_mov (.int .i64 r_5) rfl<|dk<|awp_seq<|sr<|s_mov (.int .i64 r_5) rfl<|s_q (.bool (decide (r_5 < 0))) rfl rfl rfl<|dk<|?_
  rcases oi hf with ⟨c7,hf⟩ | ⟨c7,hf⟩
  ·refine w_condt rfl c7<|sr<|s_mov (.int .i64 (-1)) rfl<|dk<|w_ret<|?_;obtain rfl:=os hf;exact r_flat ⟨trivial,trivial⟩ rfl (.refl _)
  ·refine w_condf rfl (bf c7)<|w_skip<|k_seq<|sr<|?_
   obtain ⟨r_8,er9,hf⟩:=ob hf
   refine s_q (.ptr 0 0 2) rfl trivial rfl<|s_q (.lst 1 (a_1.Unique.map encI)) rfl nle rfl<|s_mov (.int .i64 r_5) rfl<|s_do (o_call (w_laws_szIntS _ _ _ er9) rfl (.refl _) rfl)<|s_mov (.int .i64 r_8) rfl<|dk<|awp_seq<|sr<|s_mov (.int .i64 r_8) rfl<|s_q (.bool (decide (r_8 < 0))) rfl rfl rfl<|dk<|?_
   rcases oi hf with ⟨c10,hf⟩ | ⟨c10,hf⟩
   ·refine w_condt rfl c10<|sr<|s_mov (.int .i64 (-1)) rfl<|dk<|w_ret<|?_;obtain rfl:=os hf;exact r_flat ⟨trivial,trivial⟩ rfl (.refl _)
   ·refine w_condf rfl (bf c10)<|w_skip<|k_seq<|sr<|s_mov (.int .i64 r_8) rfl<|s_mov (.int .i64 r_8) rfl<|dk<|w_ret<|?_;obtain rfl:=os hf;exact r_flat ⟨trivial,trivial⟩ rfl (.refl _)

/- laws.szTableS -/
def c18:ACode :=
 (.seq (.reg (tm 4 (.c (.int .i64 0)) .done))
 (.seq (.reg (tm 6 (.t 1) (tm 7 (.t 0) (tq 8 (.len (.t 7)) (tq 9 (.bin .sub (.t 6) (.t 8)) (tm 1 (.t 9) .done))))))
 (.seq (.seq (.reg (tm 10 (.t 1) (tq 11 (.bin .lss (.t 10) (.c (.int .i64 0))) .done)))
 (.cond (.t 11) (.seq (.reg (tq 4 (.mov (.c (.int .i64 (-1)))) .done))
 .ret)
 .skip))
 (.seq (.seq (.reg (tm 5 (.c (.int .i64 0)) .done))
 (.block 0 (.loop (.seq (.seq (.reg (tm 12 (.t 5) (tm 13 (.t 0) (tq 14 (.len (.t 13)) (tq 15 (.bin .lss (.t 12) (.t 14)) .done)))))
 (.cond (.t 15) .skip
 (.exit 0)))
 (.seq (.block 1 (.seq (.reg (tm 18 (.t 0) (tm 19 (.t 5) (tq 20 (.iaddr 4 (.t 18) (.t 19)) (tq 21 (.load 4 true (.t 20)) (tm 22 (.t 1) (tq 23 (.call 46 [(.t 21),(.t 22)]) (tm 1 (.t 23) .done))))))))
 (.seq (.reg (tm 24 (.t 1) (tq 25 (.bin .lss (.t 24) (.c (.int .i64 0))) .done)))
 (.cond (.t 25) (.seq (.reg (tq 4 (.mov (.c (.int .i64 (-1)))) .done))
 .ret)
 .skip))))
 (.reg (tm 16 (.t 5) (tq 17 (.bin .add (.t 16) (.c (.int .i64 1))) (tm 5 (.t 17) .done)))))))))
 (.cut (.seq (.reg (tm 26 (.t 1) (tm 4 (.t 26) .done)))
 .ret))))))
theorem fc18:fcomp Tryz.prog Tryz.f18 = some (c18.erase,[.mov (.t 4)],27):=by kernel_rfl
def laws_szTableS_L1 :List GTable → Int → Option (Fl Int Int)
  | [],left_21 =>
    some (.go left_21)
  | x_39 :: xs,left_21 =>
    (laws_szTable x_39 left_21).bind fun r_42 =>
    if (decide (r_42 < 0)) then
    some (.ret (-1))
    else
    laws_szTableS_L1 xs r_42 

def laws_szTableS (a_1:(List GTable)) (left_2:Int):Option Int :=
    if (decide (w64 (left_2 - (a_1.length:Int)) < 0)) then
    some (-1)
    else
    (laws_szTableS_L1 a_1 (w64 (left_2 - (a_1.length:Int)))).bind fun q => (match q with
    | .ret r => some r
    | .go left_31 =>
    some left_31)
theorem w_laws_szTableS (a_1:(List GTable)) (left_2:Int) (r:Int) (hf:laws_szTableS a_1 left_2 = some r):CallOK Tryz.prog 18 .flat [(.lst 4 (a_1.map encGTable)),(.int .i64 left_2)] (.int .i64 r):=by
 refine CallOK.of_awp mixed Tryz.func18 fc18 nle ?_;rw [argT_eq];unfold laws_szTableS at hf;unfold c18;refine (show awp Tryz.prog false 0 _ (ofL [(0,(.lst 4 (a_1.map encGTable))),(1,(.int .i64 left_2))]) [] _ from ?_);refine sr<|s_mov (.int .i64 0) rfl<|dk<|sr<|s_mov (.int .i64 left_2) rfl<|s_mov (.lst 4 (a_1.map encGTable)) rfl<|s_dof (o_len (enc:=encGTable) rfl) fun hl3 => s_q (.int .i64 (w64 (left_2 - (a_1.length:Int)))) rfl rfl rfl<|s_mov (.int .i64 (w64 (left_2 - (a_1.length:Int)))) rfl<|dk<|awp_seq<|sr<|s_mov (.int .i64 (w64 (left_2 - (a_1.length:Int)))) rfl<|s_q (.bool (decide (w64 (left_2 - (a_1.length:Int)) < 0))) rfl rfl rfl<|?_
 refine dk<|?_
 rcases oi hf with ⟨c4,hf⟩ | ⟨c4,hf⟩
 ·refine w_condt rfl c4<|sr<|s_mov (.int .i64 (-1)) rfl<|dk<|w_ret<|?_;obtain rfl:=os hf;exact r_flat ⟨trivial,trivial⟩ rfl (.refl _)
 ·refine w_condf rfl (bf c4)<|w_skip<|k_seq<|awp_seq<|sr<|s_mov (.int .i64 0) rfl<|dk<|?_
  obtain ⟨p32,hb1,hf⟩:=ob hf
  refine awp_cutx (X:={q:Int // p32 = .go q}) (fun q => ([(1,(.int .i64 q.1))],[])) ?_ ?_
  ·refine awp_loop (X:={q:(Int × Nat) // laws_szTableS_L1 (a_1.drop q.2) q.1 = some p32}) (fun q => ([(0,(.lst 4 (a_1.map encGTable))),(1,(.int .i64 q.1.1)),(5,(.int .i64 (q.1.2:Int)))],[])) (fun q => a_1.length - q.1.2) ⟨(w64 (left_2 - (a_1.length:Int)),0),hb1⟩ ⟨[],[],_,_,rfl,rfl,⟨.refl _,⟨.refl _,⟨.refl _,trivial⟩⟩⟩,(.refl _)⟩ ?_
   rintro ⟨⟨left_21,i_22⟩,hc1⟩
   have hc1:laws_szTableS_L1 (a_1.drop i_22) left_21 = some p32:=hc1
   refine (show awp Tryz.prog false 0 _ (ofL [(0,(.lst 4 (a_1.map encGTable))),(1,(.int .i64 left_21)),(5,(.int .i64 (i_22:Int)))]) [] _ from ?_)
   rcases dropc a_1 i_22 with ⟨hie35,hd38⟩ | ⟨hlt33,x_39,hx34,hd38⟩
   ·rw [hd38,laws_szTableS_L1.eq_1] at hc1
    have hq37:=dlf hie35
    refine awp_seq<|sr<|s_mov (.int .i64 (i_22:Int)) rfl<|s_mov (.lst 4 (a_1.map encGTable)) rfl<|s_dof (o_len (enc:=encGTable) rfl) fun hl40 => s_q (.bool (decide ((i_22:Int) < (a_1.length:Int)))) rfl rfl rfl<|dk<|w_condf rfl hq37<|w_exit<|k_seqx<|k_loopx<|k_blkx<|?_;obtain rfl:=os hc1;exact k_cutn ⟨_,rfl⟩ ⟨[],[],_,_,rfl,rfl,⟨.refl _,trivial⟩,(.refl _)⟩
   ·rw [hd38,laws_szTableS_L1.eq_2] at hc1
    have hq37:=dlt hlt33
    refine awp_seq<|sr<|s_mov (.int .i64 (i_22:Int)) rfl<|s_mov (.lst 4 (a_1.map encGTable)) rfl<|s_dof (o_len (enc:=encGTable) rfl) fun hl41 => s_q (.bool (decide ((i_22:Int) < (a_1.length:Int)))) rfl rfl rfl<|dk<|w_condt rfl hq37<|w_skip<|k_seq<|awp_seq<|w_blk<|sr<|?_
    obtain ⟨r_42,er43,hc1⟩:=ob hc1
    refine s_mov (.lst 4 (a_1.map encGTable)) rfl<|s_mov (.int .i64 (i_22:Int)) rfl<|s_do (o_iaddrn (enc:=encGTable) rfl rfl hx34)<|s_q (encGTable x_39) rfl nle rfl<|s_mov (.int .i64 left_21) rfl<|s_do (o_call (w_laws_szTable _ _ _ er43) rfl (.refl _) rfl)<|s_mov (.int .i64 r_42) rfl<|dk<|sr<|s_mov (.int .i64 r_42) rfl<|s_q (.bool (decide (r_42 < 0))) rfl rfl rfl<|dk<|?_
    rcases oi hc1 with ⟨c44,hc1⟩ | ⟨c44,hc1⟩
    ·refine w_condt rfl c44<|sr<|s_mov (.int .i64 (-1)) rfl<|dk<|w_ret<|?_;obtain rfl:=os hc1;obtain rfl:=os hf;exact r_flat ⟨trivial,trivial⟩ rfl (.refl _)
    ·refine w_condf rfl (bf c44)<|w_skip<|k_blk<|k_seq<|w_reg<|s_mov (.int .i64 (i_22:Int)) rfl<|s_q (.int .i64 (w64 ((i_22:Int) + 1))) rfl rfl rfl<|s_mov (.int .i64 (w64 ((i_22:Int) + 1))) rfl<|w_done<|?_;exact k_loopn ⟨(r_42,(i_22 + 1)),hc1⟩ (mul hlt33) ⟨[],[],_,_,rfl,rfl,⟨.refl _,⟨.refl _,⟨.of_eq (congrArg (AV.int _) (w64_incr hlt33 hl41)),trivial⟩⟩⟩,(.refl _)⟩
  ·rintro ⟨left_31,rfl⟩
   refine sr<|s_mov (.int .i64 left_31) rfl<|s_mov (.int .i64 left_31) rfl<|dk<|w_ret<|?_;obtain rfl:=os hf;exact r_flat ⟨trivial,trivial⟩ rfl (.refl _)

/- laws.szSchema -/
def c5:ACode :=
 (.seq (.reg (tq 2 (.box 1 (.t 0)) (tm 4 (.c (.int .i64 0)) .done)))
 (.seq (.reg (tq 5 (.faddr 0 (.t 2)) (tq 6 (.load 1 false (.t 5)) (tm 7 (.t 1) (tq 8 (.call 18 [(.t 6),(.t 7)]) (tm 1 (.t 8) .done))))))
 (.seq (.seq (.reg (tm 9 (.t 1) (tq 10 (.bin .lss (.t 9) (.c (.int .i64 0))) .done)))
 (.cond (.t 10) (.seq (.reg (tq 4 (.mov (.c (.int .i64 (-1)))) .done))
 .ret)
 .skip))
 (.seq (.reg (tm 11 (.t 1) (tm 4 (.t 11) .done)))
 .ret))))
theorem fc5:fcomp Tryz.prog Tryz.f5 = some (c5.erase,[.mov (.t 4)],12):=by kernel_rfl
def laws_szSchema (a_1:GSchema) (left_2:Int):Option Int :=
    (laws_szTableS a_1.Tables left_2).bind fun r_3 =>
    if (decide (r_3 < 0)) then
    some (-1)
    else
    some r_3
theorem w_laws_szSchema (a_1:GSchema) (left_2:Int) (r:Int) (hf:laws_szSchema a_1 left_2 = some r):CallOK Tryz.prog 5 .flat [(encGSchema a_1),(.int .i64 left_2)] (.int .i64 r):=by
 refine CallOK.of_awp mixed Tryz.func5 fc5 nle ?_;rw [argT_eq];unfold laws_szSchema at hf;unfold c5;refine (show awp Tryz.prog false 0 _ (ofL [(0,(encGSchema a_1)),(1,(.int .i64 left_2))]) [] _ from ?_);refine sr<|s_do (o_box (j:=0) (c:=(.agg [(.lst 4 (a_1.Tables.map encGTable))])) rfl trivial rfl rfl)<|s_mov (.int .i64 0) rfl<|dk<|sr<|?_
 obtain ⟨r_3,er4,hf⟩:=ob hf
 refine s_q (.ptr 0 0 0) rfl trivial rfl<|s_q (.lst 4 (a_1.Tables.map encGTable)) rfl nle rfl<|s_mov (.int .i64 left_2) rfl<|s_do (o_call (w_laws_szTableS _ _ _ er4) rfl (.refl _) rfl)<|s_mov (.int .i64 r_3) rfl<|dk<|awp_seq<|sr<|s_mov (.int .i64 r_3) rfl<|s_q (.bool (decide (r_3 < 0))) rfl rfl rfl<|dk<|?_
 rcases oi hf with ⟨c5,hf⟩ | ⟨c5,hf⟩
 ·refine w_condt rfl c5<|sr<|s_mov (.int .i64 (-1)) rfl<|dk<|w_ret<|?_;obtain rfl:=os hf;exact r_flat ⟨trivial,trivial⟩ rfl (.refl _)
 ·refine w_condf rfl (bf c5)<|w_skip<|k_seq<|sr<|s_mov (.int .i64 r_3) rfl<|s_mov (.int .i64 r_3) rfl<|dk<|w_ret<|?_;obtain rfl:=os hf;exact r_flat ⟨trivial,trivial⟩ rfl (.refl _)

/- laws.szAtom -/
def c166:ACode :=
 (.seq (.reg (tq 2 (.box 3 (.t 0)) (tm 4 (.c (.int .i64 0)) .done)))
 (.seq (.reg (tm 5 (.t 1) (tq 6 (.faddr 2 (.t 2)) (tq 7 (.load 1 false (.t 6)) (tq 8 (.lenS (.t 7)) (tq 9 (.bin .sub (.t 5) (.t 8)) (tm 1 (.t 9) .done)))))))
 (.seq (.seq (.reg (tm 10 (.t 1) (tq 11 (.bin .lss (.t 10) (.c (.int .i64 0))) .done)))
 (.cond (.t 11) (.seq (.reg (tq 4 (.mov (.c (.int .i64 (-1)))) .done))
 .ret)
 .skip))
 (.seq (.reg (tm 12 (.t 1) (tm 4 (.t 12) .done)))
 .ret))))
theorem fc166:fcomp Tryz.prog Tryz.f166 = some (c166.erase,[.mov (.t 4)],13):=by kernel_rfl
def laws_szAtom (a_1:GAtom) (left_2:Int):Option Int :=
    if (decide (w64 (left_2 - (a_1.T.length:Int)) < 0)) then
    some (-1)
    else
    some (w64 (left_2 - (a_1.T.length:Int)))
theorem w_laws_szAtom (a_1:GAtom) (left_2:Int) (r:Int) (hf:laws_szAtom a_1 left_2 = some r):CallOK Tryz.prog 166 .flat [(encGAtom a_1),(.int .i64 left_2)] (.int .i64 r):=by
 refine CallOK.of_awp mixed Tryz.func166 fc166 nle ?_;rw [argT_eq];unfold laws_szAtom at hf;unfold c166;refine (show awp Tryz.prog false 0 _ (ofL [(0,(encGAtom a_1)),(1,(.int .i64 left_2))]) [] _ from ?_);refine sr<|s_do (o_box (j:=0) (c:=(.agg [(.int .i64 a_1.Kind),(.int .i64 a_1.N),(.str a_1.T)])) rfl trivial rfl rfl)<|s_mov (.int .i64 0) rfl<|dk<|sr<|s_mov (.int .i64 left_2) rfl<|s_q (.ptr 0 0 2) rfl trivial rfl<|s_q (.str a_1.T) rfl nle rfl<|s_dof (o_lenS rfl) fun hl3 => s_q (.int .i64 (w64 (left_2 - (a_1.T.length:Int)))) rfl rfl rfl<|s_mov (.int .i64 (w64 (left_2 - (a_1.T.length:Int)))) rfl<|dk<|awp_seq<|sr<|?_
 refine s_mov (.int .i64 (w64 (left_2 - (a_1.T.length:Int)))) rfl<|s_q (.bool (decide (w64 (left_2 - (a_1.T.length:Int)) < 0))) rfl rfl rfl<|dk<|?_
 rcases oi hf with ⟨c4,hf⟩ | ⟨c4,hf⟩
 ·refine w_condt rfl c4<|sr<|s_mov (.int .i64 (-1)) rfl<|dk<|w_ret<|?_;obtain rfl:=os hf;exact r_flat ⟨trivial,trivial⟩ rfl (.refl _)
 ·refine w_condf rfl (bf c4)<|w_skip<|k_seq<|sr<|s_mov (.int .i64 (w64 (left_2 - (a_1.T.length:Int)))) rfl<|s_mov (.int .i64 (w64 (left_2 - (a_1.T.length:Int)))) rfl<|dk<|w_ret<|?_;obtain rfl:=os hf;exact r_flat ⟨trivial,trivial⟩ rfl (.refl _)

/- laws.szAtomS -/
def c122:ACode :=
 (.seq (.reg (tm 4 (.c (.int .i64 0)) .done))
 (.seq (.reg (tm 6 (.t 1) (tm 7 (.t 0) (tq 8 (.len (.t 7)) (tq 9 (.bin .sub (.t 6) (.t 8)) (tm 1 (.t 9) .done))))))
 (.seq (.seq (.reg (tm 10 (.t 1) (tq 11 (.bin .lss (.t 10) (.c (.int .i64 0))) .done)))
 (.cond (.t 11) (.seq (.reg (tq 4 (.mov (.c (.int .i64 (-1)))) .done))
 .ret)
 .skip))
 (.seq (.seq (.reg (tm 5 (.c (.int .i64 0)) .done))
 (.block 0 (.loop (.seq (.seq (.reg (tm 12 (.t 5) (tm 13 (.t 0) (tq 14 (.len (.t 13)) (tq 15 (.bin .lss (.t 12) (.t 14)) .done)))))
 (.cond (.t 15) .skip
 (.exit 0)))
 (.seq (.block 1 (.seq (.reg (tm 18 (.t 0) (tm 19 (.t 5) (tq 20 (.iaddr 3 (.t 18) (.t 19)) (tq 21 (.load 3 true (.t 20)) (tm 22 (.t 1) (tq 23 (.call 166 [(.t 21),(.t 22)]) (tm 1 (.t 23) .done))))))))
 (.seq (.reg (tm 24 (.t 1) (tq 25 (.bin .lss (.t 24) (.c (.int .i64 0))) .done)))
 (.cond (.t 25) (.seq (.reg (tq 4 (.mov (.c (.int .i64 (-1)))) .done))
 .ret)
 .skip))))
 (.reg (tm 16 (.t 5) (tq 17 (.bin .add (.t 16) (.c (.int .i64 1))) (tm 5 (.t 17) .done)))))))))
 (.cut (.seq (.reg (tm 26 (.t 1) (tm 4 (.t 26) .done)))
 .ret))))))
theorem fc122:fcomp Tryz.prog Tryz.f122 = some (c122.erase,[.mov (.t 4)],27):=by kernel_rfl
def laws_szAtomS_L1 :List GAtom → Int → Option (Fl Int Int)
  | [],left_21 =>
    some (.go left_21)
  | x_39 :: xs,left_21 =>
    (laws_szAtom x_39 left_21).bind fun r_42 =>
    if (decide (r_42 < 0)) then
    some (.ret (-1))
    else
    laws_szAtomS_L1 xs r_42 

def laws_szAtomS (a_1:(List GAtom)) (left_2:Int):Option Int :=
    if (decide (w64 (left_2 - (a_1.length:Int)) < 0)) then
    some (-1)
    else
    (laws_szAtomS_L1 a_1 (w64 (left_2 - (a_1.length:Int)))).bind fun q => (match q with
    | .ret r => some r
    | .go left_31 =>
    some left_31)
theorem w_laws_szAtomS (a_1:(List GAtom)) (left_2:Int) (r:Int) (hf:laws_szAtomS a_1 left_2 = some r):CallOK Tryz.prog 122 .flat [(.lst 3 (a_1.map encGAtom)),(.int .i64 left_2)] (.int .i64 r):=by
 refine CallOK.of_awp mixed Tryz.func122 fc122 nle ?_;rw [argT_eq];unfold laws_szAtomS at hf;unfold c122;refine (show awp Tryz.prog false 0 _ (ofL [(0,(.lst 3 (a_1.map encGAtom))),(1,(.int .i64 left_2))]) [] _ from ?_);refine sr<|s_mov (.int .i64 0) rfl<|dk<|sr<|s_mov (.int .i64 left_2) rfl<|s_mov (.lst 3 (a_1.map encGAtom)) rfl<|s_dof (o_len (enc:=encGAtom) rfl) fun hl3 => s_q (.int .i64 (w64 (left_2 - (a_1.length:Int)))) rfl rfl rfl<|s_mov (.int .i64 (w64 (left_2 - (a_1.length:Int)))) rfl<|dk<|awp_seq<|sr<|s_mov (.int .i64 (w64 (left_2 - (a_1.length:Int)))) rfl<|s_q (.bool (decide (w64 (left_2 - (a_1.length:Int)) < 0))) rfl rfl rfl<|?_
 refine dk<|?_
 rcases oi hf with ⟨c4,hf⟩ | ⟨c4,hf⟩
 ·refine w_condt rfl c4<|sr<|s_mov (.int .i64 (-1)) rfl<|dk<|w_ret<|?_;obtain rfl:=os hf;exact r_flat ⟨trivial,trivial⟩ rfl (.refl _)
 ·refine w_condf rfl (bf c4)<|w_skip<|k_seq<|awp_seq<|sr<|s_mov (.int .i64 0) rfl<|dk<|?_
  obtain ⟨p32,hb1,hf⟩:=ob hf
  refine awp_cutx (X:={q:Int // p32 = .go q}) (fun q => ([(1,(.int .i64 q.1))],[])) ?_ ?_
  ·refine awp_loop (X:={q:(Int × Nat) // laws_szAtomS_L1 (a_1.drop q.2) q.1 = some p32}) (fun q => ([(0,(.lst 3 (a_1.map encGAtom))),(1,(.int .i64 q.1.1)),(5,(.int .i64 (q.1.2:Int)))],[])) (fun q => a_1.length - q.1.2) ⟨(w64 (left_2 - (a_1.length:Int)),0),hb1⟩ ⟨[],[],_,_,rfl,rfl,⟨.refl _,⟨.refl _,⟨.refl _,trivial⟩⟩⟩,(.refl _)⟩ ?_
   rintro ⟨⟨left_21,i_22⟩,hc1⟩
   have hc1:laws_szAtomS_L1 (a_1.drop i_22) left_21 = some p32:=hc1
   refine (show awp Tryz.prog false 0 _ (ofL [(0,(.lst 3 (a_1.map encGAtom))),(1,(.int .i64 left_21)),(5,(.int .i64 (i_22:Int)))]) [] _ from ?_)
   rcases dropc a_1 i_22 with ⟨hie35,hd38⟩ | ⟨hlt33,x_39,hx34,hd38⟩
   ·rw [hd38,laws_szAtomS_L1.eq_1] at hc1
    have hq37:=dlf hie35
    refine awp_seq<|sr<|s_mov (.int .i64 (i_22:Int)) rfl<|s_mov (.lst 3 (a_1.map encGAtom)) rfl<|s_dof (o_len (enc:=encGAtom) rfl) fun hl40 => s_q (.bool (decide ((i_22:Int) < (a_1.length:Int)))) rfl rfl rfl<|dk<|w_condf rfl hq37<|w_exit<|k_seqx<|k_loopx<|k_blkx<|?_;obtain rfl:=os hc1;exact k_cutn ⟨_,rfl⟩ ⟨[],[],_,_,rfl,rfl,⟨.refl _,trivial⟩,(.refl _)⟩
   ·rw [hd38,laws_szAtomS_L1.eq_2] at hc1
    have hq37:=dlt hlt33
    refine awp_seq<|sr<|s_mov (.int .i64 (i_22:Int)) rfl<|s_mov (.lst 3 (a_1.map encGAtom)) rfl<|s_dof (o_len (enc:=encGAtom) rfl) fun hl41 => s_q (.bool (decide ((i_22:Int) < (a_1.length:Int)))) rfl rfl rfl<|dk<|w_condt rfl hq37<|w_skip<|k_seq<|awp_seq<|w_blk<|sr<|?_
    obtain ⟨r_42,er43,hc1⟩:=ob hc1
    refine s_mov (.lst 3 (a_1.map encGAtom)) rfl<|s_mov (.int .i64 (i_22:Int)) rfl<|s_do (o_iaddrn (enc:=encGAtom) rfl rfl hx34)<|s_q (encGAtom x_39) rfl nle rfl<|s_mov (.int .i64 left_21) rfl<|s_do (o_call (w_laws_szAtom _ _ _ er43) rfl (.refl _) rfl)<|s_mov (.int .i64 r_42) rfl<|dk<|sr<|s_mov (.int .i64 r_42) rfl<|s_q (.bool (decide (r_42 < 0))) rfl rfl rfl<|dk<|?_
    rcases oi hc1 with ⟨c44,hc1⟩ | ⟨c44,hc1⟩
    ·refine w_condt rfl c44<|sr<|s_mov (.int .i64 (-1)) rfl<|dk<|w_ret<|?_;obtain rfl:=os hc1;obtain rfl:=os hf;exact r_flat ⟨trivial,trivial⟩ rfl (.refl _)
    ·refine w_condf rfl (bf c44)<|w_skip<|k_blk<|k_seq<|w_reg<|s_mov (.int .i64 (i_22:Int)) rfl<|s_q (.int .i64 (w64 ((i_22:Int) + 1))) rfl rfl rfl<|s_mov (.int .i64 (w64 ((i_22:Int) + 1))) rfl<|w_done<|?_;exact k_loopn ⟨(r_42,(i_22 + 1)),hc1⟩ (mul hlt33) ⟨[],[],_,_,rfl,rfl,⟨.refl _,⟨.refl _,⟨.of_eq (congrArg (AV.int _) (w64_incr hlt33 hl41)),trivial⟩⟩⟩,(.refl _)⟩
  ·rintro ⟨left_31,rfl⟩
   refine sr<|s_mov (.int .i64 left_31) rfl<|s_mov (.int .i64 left_31) rfl<|dk<|w_ret<|?_;obtain rfl:=os hf;exact r_flat ⟨trivial,trivial⟩ rfl (.refl _)

/- laws.szCond -/
def c66:ACode :=
 (.seq (.reg (tq 2 (.box 3 (.t 0)) (tm 4 (.c (.int .i64 0)) .done)))
 (.seq (.reg (tm 5 (.t 1) (tq 6 (.faddr 0 (.t 2)) (tq 7 (.load 1 false (.t 6)) (tq 8 (.lenS (.t 7)) (tq 9 (.bin .sub (.t 5) (.t 8)) (tm 1 (.t 9) .done)))))))
 (.seq (.seq (.reg (tm 10 (.t 1) (tq 11 (.bin .lss (.t 10) (.c (.int .i64 0))) .done)))
 (.cond (.t 11) (.seq (.reg (tq 4 (.mov (.c (.int .i64 (-1)))) .done))
 .ret)
 .skip))
 (.seq (.reg (tq 12 (.faddr 2 (.t 2)) (tq 13 (.load 1 false (.t 12)) (tm 14 (.t 1) (tq 15 (.call 122 [(.t 13),(.t 14)]) (tm 1 (.t 15) .done))))))
 (.seq (.seq (.reg (tm 16 (.t 1) (tq 17 (.bin .lss (.t 16) (.c (.int .i64 0))) .done)))
 (.cond (.t 17) (.seq (.reg (tq 4 (.mov (.c (.int .i64 (-1)))) .done))
 .ret)
 .skip))
 (.seq (.reg (tm 18 (.t 1) (tm 4 (.t 18) .done)))
 .ret))))))
theorem fc66:fcomp Tryz.prog Tryz.f66 = some (c66.erase,[.mov (.t 4)],19):=by kernel_rfl
def laws_szCond (a_1:GCond) (left_2:Int):Option Int :=
    if (decide (w64 (left_2 - (a_1.Column.length:Int)) < 0)) then
    some (-1)
    else
    (laws_szAtomS a_1.Value (w64 (left_2 - (a_1.Column.length:Int)))).bind fun r_5 =>
    if (decide (r_5 < 0)) then
    some (-1)
    else
    some r_5
theorem w_laws_szCond (a_1:GCond) (left_2:Int) (r:Int) (hf:laws_szCond a_1 left_2 = some r):CallOK Tryz.prog 66 .flat [(encGCond a_1),(.int .i64 left_2)] (.int .i64 r):=by
 refine CallOK.of_awp mixed Tryz.func66 fc66 nle ?_;rw [argT_eq];unfold laws_szCond at hf;unfold c66;refine (show awp Tryz.prog false 0 _ (ofL [(0,(encGCond a_1)),(1,(.int .i64 left_2))]) [] _ from ?_);refine sr<|s_do (o_box (j:=0) (c:=(.agg [(.str a_1.Column),(.int .i64 a_1.Func),(.lst 3 (a_1.Value.map encGAtom))])) rfl trivial rfl rfl)<|s_mov (.int .i64 0) rfl<|dk<|sr<|s_mov (.int .i64 left_2) rfl<|s_q (.ptr 0 0 0) rfl trivial rfl<|s_q (.str a_1.Column) rfl nle rfl<|s_dof (o_lenS rfl) fun hl3 => s_q (.int .i64 (w64 (left_2 - (a_1.Column.length:Int)))) rfl rfl rfl<|s_mov (.int .i64 (w64 (left_2 - (a_1.Column.length:Int)))) rfl<|dk<|?_
 refine awp_seq<|sr<|s_mov (.int .i64 (w64 (left_2 - (a_1.Column.length:Int)))) rfl<|s_q (.bool (decide (w64 (left_2 - (a_1.Column.length:Int)) < 0))) rfl rfl rfl<|dk<|?_
 rcases oi hf with ⟨c4,hf⟩ | ⟨c4,hf⟩
 ·refine w_condt rfl c4<|sr<|s_mov (.int .i64 (-1)) rfl<|dk<|w_ret<|?_;obtain rfl:=os hf;exact r_flat ⟨trivial,trivial⟩ rfl (.refl _)
 ·refine w_condf rfl (bf c4)<|w_skip<|k_seq<|sr<|?_
  obtain ⟨r_5,er6,hf⟩:=ob hf
  refine s_q (.ptr 0 0 2) rfl trivial rfl<|s_q (.lst 3 (a_1.Value.map encGAtom)) rfl nle rfl<|s_mov (.int .i64 (w64 (left_2 - (a_1.Column.length:Int)))) rfl<|s_do (o_call (w_laws_szAtomS _ _ _ er6) rfl (.refl _) rfl)<|s_mov (.int .i64 r_5) rfl<|dk<|awp_seq<|sr<|s_mov (.int .i64 r_5) rfl<|s_q (.bool (decide (r_5 < 0))) rfl rfl rfl<|dk<|?_
  rcases oi hf with ⟨c7,hf⟩ | ⟨c7,hf⟩
  ·refine w_condt rfl c7<|sr<|s_mov (.int .i64 (-1)) rfl<|dk<|w_ret<|?_;obtain rfl:=os hf;exact r_flat ⟨trivial,trivial⟩ rfl (.refl _)
  ·refine w_condf rfl (bf c7)<|w_skip<|k_seq<|sr<|s_mov (.int .i64 r_5) rfl<|s_mov (.int .i64 r_5) rfl<|dk<|w_ret<|?_;obtain rfl:=os hf;exact r_flat ⟨trivial,trivial⟩ rfl (.refl _)

/- laws.szCondS -/
def c29:ACode :=
 (.seq (.reg (tm 4 (.c (.int .i64 0)) .done))
 (.seq (.reg (tm 6 (.t 1) (tm 7 (.t 0) (tq 8 (.len (.t 7)) (tq 9 (.bin .sub (.t 6) (.t 8)) (tm 1 (.t 9) .done))))))
 (.seq (.seq (.reg (tm 10 (.t 1) (tq 11 (.bin .lss (.t 10) (.c (.int .i64 0))) .done)))
 (.cond (.t 11) (.seq (.reg (tq 4 (.mov (.c (.int .i64 (-1)))) .done))
 .ret)
 .skip))
 (.seq (.seq (.reg (tm 5 (.c (.int .i64 0)) .done))
 (.block 0 (.loop (.seq (.seq (.reg (tm 12 (.t 5) (tm 13 (.t 0) (tq 14 (.len (.t 13)) (tq 15 (.bin .lss (.t 12) (.t 14)) .done)))))
 (.cond (.t 15) .skip
 (.exit 0)))
 (.seq (.block 1 (.seq (.reg (tm 18 (.t 0) (tm 19 (.t 5) (tq 20 (.iaddr 3 (.t 18) (.t 19)) (tq 21 (.load 3 true (.t 20)) (tm 22 (.t 1) (tq 23 (.call 66 [(.t 21),(.t 22)]) (tm 1 (.t 23) .done))))))))
 (.seq (.reg (tm 24 (.t 1) (tq 25 (.bin .lss (.t 24) (.c (.int .i64 0))) .done)))
 (.cond (.t 25) (.seq (.reg (tq 4 (.mov (.c (.int .i64 (-1)))) .done))
 .ret)
 .skip))))
 (.reg (tm 16 (.t 5) (tq 17 (.bin .add (.t 16) (.c (.int .i64 1))) (tm 5 (.t 17) .done)))))))))
 (.cut (.seq (.reg (tm 26 (.t 1) (tm 4 (.t 26) .done)))
 .ret))))))
theorem fc29:fcomp Tryz.prog Tryz.f29 = some (c29.erase,[.mov (.t 4)],27):=by kernel_rfl
def laws_szCondS_L1 :List GCond → Int → Option (Fl Int Int)
  | [],left_21 =>
    some (.go left_21)
  | x_39 :: xs,left_21 =>
    (laws_szCond x_39 left_21).bind fun r_42 =>
    if (decide (r_42 < 0)) then
    some (.ret (-1))
    else
    laws_szCondS_L1 xs r_42 

def laws_szCondS (a_1:(List GCond)) (left_2:Int):Option Int :=
    if (decide (w64 (left_2 - (a_1.length:Int)) < 0)) then
    some (-1)
    else
    (laws_szCondS_L1 a_1 (w64 (left_2 - (a_1.length:Int)))).bind fun q => (match q with
    | .ret r => some r
    | .go left_31 =>
    some left_31)
theorem w_laws_szCondS (a_1:(List GCond)) (left_2:Int) (r:Int) (hf:laws_szCondS a_1 left_2 = some r):CallOK Tryz.prog 29 .flat [(.lst 3 (a_1.map encGCond)),(.int .i64 left_2)] (.int .i64 r):=by
 refine CallOK.of_awp mixed Tryz.func29 fc29 nle ?_;rw [argT_eq];unfold laws_szCondS at hf;unfold c29;refine (show awp Tryz.prog false 0 _ (ofL [(0,(.lst 3 (a_1.map encGCond))),(1,(.int .i64 left_2))]) [] _ from ?_);refine sr<|s_mov (.int .i64 0) rfl<|dk<|sr<|s_mov (.int .i64 left_2) rfl<|s_mov (.lst 3 (a_1.map encGCond)) rfl<|s_dof (o_len (enc:=encGCond) rfl) fun hl3 => s_q (.int .i64 (w64 (left_2 - (a_1.length:Int)))) rfl rfl rfl<|s_mov (.int .i64 (w64 (left_2 - (a_1.length:Int)))) rfl<|dk<|awp_seq<|sr<|s_mov (.int .i64 (w64 (left_2 - (a_1.length:Int)))) rfl<|s_q (.bool (decide (w64 (left_2 - (a_1.length:Int)) < 0))) rfl rfl rfl<|?_
 refine dk<|?_
 rcases oi hf with ⟨c4,hf⟩ | ⟨c4,hf⟩
 ·refine w_condt rfl c4<|sr<|s_mov (.int .i64 (-1)) rfl<|dk<|w_ret<|?_;obtain rfl:=os hf;exact r_flat ⟨trivial,trivial⟩ rfl (.refl _)
 ·refine w_condf rfl (bf c4)<|w_skip<|k_seq<|awp_seq<|sr<|s_mov (.int .i64 0) rfl<|dk<|?_
  obtain ⟨p32,hb1,hf⟩:=ob hf
  refine awp_cutx (X:={q:Int // p32 = .go q}) (fun q => ([(1,(.int .i64 q.1))],[])) ?_ ?_
  ·refine awp_loop (X:={q:(Int × Nat) // laws_szCondS_L1 (a_1.drop q.2) q.1 = some p32}) (fun q => ([(0,(.lst 3 (a_1.map encGCond))),(1,(.int .i64 q.1.1)),(5,(.int .i64 (q.1.2:Int)))],[])) (fun q => a_1.length - q.1.2) ⟨(w64 (left_2 - (a_1.length:Int)),0),hb1⟩ ⟨[],[],_,_,rfl,rfl,⟨.refl _,⟨.refl _,⟨.refl _,trivial⟩⟩⟩,(.refl _)⟩ ?_
   rintro ⟨⟨left_21,i_22⟩,hc1⟩
   have hc1:laws_szCondS_L1 (a_1.drop i_22) left_21 = some p32:=hc1
   refine (show awp Tryz.prog false 0 _ (ofL [(0,(.lst 3 (a_1.map encGCond))),(1,(.int .i64 left_21)),(5,(.int .i64 (i_22:Int)))]) [] _ from ?_)
   rcases dropc a_1 i_22 with ⟨hie35,hd38⟩ | ⟨hlt33,x_39,hx34,hd38⟩
   ·rw [hd38,laws_szCondS_L1.eq_1] at hc1
    have hq37:=dlf hie35
    refine awp_seq<|sr<|s_mov (.int .i64 (i_22:Int)) rfl<|s_mov (.lst 3 (a_1.map encGCond)) rfl<|s_dof (o_len (enc:=encGCond) rfl) fun hl40 => s_q (.bool (decide ((i_22:Int) < (a_1.length:Int)))) rfl rfl rfl<|dk<|w_condf rfl hq37<|w_exit<|k_seqx<|k_loopx<|k_blkx<|?_;obtain rfl:=os hc1;exact k_cutn ⟨_,rfl⟩ ⟨[],[],_,_,rfl,rfl,⟨.refl _,trivial⟩,(.refl _)⟩
   ·rw [hd38,laws_szCondS_L1.eq_2] at hc1
    have hq37:=dlt hlt33
    refine awp_seq<|sr<|s_mov (.int .i64 (i_22:Int)) rfl<|s_mov (.lst 3 (a_1.map encGCond)) rfl<|s_dof (o_len (enc:=encGCond) rfl) fun hl41 => s_q (.bool (decide ((i_22:Int) < (a_1.length:Int)))) rfl rfl rfl<|dk<|w_condt rfl hq37<|w_skip<|k_seq<|awp_seq<|w_blk<|sr<|?_
    obtain ⟨r_42,er43,hc1⟩:=ob hc1
    refine s_mov (.lst 3 (a_1.map encGCond)) rfl<|s_mov (.int .i64 (i_22:Int)) rfl<|s_do (o_iaddrn (enc:=encGCond) rfl rfl hx34)<|s_q (encGCond x_39) rfl nle rfl<|s_mov (.int .i64 left_21) rfl<|s_do (o_call (w_laws_szCond _ _ _ er43) rfl (.refl _) rfl)<|s_mov (.int .i64 r_42) rfl<|dk<|sr<|s_mov (.int .i64 r_42) rfl<|s_q (.bool (decide (r_42 < 0))) rfl rfl rfl<|dk<|?_
    rcases oi hc1 with ⟨c44,hc1⟩ | ⟨c44,hc1⟩
    ·refine w_condt rfl c44<|sr<|s_mov (.int .i64 (-1)) rfl<|dk<|w_ret<|?_;obtain rfl:=os hc1;obtain rfl:=os hf;exact r_flat ⟨trivial,trivial⟩ rfl (.refl _)
    ·refine w_condf rfl (bf c44)<|w_skip<|k_blk<|k_seq<|w_reg<|s_mov (.int .i64 (i_22:Int)) rfl<|s_q (.int .i64 (w64 ((i_22:Int) + 1))) rfl rfl rfl<|s_mov (.int .i64 (w64 ((i_22:Int) + 1))) rfl<|w_done<|?_;exact k_loopn ⟨(r_42,(i_22 + 1)),hc1⟩ (mul hlt33) ⟨[],[],_,_,rfl,rfl,⟨.refl _,⟨.refl _,⟨.of_eq (congrArg (AV.int _) (w64_incr hlt33 hl41)),trivial⟩⟩⟩,(.refl _)⟩
  ·rintro ⟨left_31,rfl⟩
   refine sr<|s_mov (.int .i64 left_31) rfl<|s_mov (.int .i64 left_31) rfl<|dk<|w_ret<|?_;obtain rfl:=os hf;exact r_flat ⟨trivial,trivial⟩ rfl (.refl _)

/- laws.szStringS -/
def c32:ACode :=
 (.seq (.reg (tm 4 (.c (.int .i64 0)) .done))
 (.seq (.reg (tm 6 (.t 1) (tm 7 (.t 0) (tq 8 (.len (.t 7)) (tq 9 (.bin .sub (.t 6) (.t 8)) (tm 1 (.t 9) .done))))))
 (.seq (.seq (.reg (tm 10 (.t 1) (tq 11 (.bin .lss (.t 10) (.c (.int .i64 0))) .done)))
 (.cond (.t 11) (.seq (.reg (tq 4 (.mov (.c (.int .i64 (-1)))) .done))
 .ret)
 .skip))
 (.seq (.seq (.reg (tm 5 (.c (.int .i64 0)) .done))
 (.block 0 (.loop (.seq (.seq (.reg (tm 12 (.t 5) (tm 13 (.t 0) (tq 14 (.len (.t 13)) (tq 15 (.bin .lss (.t 12) (.t 14)) .done)))))
 (.cond (.t 15) .skip
 (.exit 0)))
 (.seq (.block 1 (.seq (.reg (tm 18 (.t 1) (tm 19 (.t 0) (tm 20 (.t 5) (tq 21 (.iaddr 1 (.t 19) (.t 20)) (tq 22 (.load 1 false (.t 21)) (tq 23 (.lenS (.t 22)) (tq 24 (.bin .sub (.t 18) (.t 23)) (tm 1 (.t 24) .done)))))))))
 (.seq (.reg (tm 25 (.t 1) (tq 26 (.bin .lss (.t 25) (.c (.int .i64 0))) .done)))
 (.cond (.t 26) (.seq (.reg (tq 4 (.mov (.c (.int .i64 (-1)))) .done))
 .ret)
 .skip))))
 (.reg (tm 16 (.t 5) (tq 17 (.bin .add (.t 16) (.c (.int .i64 1))) (tm 5 (.t 17) .done)))))))))
 (.cut (.seq (.reg (tm 27 (.t 1) (tm 4 (.t 27) .done)))
 .ret))))))
theorem fc32:fcomp Tryz.prog Tryz.f32 = some (c32.erase,[.mov (.t 4)],28):=by kernel_rfl
def laws_szStringS_L1 :List Str → Int → Option (Fl Int Int)
  | [],left_19 =>
    some (.go left_19)
  | x_36 :: xs,left_19 =>
    if (decide (w64 (left_19 - (x_36.length:Int)) < 0)) then
    some (.ret (-1))
    else
    laws_szStringS_L1 xs (w64 (left_19 - (x_36.length:Int))) 

def laws_szStringS (a_1:(List Str)) (left_2:Int):Option Int :=
    if (decide (w64 (left_2 - (a_1.length:Int)) < 0)) then
    some (-1)
    else
    (laws_szStringS_L1 a_1 (w64 (left_2 - (a_1.length:Int)))).bind fun q => (match q with
    | .ret r => some r
    | .go left_28 =>
    some left_28)
theorem w_laws_szStringS (a_1:(List Str)) (left_2:Int) (r:Int) (hf:laws_szStringS a_1 left_2 = some r):CallOK Tryz.prog 32 .flat [(.lst 1 (a_1.map AV.str)),(.int .i64 left_2)] (.int .i64 r):=by
 refine CallOK.of_awp mixed Tryz.func32 fc32 nle ?_;rw [argT_eq];unfold laws_szStringS at hf;unfold c32;refine (show awp Tryz.prog false 0 _ (ofL [(0,(.lst 1 (a_1.map AV.str))),(1,(.int .i64 left_2))]) [] _ from ?_);refine sr<|s_mov (.int .i64 0) rfl<|dk<|sr<|s_mov (.int .i64 left_2) rfl<|s_mov (.lst 1 (a_1.map AV.str)) rfl<|s_dof (o_len (enc:=AV.str) rfl) fun hl3 => s_q (.int .i64 (w64 (left_2 - (a_1.length:Int)))) rfl rfl rfl<|s_mov (.int .i64 (w64 (left_2 - (a_1.length:Int)))) rfl<|dk<|awp_seq<|sr<|s_mov (.int .i64 (w64 (left_2 - (a_1.length:Int)))) rfl<|s_q (.bool (decide (w64 (left_2 - (a_1.length:Int)) < 0))) rfl rfl rfl<|?_
 refine dk<|?_
 rcases oi hf with ⟨c4,hf⟩ | ⟨c4,hf⟩
 ·refine w_condt rfl c4<|sr<|s_mov (.int .i64 (-1)) rfl<|dk<|w_ret<|?_;obtain rfl:=os hf;exact r_flat ⟨trivial,trivial⟩ rfl (.refl _)
 ·refine w_condf rfl (bf c4)<|w_skip<|k_seq<|awp_seq<|sr<|s_mov (.int .i64 0) rfl<|dk<|?_
  obtain ⟨p29,hb1,hf⟩:=ob hf
  refine awp_cutx (X:={q:Int // p29 = .go q}) (fun q => ([(1,(.int .i64 q.1))],[])) ?_ ?_
  ·refine awp_loop (X:={q:(Int × Nat) // laws_szStringS_L1 (a_1.drop q.2) q.1 = some p29}) (fun q => ([(0,(.lst 1 (a_1.map AV.str))),(1,(.int .i64 q.1.1)),(5,(.int .i64 (q.1.2:Int)))],[])) (fun q => a_1.length - q.1.2) ⟨(w64 (left_2 - (a_1.length:Int)),0),hb1⟩ ⟨[],[],_,_,rfl,rfl,⟨.refl _,⟨.refl _,⟨.refl _,trivial⟩⟩⟩,(.refl _)⟩ ?_
   rintro ⟨⟨left_19,i_20⟩,hc1⟩
   have hc1:laws_szStringS_L1 (a_1.drop i_20) left_19 = some p29:=hc1
   refine (show awp Tryz.prog false 0 _ (ofL [(0,(.lst 1 (a_1.map AV.str))),(1,(.int .i64 left_19)),(5,(.int .i64 (i_20:Int)))]) [] _ from ?_)
   rcases dropc a_1 i_20 with ⟨hie32,hd35⟩ | ⟨hlt30,x_36,hx31,hd35⟩
   ·rw [hd35,laws_szStringS_L1.eq_1] at hc1
    have hq34:=dlf hie32
    refine awp_seq<|sr<|s_mov (.int .i64 (i_20:Int)) rfl<|s_mov (.lst 1 (a_1.map AV.str)) rfl<|s_dof (o_len (enc:=AV.str) rfl) fun hl37 => s_q (.bool (decide ((i_20:Int) < (a_1.length:Int)))) rfl rfl rfl<|dk<|w_condf rfl hq34<|w_exit<|k_seqx<|k_loopx<|k_blkx<|?_;obtain rfl:=os hc1;exact k_cutn ⟨_,rfl⟩ ⟨[],[],_,_,rfl,rfl,⟨.refl _,trivial⟩,(.refl _)⟩
   ·rw [hd35,laws_szStringS_L1.eq_2] at hc1
    have hq34:=dlt hlt30
    refine awp_seq<|sr<|s_mov (.int .i64 (i_20:Int)) rfl<|s_mov (.lst 1 (a_1.map AV.str)) rfl<|s_dof (o_len (enc:=AV.str) rfl) fun hl38 => s_q (.bool (decide ((i_20:Int) < (a_1.length:Int)))) rfl rfl rfl<|dk<|w_condt rfl hq34<|w_skip<|k_seq<|awp_seq<|w_blk<|sr<|s_mov (.int .i64 left_19) rfl<|s_mov (.lst 1 (a_1.map AV.str)) rfl<|s_mov (.int .i64 (i_20:Int)) rfl<|s_do (o_iaddrn (enc:=AV.str) rfl rfl hx31)<|s_q (.str x_36) rfl ⟨rfl,rfl⟩ rfl<|s_dof (o_lenS rfl) fun hl39 => s_q (.int .i64 (w64 (left_19 - (x_36.length:Int)))) rfl rfl rfl<|s_mov (.int .i64 (w64 (left_19 - (x_36.length:Int)))) rfl<|dk<|?_
    refine sr<|s_mov (.int .i64 (w64 (left_19 - (x_36.length:Int)))) rfl<|s_q (.bool (decide (w64 (left_19 - (x_36.length:Int)) < 0))) rfl rfl rfl<|dk<|?_
    rcases oi hc1 with ⟨c40,hc1⟩ | ⟨c40,hc1⟩
    ·refine w_condt rfl c40<|sr<|s_mov (.int .i64 (-1)) rfl<|dk<|w_ret<|?_;obtain rfl:=os hc1;obtain rfl:=os hf;exact r_flat ⟨trivial,trivial⟩ rfl (.refl _)
    ·refine w_condf rfl (bf c40)<|w_skip<|k_blk<|k_seq<|w_reg<|s_mov (.int .i64 (i_20:Int)) rfl<|s_q (.int .i64 (w64 ((i_20:Int) + 1))) rfl rfl rfl<|s_mov (.int .i64 (w64 ((i_20:Int) + 1))) rfl<|w_done<|?_;exact k_loopn ⟨(w64 (left_19 - (x_36.length:Int)),(i_20 + 1)),hc1⟩ (mul hlt30) ⟨[],[],_,_,rfl,rfl,⟨.refl _,⟨.refl _,⟨.of_eq (congrArg (AV.int _) (w64_incr hlt30 hl38)),trivial⟩⟩⟩,(.refl _)⟩
  ·rintro ⟨left_28,rfl⟩
   refine sr<|s_mov (.int .i64 left_28) rfl<|s_mov (.int .i64 left_28) rfl<|dk<|w_ret<|?_;obtain rfl:=os hf;exact r_flat ⟨trivial,trivial⟩ rfl (.refl _)

/- laws.szSet -/
def c67:ACode :=
 (.seq (.reg (tq 2 (.box 3 (.t 0)) (tm 4 (.c (.int .i64 0)) .done)))
 (.seq (.reg (tm 5 (.t 1) (tq 6 (.faddr 0 (.t 2)) (tq 7 (.load 1 false (.t 6)) (tq 8 (.lenS (.t 7)) (tq 9 (.bin .sub (.t 5) (.t 8)) (tm 1 (.t 9) .done)))))))
 (.seq (.seq (.reg (tm 10 (.t 1) (tq 11 (.bin .lss (.t 10) (.c (.int .i64 0))) .done)))
 (.cond (.t 11) (.seq (.reg (tq 4 (.mov (.c (.int .i64 (-1)))) .done))
 .ret)
 .skip))
 (.seq (.reg (tq 12 (.faddr 1 (.t 2)) (tq 13 (.load 1 false (.t 12)) (tm 14 (.t 1) (tq 15 (.call 122 [(.t 13),(.t 14)]) (tm 1 (.t 15) .done))))))
 (.seq (.seq (.reg (tm 16 (.t 1) (tq 17 (.bin .lss (.t 16) (.c (.int .i64 0))) .done)))
 (.cond (.t 17) (.seq (.reg (tq 4 (.mov (.c (.int .i64 (-1)))) .done))
 .ret)
 .skip))
 (.seq (.reg (tq 18 (.faddr 2 (.t 2)) (tq 19 (.load 1 false (.t 18)) (tm 20 (.t 1) (tq 21 (.call 32 [(.t 19),(.t 20)]) (tm 1 (.t 21) .done))))))
 (.seq (.seq (.reg (tm 22 (.t 1) (tq 23 (.bin .lss (.t 22) (.c (.int .i64 0))) .done)))
 (.cond (.t 23) (.seq (.reg (tq 4 (.mov (.c (.int .i64 (-1)))) .done))
 .ret)
 .skip))
 (.seq (.reg (tm 24 (.t 1) (tm 4 (.t 24) .done)))
 .ret))))))))
theorem fc67:fcomp Tryz.prog Tryz.f67 = some (c67.erase,[.mov (.t 4)],25):=by kernel_rfl
def laws_szSet (a_1:GSet) (left_2:Int):Option Int :=
    if (decide (w64 (left_2 - (a_1.Column.length:Int)) < 0)) then
    some (-1)
    else
    (laws_szAtomS a_1.Value (w64 (left_2 - (a_1.Column.length:Int)))).bind fun r_5 =>
    if (decide (r_5 < 0)) then
    some (-1)
    else
    (laws_szStringS a_1.Names r_5).bind fun r_8 =>
    if (decide (r_8 < 0)) then
    some (-1)
    else
    some r_8
theorem w_laws_szSet (a_1:GSet) (left_2:Int) (r:Int) (hf:laws_szSet a_1 left_2 = some r):CallOK Tryz.prog 67 .flat [(encGSet a_1),(.int .i64 left_2)] (.int .i64 r):=by
 refine CallOK.of_awp mixed Tryz.func67 fc67 nle ?_;rw [argT_eq];unfold laws_szSet at hf;unfold c67;refine (show awp Tryz.prog false 0 _ (ofL [(0,(encGSet a_1)),(1,(.int .i64 left_2))]) [] _ from ?_);refine sr<|s_do (o_box (j:=0) (c:=(.agg [(.str a_1.Column),(.lst 3 (a_1.Value.map encGAtom)),(.lst 1 (a_1.Names.map AV.str))])) rfl trivial rfl rfl)<|s_mov (.int .i64 0) rfl<|dk<|sr<|s_mov (.int .i64 left_2) rfl<|s_q (.ptr 0 0 0) rfl trivial rfl<|s_q (.str a_1.Column) rfl nle rfl<|s_dof (o_lenS rfl) fun hl3 => s_q (.int .i64 (w64 (left_2 - (a_1.Column.length:Int)))) rfl rfl rfl<|s_mov (.int .i64 (w64 (left_2 - (a_1.Column.length:Int)))) rfl<|w_done<|?_
 refine k_seq<|awp_seq<|sr<|s_mov (.int .i64 (w64 (left_2 - (a_1.Column.length:Int)))) rfl<|s_q (.bool (decide (w64 (left_2 - (a_1.Column.length:Int)) < 0))) rfl rfl rfl<|dk<|?_
 rcases oi hf with ⟨c4,hf⟩ | ⟨c4,hf⟩
 ·refine w_condt rfl c4<|sr<|s_mov (.int .i64 (-1)) rfl<|dk<|w_ret<|?_;obtain rfl:=os hf;exact r_flat ⟨trivial,trivial⟩ rfl (.refl _)
 ·refine w_condf rfl (bf c4)<|w_skip<|k_seq<|sr<|?_
  obtain ⟨r_5,er6,hf⟩:=ob hf
  refine s_q (.ptr 0 0 1) rfl trivial rfl<|s_q (.lst 3 (a_1.Value.map encGAtom)) rfl nle rfl<|s_mov (.int .i64 (w64 (left_2 - (a_1.Column.length:Int)))) rfl<|s_do (o_call (w_laws_szAtomS _ _ _ er6) rfl (.refl _) rfl)<|s_mov (.int .i64 r_5) rfl<|dk<|awp_seq<|sr<|s_mov (.int .i64 r_5) rfl<|s_q (.bool (decide (r_5 < 0))) rfl rfl rfl<|dk<|?_
  rcases oi hf with ⟨c7,hf⟩ | ⟨c7,hf⟩
  ·refine w_condt rfl c7<|sr<|s_mov (.int .i64 (-1)) rfl<|dk<|w_ret<|?_;obtain rfl:=os hf;exact r_flat ⟨trivial,trivial⟩ rfl (.refl _)
  ·refine w_condf rfl (bf c7)<|w_skip<|k_seq<|sr<|?_
   obtain ⟨r_8,er9,hf⟩:=ob hf
   refine s_q (.ptr 0 0 2) rfl trivial rfl<|s_q (.lst 1 (a_1.Names.map AV.str)) rfl nle rfl<|s_mov (.int .i64 r_5) rfl<|s_do (o_call (w_laws_szStringS _ _ _ er9) rfl (.refl _) rfl)<|s_mov (.int .i64 r_8) rfl<|dk<|awp_seq<|sr<|s_mov (.int .i64 r_8) rfl<|s_q (.bool (decide (r_8 < 0))) rfl rfl rfl<|dk<|?_
   rcases oi hf with ⟨c10,hf⟩ | ⟨c10,hf⟩
   ·refine w_condt rfl c10<|sr<|s_mov (.int .i64 (-1)) rfl<|dk<|w_ret<|?_;obtain rfl:=os hf;exact r_flat ⟨trivial,trivial⟩ rfl (.refl _)
   ·refine w_condf rfl (bf c10)<|w_skip<|k_seq<|sr<|s_mov (.int .i64 r_8) rfl<|s_mov (.int .i64 r_8) rfl<|dk<|w_ret<|?_;obtain rfl:=os hf;exact r_flat ⟨trivial,trivial⟩ rfl (.refl _)

/- laws.szSetS -/
def c30:ACode :=
 (.seq (.reg (tm 4 (.c (.int .i64 0)) .done))
 (.seq (.reg (tm 6 (.t 1) (tm 7 (.t 0) (tq 8 (.len (.t 7)) (tq 9 (.bin .sub (.t 6) (.t 8)) (tm 1 (.t 9) .done))))))
 (.seq (.seq (.reg (tm 10 (.t 1) (tq 11 (.bin .lss (.t 10) (.c (.int .i64 0))) .done)))
 (.cond (.t 11) (.seq (.reg (tq 4 (.mov (.c (.int .i64 (-1)))) .done))
 .ret)
 .skip))
 (.seq (.seq (.reg (tm 5 (.c (.int .i64 0)) .done))
 (.block 0 (.loop (.seq (.seq (.reg (tm 12 (.t 5) (tm 13 (.t 0) (tq 14 (.len (.t 13)) (tq 15 (.bin .lss (.t 12) (.t 14)) .done)))))
 (.cond (.t 15) .skip
 (.exit 0)))
 (.seq (.block 1 (.seq (.reg (tm 18 (.t 0) (tm 19 (.t 5) (tq 20 (.iaddr 3 (.t 18) (.t 19)) (tq 21 (.load 3 true (.t 20)) (tm 22 (.t 1) (tq 23 (.call 67 [(.t 21),(.t 22)]) (tm 1 (.t 23) .done))))))))
 (.seq (.reg (tm 24 (.t 1) (tq 25 (.bin .lss (.t 24) (.c (.int .i64 0))) .done)))
 (.cond (.t 25) (.seq (.reg (tq 4 (.mov (.c (.int .i64 (-1)))) .done))
 .ret)
 .skip))))
 (.reg (tm 16 (.t 5) (tq 17 (.bin .add (.t 16) (.c (.int .i64 1))) (tm 5 (.t 17) .done)))))))))
 (.cut (.seq (.reg (tm 26 (.t 1) (tm 4 (.t 26) .done)))
 .ret))))))
theorem fc30:fcomp Tryz.prog Tryz.f30 = some (c30.erase,[.mov (.t 4)],27):=by kernel_rfl
def laws_szSetS_L1 :List GSet → Int → Option (Fl Int Int)
  | [],left_21 =>
    some (.go left_21)
  | x_39 :: xs,left_21 =>
    (laws_szSet x_39 left_21).bind fun r_42 =>
    if (decide (r_42 < 0)) then
    some (.ret (-1))
    else
    laws_szSetS_L1 xs r_42 

def laws_szSetS (a_1:(List GSet)) (left_2:Int):Option Int :=
    if (decide (w64 (left_2 - (a_1.length:Int)) < 0)) then
    some (-1)
    else
    (laws_szSetS_L1 a_1 (w64 (left_2 - (a_1.length:Int)))).bind fun q => (match q with
    | .ret r => some r
    | .go left_31 =>
    some left_31)
theorem w_laws_szSetS (a_1:(List GSet)) (left_2:Int) (r:Int) (hf:laws_szSetS a_1 left_2 = some r):CallOK Tryz.prog 30 .flat [(.lst 3 (a_1.map encGSet)),(.int .i64 left_2)] (.int .i64 r):=by
 refine CallOK.of_awp mixed Tryz.func30 fc30 nle ?_;rw [argT_eq];unfold laws_szSetS at hf;unfold c30;refine (show awp Tryz.prog false 0 _ (ofL [(0,(.lst 3 (a_1.map encGSet))),(1,(.int .i64 left_2))]) [] _ from ?_);refine sr<|s_mov (.int .i64 0) rfl<|dk<|sr<|s_mov (.int .i64 left_2) rfl<|s_mov (.lst 3 (a_1.map encGSet)) rfl<|s_dof (o_len (enc:=encGSet) rfl) fun hl3 => s_q (.int .i64 (w64 (left_2 - (a_1.length:Int)))) rfl rfl rfl<|s_mov (.int .i64 (w64 (left_2 - (a_1.length:Int)))) rfl<|dk<|awp_seq<|sr<|s_mov (.int .i64 (w64 (left_2 - (a_1.length:Int)))) rfl<|s_q (.bool (decide (w64 (left_2 - (a_1.length:Int)) < 0))) rfl rfl rfl<|?_
 refine dk<|?_
 rcases oi hf with ⟨c4,hf⟩ | ⟨c4,hf⟩
 ·refine w_condt rfl c4<|sr<|s_mov (.int .i64 (-1)) rfl<|dk<|w_ret<|?_;obtain rfl:=os hf;exact r_flat ⟨trivial,trivial⟩ rfl (.refl _)
 ·refine w_condf rfl (bf c4)<|w_skip<|k_seq<|awp_seq<|sr<|s_mov (.int .i64 0) rfl<|dk<|?_
  obtain ⟨p32,hb1,hf⟩:=ob hf
  refine awp_cutx (X:={q:Int // p32 = .go q}) (fun q => ([(1,(.int .i64 q.1))],[])) ?_ ?_
  ·refine awp_loop (X:={q:(Int × Nat) // laws_szSetS_L1 (a_1.drop q.2) q.1 = some p32}) (fun q => ([(0,(.lst 3 (a_1.map encGSet))),(1,(.int .i64 q.1.1)),(5,(.int .i64 (q.1.2:Int)))],[])) (fun q => a_1.length - q.1.2) ⟨(w64 (left_2 - (a_1.length:Int)),0),hb1⟩ ⟨[],[],_,_,rfl,rfl,⟨.refl _,⟨.refl _,⟨.refl _,trivial⟩⟩⟩,(.refl _)⟩ ?_
   rintro ⟨⟨left_21,i_22⟩,hc1⟩
   have hc1:laws_szSetS_L1 (a_1.drop i_22) left_21 = some p32:=hc1
   refine (show awp Tryz.prog false 0 _ (ofL [(0,(.lst 3 (a_1.map encGSet))),(1,(.int .i64 left_21)),(5,(.int .i64 (i_22:Int)))]) [] _ from ?_)
   rcases dropc a_1 i_22 with ⟨hie35,hd38⟩ | ⟨hlt33,x_39,hx34,hd38⟩
   ·rw [hd38,laws_szSetS_L1.eq_1] at hc1
    have hq37:=dlf hie35
    refine awp_seq<|sr<|s_mov (.int .i64 (i_22:Int)) rfl<|s_mov (.lst 3 (a_1.map encGSet)) rfl<|s_dof (o_len (enc:=encGSet) rfl) fun hl40 => s_q (.bool (decide ((i_22:Int) < (a_1.length:Int)))) rfl rfl rfl<|dk<|w_condf rfl hq37<|w_exit<|k_seqx<|k_loopx<|k_blkx<|?_;obtain rfl:=os hc1;exact k_cutn ⟨_,rfl⟩ ⟨[],[],_,_,rfl,rfl,⟨.refl _,trivial⟩,(.refl _)⟩
   ·rw [hd38,laws_szSetS_L1.eq_2] at hc1
    have hq37:=dlt hlt33
    refine awp_seq<|sr<|s_mov (.int .i64 (i_22:Int)) rfl<|s_mov (.lst 3 (a_1.map encGSet)) rfl<|s_dof (o_len (enc:=encGSet) rfl) fun hl41 => s_q (.bool (decide ((i_22:Int) < (a_1.length:Int)))) rfl rfl rfl<|dk<|w_condt rfl hq37<|w_skip<|k_seq<|awp_seq<|w_blk<|sr<|?_
    obtain ⟨r_42,er43,hc1⟩:=ob hc1
    refine s_mov (.lst 3 (a_1.map encGSet)) rfl<|s_mov (.int .i64 (i_22:Int)) rfl<|s_do (o_iaddrn (enc:=encGSet) rfl rfl hx34)<|s_q (encGSet x_39) rfl nle rfl<|s_mov (.int .i64 left_21) rfl<|s_do (o_call (w_laws_szSet _ _ _ er43) rfl (.refl _) rfl)<|s_mov (.int .i64 r_42) rfl<|dk<|sr<|s_mov (.int .i64 r_42) rfl<|s_q (.bool (decide (r_42 < 0))) rfl rfl rfl<|dk<|?_
    rcases oi hc1 with ⟨c44,hc1⟩ | ⟨c44,hc1⟩
    ·refine w_condt rfl c44<|sr<|s_mov (.int .i64 (-1)) rfl<|dk<|w_ret<|?_;obtain rfl:=os hc1;obtain rfl:=os hf;exact r_flat ⟨trivial,trivial⟩ rfl (.refl _)
    ·refine w_condf rfl (bf c44)<|w_skip<|k_blk<|k_seq<|w_reg<|s_mov (.int .i64 (i_22:Int)) rfl<|s_q (.int .i64 (w64 ((i_22:Int) + 1))) rfl rfl rfl<|s_mov (.int .i64 (w64 ((i_22:Int) + 1))) rfl<|w_done<|?_;exact k_loopn ⟨(r_42,(i_22 + 1)),hc1⟩ (mul hlt33) ⟨[],[],_,_,rfl,rfl,⟨.refl _,⟨.refl _,⟨.of_eq (congrArg (AV.int _) (w64_incr hlt33 hl41)),trivial⟩⟩⟩,(.refl _)⟩
  ·rintro ⟨left_31,rfl⟩
   refine sr<|s_mov (.int .i64 left_31) rfl<|s_mov (.int .i64 left_31) rfl<|dk<|w_ret<|?_;obtain rfl:=os hf;exact r_flat ⟨trivial,trivial⟩ rfl (.refl _)

/- laws.szMut -/
def c68:ACode :=
 (.seq (.reg (tq 2 (.box 3 (.t 0)) (tm 4 (.c (.int .i64 0)) .done)))
 (.seq (.reg (tm 5 (.t 1) (tq 6 (.faddr 0 (.t 2)) (tq 7 (.load 1 false (.t 6)) (tq 8 (.lenS (.t 7)) (tq 9 (.bin .sub (.t 5) (.t 8)) (tm 1 (.t 9) .done)))))))
 (.seq (.seq (.reg (tm 10 (.t 1) (tq 11 (.bin .lss (.t 10) (.c (.int .i64 0))) .done)))
 (.cond (.t 11) (.seq (.reg (tq 4 (.mov (.c (.int .i64 (-1)))) .done))
 .ret)
 .skip))
 (.seq (.reg (tq 12 (.faddr 2 (.t 2)) (tq 13 (.load 1 false (.t 12)) (tm 14 (.t 1) (tq 15 (.call 122 [(.t 13),(.t 14)]) (tm 1 (.t 15) .done))))))
 (.seq (.seq (.reg (tm 16 (.t 1) (tq 17 (.bin .lss (.t 16) (.c (.int .i64 0))) .done)))
 (.cond (.t 17) (.seq (.reg (tq 4 (.mov (.c (.int .i64 (-1)))) .done))
 .ret)
 .skip))
 (.seq (.reg (tm 18 (.t 1) (tm 4 (.t 18) .done)))
 .ret))))))
theorem fc68:fcomp Tryz.prog Tryz.f68 = some (c68.erase,[.mov (.t 4)],19):=by kernel_rfl
def laws_szMut (a_1:GMut) (left_2:Int):Option Int :=
    if (decide (w64 (left_2 - (a_1.Column.length:Int)) < 0)) then
    some (-1)
    else
    (laws_szAtomS a_1.Value (w64 (left_2 - (a_1.Column.length:Int)))).bind fun r_5 =>
    if (decide (r_5 < 0)) then
    some (-1)
    else
    some r_5
theorem w_laws_szMut (a_1:GMut) (left_2:Int) (r:Int) (hf:laws_szMut a_1 left_2 = some r):CallOK Tryz.prog 68 .flat [(encGMut a_1),(.int .i64 left_2)] (.int .i64 r):=by
 refine CallOK.of_awp mixed Tryz.func68 fc68 nle ?_;rw [argT_eq];unfold laws_szMut at hf;unfold c68;refine (show awp Tryz.prog false 0 _ (ofL [(0,(encGMut a_1)),(1,(.int .i64 left_2))]) [] _ from ?_);refine sr<|s_do (o_box (j:=0) (c:=(.agg [(.str a_1.Column),(.int .i64 a_1.Func),(.lst 3 (a_1.Value.map encGAtom))])) rfl trivial rfl rfl)<|s_mov (.int .i64 0) rfl<|dk<|sr<|s_mov (.int .i64 left_2) rfl<|s_q (.ptr 0 0 0) rfl trivial rfl<|s_q (.str a_1.Column) rfl nle rfl<|s_dof (o_lenS rfl) fun hl3 => s_q (.int .i64 (w64 (left_2 - (a_1.Column.length:Int)))) rfl rfl rfl<|s_mov (.int .i64 (w64 (left_2 - (a_1.Column.length:Int)))) rfl<|dk<|?_
 refine awp_seq<|sr<|s_mov (.int .i64 (w64 (left_2 - (a_1.Column.length:Int)))) rfl<|s_q (.bool (decide (w64 (left_2 - (a_1.Column.length:Int)) < 0))) rfl rfl rfl<|dk<|?_
 rcases oi hf with ⟨c4,hf⟩ | ⟨c4,hf⟩
 ·refine w_condt rfl c4<|sr<|s_mov (.int .i64 (-1)) rfl<|dk<|w_ret<|?_;obtain rfl:=os hf;exact r_flat ⟨trivial,trivial⟩ rfl (.refl _)
 ·refine w_condf rfl (bf c4)<|w_skip<|k_seq<|sr<|?_
  obtain ⟨r_5,er6,hf⟩:=ob hf
  refine s_q (.ptr 0 0 2) rfl trivial rfl<|s_q (.lst 3 (a_1.Value.map encGAtom)) rfl nle rfl<|s_mov (.int .i64 (w64 (left_2 - (a_1.Column.length:Int)))) rfl<|s_do (o_call (w_laws_szAtomS _ _ _ er6) rfl (.refl _) rfl)<|s_mov (.int .i64 r_5) rfl<|dk<|awp_seq<|sr<|s_mov (.int .i64 r_5) rfl<|s_q (.bool (decide (r_5 < 0))) rfl rfl rfl<|dk<|?_
  rcases oi hf with ⟨c7,hf⟩ | ⟨c7,hf⟩
  ·refine w_condt rfl c7<|sr<|s_mov (.int .i64 (-1)) rfl<|dk<|w_ret<|?_;obtain rfl:=os hf;exact r_flat ⟨trivial,trivial⟩ rfl (.refl _)
  ·refine w_condf rfl (bf c7)<|w_skip<|k_seq<|sr<|s_mov (.int .i64 r_5) rfl<|s_mov (.int .i64 r_5) rfl<|dk<|w_ret<|?_;obtain rfl:=os hf;exact r_flat ⟨trivial,trivial⟩ rfl (.refl _)

/- laws.szMutS -/
def c31:ACode :=
 (.seq (.reg (tm 4 (.c (.int .i64 0)) .done))
 (.seq (.reg (tm 6 (.t 1) (tm 7 (.t 0) (tq 8 (.len (.t 7)) (tq 9 (.bin .sub (.t 6) (.t 8)) (tm 1 (.t 9) .done))))))
 (.seq (.seq (.reg (tm 10 (.t 1) (tq 11 (.bin .lss (.t 10) (.c (.int .i64 0))) .done)))
 (.cond (.t 11) (.seq (.reg (tq 4 (.mov (.c (.int .i64 (-1)))) .done))
 .ret)
 .skip))
 (.seq (.seq (.reg (tm 5 (.c (.int .i64 0)) .done))
 (.block 0 (.loop (.seq (.seq (.reg (tm 12 (.t 5) (tm 13 (.t 0) (tq 14 (.len (.t 13)) (tq 15 (.bin .lss (.t 12) (.t 14)) .done)))))
 (.cond (.t 15) .skip
 (.exit 0)))
 (.seq (.block 1 (.seq (.reg (tm 18 (.t 0) (tm 19 (.t 5) (tq 20 (.iaddr 3 (.t 18) (.t 19)) (tq 21 (.load 3 true (.t 20)) (tm 22 (.t 1) (tq 23 (.call 68 [(.t 21),(.t 22)]) (tm 1 (.t 23) .done))))))))
 (.seq (.reg (tm 24 (.t 1) (tq 25 (.bin .lss (.t 24) (.c (.int .i64 0))) .done)))
 (.cond (.t 25) (.seq (.reg (tq 4 (.mov (.c (.int .i64 (-1)))) .done))
 .ret)
 .skip))))
 (.reg (tm 16 (.t 5) (tq 17 (.bin .add (.t 16) (.c (.int .i64 1))) (tm 5 (.t 17) .done)))))))))
 (.cut (.seq (.reg (tm 26 (.t 1) (tm 4 (.t 26) .done)))
 .ret))))))
theorem fc31:fcomp Tryz.prog Tryz.f31 = some (c31.erase,[.mov (.t 4)],27):=by kernel_rfl
def laws_szMutS_L1 :List GMut → Int → Option (Fl Int Int)
  | [],left_21 =>
    some (.go left_21)
  | x_39 :: xs,left_21 =>
    (laws_szMut x_39 left_21).bind fun r_42 =>
    if (decide (r_42 < 0)) then
    some (.ret (-1))
    else
    laws_szMutS_L1 xs r_42 

def laws_szMutS (a_1:(List GMut)) (left_2:Int):Option Int :=
    if (decide (w64 (left_2 - (a_1.length:Int)) < 0)) then
    some (-1)
    else
    (laws_szMutS_L1 a_1 (w64 (left_2 - (a_1.length:Int)))).bind fun q => (match q with
    | .ret r => some r
    | .go left_31 =>
    some left_31)
theorem w_laws_szMutS (a_1:(List GMut)) (left_2:Int) (r:Int) (hf:laws_szMutS a_1 left_2 = some r):CallOK Tryz.prog 31 .flat [(.lst 3 (a_1.map encGMut)),(.int .i64 left_2)] (.int .i64 r):=by
 refine CallOK.of_awp mixed Tryz.func31 fc31 nle ?_;rw [argT_eq];unfold laws_szMutS at hf;unfold c31;refine (show awp Tryz.prog false 0 _ (ofL [(0,(.lst 3 (a_1.map encGMut))),(1,(.int .i64 left_2))]) [] _ from ?_);refine sr<|s_mov (.int .i64 0) rfl<|dk<|sr<|s_mov (.int .i64 left_2) rfl<|s_mov (.lst 3 (a_1.map encGMut)) rfl<|s_dof (o_len (enc:=encGMut) rfl) fun hl3 => s_q (.int .i64 (w64 (left_2 - (a_1.length:Int)))) rfl rfl rfl<|s_mov (.int .i64 (w64 (left_2 - (a_1.length:Int)))) rfl<|dk<|awp_seq<|sr<|s_mov (.int .i64 (w64 (left_2 - (a_1.length:Int)))) rfl<|s_q (.bool (decide (w64 (left_2 - (a_1.length:Int)) < 0))) rfl rfl rfl<|?_
 refine dk<|?_
 rcases oi hf with ⟨c4,hf⟩ | ⟨c4,hf⟩
 ·refine w_condt rfl c4<|sr<|s_mov (.int .i64 (-1)) rfl<|dk<|w_ret<|?_;obtain rfl:=os hf;exact r_flat ⟨trivial,trivial⟩ rfl (.refl _)
 ·refine w_condf rfl (bf c4)<|w_skip<|k_seq<|awp_seq<|sr<|s_mov (.int .i64 0) rfl<|dk<|?_
  obtain ⟨p32,hb1,hf⟩:=ob hf
  refine awp_cutx (X:={q:Int // p32 = .go q}) (fun q => ([(1,(.int .i64 q.1))],[])) ?_ ?_
  ·refine awp_loop (X:={q:(Int × Nat) // laws_szMutS_L1 (a_1.drop q.2) q.1 = some p32}) (fun q => ([(0,(.lst 3 (a_1.map encGMut))),(1,(.int .i64 q.1.1)),(5,(.int .i64 (q.1.2:Int)))],[])) (fun q => a_1.length - q.1.2) ⟨(w64 (left_2 - (a_1.length:Int)),0),hb1⟩ ⟨[],[],_,_,rfl,rfl,⟨.refl _,⟨.refl _,⟨.refl _,trivial⟩⟩⟩,(.refl _)⟩ ?_
   rintro ⟨⟨left_21,i_22⟩,hc1⟩
   have hc1:laws_szMutS_L1 (a_1.drop i_22) left_21 = some p32:=hc1
   refine (show awp Tryz.prog false 0 _ (ofL [(0,(.lst 3 (a_1.map encGMut))),(1,(.int .i64 left_21)),(5,(.int .i64 (i_22:Int)))]) [] _ from ?_)
   rcases dropc a_1 i_22 with ⟨hie35,hd38⟩ | ⟨hlt33,x_39,hx34,hd38⟩
   ·rw [hd38,laws_szMutS_L1.eq_1] at hc1
    have hq37:=dlf hie35
    refine awp_seq<|sr<|s_mov (.int .i64 (i_22:Int)) rfl<|s_mov (.lst 3 (a_1.map encGMut)) rfl<|s_dof (o_len (enc:=encGMut) rfl) fun hl40 => s_q (.bool (decide ((i_22:Int) < (a_1.length:Int)))) rfl rfl rfl<|dk<|w_condf rfl hq37<|w_exit<|k_seqx<|k_loopx<|k_blkx<|?_;obtain rfl:=os hc1;exact k_cutn ⟨_,rfl⟩ ⟨[],[],_,_,rfl,rfl,⟨.refl _,trivial⟩,(.refl _)⟩
   ·rw [hd38,laws_szMutS_L1.eq_2] at hc1
    have hq37:=dlt hlt33
    refine awp_seq<|sr<|s_mov (.int .i64 (i_22:Int)) rfl<|s_mov (.lst 3 (a_1.map encGMut)) rfl<|s_dof (o_len (enc:=encGMut) rfl) fun hl41 => s_q (.bool (decide ((i_22:Int) < (a_1.length:Int)))) rfl rfl rfl<|dk<|w_condt rfl hq37<|w_skip<|k_seq<|awp_seq<|w_blk<|sr<|?_
    obtain ⟨r_42,er43,hc1⟩:=ob hc1
    refine s_mov (.lst 3 (a_1.map encGMut)) rfl<|s_mov (.int .i64 (i_22:Int)) rfl<|s_do (o_iaddrn (enc:=encGMut) rfl rfl hx34)<|s_q (encGMut x_39) rfl nle rfl<|s_mov (.int .i64 left_21) rfl<|s_do (o_call (w_laws_szMut _ _ _ er43) rfl (.refl _) rfl)<|s_mov (.int .i64 r_42) rfl<|dk<|sr<|s_mov (.int .i64 r_42) rfl<|s_q (.bool (decide (r_42 < 0))) rfl rfl rfl<|dk<|?_
    rcases oi hc1 with ⟨c44,hc1⟩ | ⟨c44,hc1⟩
    ·refine w_condt rfl c44<|sr<|s_mov (.int .i64 (-1)) rfl<|dk<|w_ret<|?_;obtain rfl:=os hc1;obtain rfl:=os hf;exact r_flat ⟨trivial,trivial⟩ rfl (.refl _)
    ·refine w_condf rfl (bf c44)<|w_skip<|k_blk<|k_seq<|w_reg<|s_mov (.int .i64 (i_22:Int)) rfl<|s_q (.int .i64 (w64 ((i_22:Int) + 1))) rfl rfl rfl<|s_mov (.int .i64 (w64 ((i_22:Int) + 1))) rfl<|w_done<|?_;exact k_loopn ⟨(r_42,(i_22 + 1)),hc1⟩ (mul hlt33) ⟨[],[],_,_,rfl,rfl,⟨.refl _,⟨.refl _,⟨.of_eq (congrArg (AV.int _) (w64_incr hlt33 hl41)),trivial⟩⟩⟩,(.refl _)⟩
  ·rintro ⟨left_31,rfl⟩
   refine sr<|s_mov (.int .i64 left_31) rfl<|s_mov (.int .i64 left_31) rfl<|dk<|w_ret<|?_;obtain rfl:=os hf;exact r_flat ⟨trivial,trivial⟩ rfl (.refl _)

/- laws.szOp -/
def c13:ACode :=
 (.seq (.reg (tq 2 (.box 8 (.t 0)) (tm 4 (.c (.int .i64 0)) .done)))
 (.seq (.reg (tm 5 (.t 1) (tq 6 (.faddr 1 (.t 2)) (tq 7 (.load 1 false (.t 6)) (tq 8 (.lenS (.t 7)) (tq 9 (.bin .sub (.t 5) (.t 8)) (tm 1 (.t 9) .done)))))))
 (.seq (.seq (.reg (tm 10 (.t 1) (tq 11 (.bin .lss (.t 10) (.c (.int .i64 0))) .done)))
 (.cond (.t 11) (.seq (.reg (tq 4 (.mov (.c (.int .i64 (-1)))) .done))
 .ret)
 .skip))
 (.seq (.reg (tm 12 (.t 1) (tq 13 (.faddr 2 (.t 2)) (tq 14 (.load 1 false (.t 13)) (tq 15 (.lenS (.t 14)) (tq 16 (.bin .sub (.t 12) (.t 15)) (tm 1 (.t 16) .done)))))))
 (.seq (.seq (.reg (tm 17 (.t 1) (tq 18 (.bin .lss (.t 17) (.c (.int .i64 0))) .done)))
 (.cond (.t 18) (.seq (.reg (tq 4 (.mov (.c (.int .i64 (-1)))) .done))
 .ret)
 .skip))
 (.seq (.reg (tq 19 (.faddr 3 (.t 2)) (tq 20 (.load 1 false (.t 19)) (tm 21 (.t 1) (tq 22 (.call 29 [(.t 20),(.t 21)]) (tm 1 (.t 22) .done))))))
 (.seq (.seq (.reg (tm 23 (.t 1) (tq 24 (.bin .lss (.t 23) (.c (.int .i64 0))) .done)))
 (.cond (.t 24) (.seq (.reg (tq 4 (.mov (.c (.int .i64 (-1)))) .done))
 .ret)
 .skip))
 (.seq (.reg (tq 25 (.faddr 4 (.t 2)) (tq 26 (.load 1 false (.t 25)) (tm 27 (.t 1) (tq 28 (.call 30 [(.t 26),(.t 27)]) (tm 1 (.t 28) .done))))))
 (.seq (.seq (.reg (tm 29 (.t 1) (tq 30 (.bin .lss (.t 29) (.c (.int .i64 0))) .done)))
 (.cond (.t 30) (.seq (.reg (tq 4 (.mov (.c (.int .i64 (-1)))) .done))
 .ret)
 .skip))
 (.seq (.reg (tq 31 (.faddr 5 (.t 2)) (tq 32 (.load 1 false (.t 31)) (tm 33 (.t 1) (tq 34 (.call 31 [(.t 32),(.t 33)]) (tm 1 (.t 34) .done))))))
 (.seq (.seq (.reg (tm 35 (.t 1) (tq 36 (.bin .lss (.t 35) (.c (.int .i64 0))) .done)))
 (.cond (.t 36) (.seq (.reg (tq 4 (.mov (.c (.int .i64 (-1)))) .done))
 .ret)
 .skip))
 (.seq (.reg (tq 37 (.faddr 6 (.t 2)) (tq 38 (.load 1 false (.t 37)) (tm 39 (.t 1) (tq 40 (.call 32 [(.t 38),(.t 39)]) (tm 1 (.t 40) .done))))))
 (.seq (.seq (.reg (tm 41 (.t 1) (tq 42 (.bin .lss (.t 41) (.c (.int .i64 0))) .done)))
 (.cond (.t 42) (.seq (.reg (tq 4 (.mov (.c (.int .i64 (-1)))) .done))
 .ret)
 .skip))
 (.seq (.reg (tm 43 (.t 1) (tm 4 (.t 43) .done)))
 .ret))))))))))))))
theorem fc13:fcomp Tryz.prog Tryz.f13 = some (c13.erase,[.mov (.t 4)],44):=by kernel_rfl
def laws_szOp (a_1:GOp) (left_2:Int):Option Int :=
    if (decide (w64 (left_2 - (a_1.Table.length:Int)) < 0)) then
    some (-1)
    else
    if (decide (w64 ((w64 (left_2 - (a_1.Table.length:Int))) - (a_1.Name.length:Int)) < 0)) then
    some (-1)
    else
    (laws_szCondS a_1.Where (w64 ((w64 (left_2 - (a_1.Table.length:Int))) - (a_1.Name.length:Int)))).bind fun r_7 =>
    if (decide (r_7 < 0)) then
    some (-1)
    else
    (laws_szSetS a_1.Row r_7).bind fun r_10 =>
    if (decide (r_10 < 0)) then
    some (-1)
    else
    (laws_szMutS a_1.Muts r_10).bind fun r_13 =>
    if (decide (r_13 < 0)) then
    some (-1)
    else
    (laws_szStringS a_1.Columns r_13).bind fun r_16 =>
    if (decide (r_16 < 0)) then
    some (-1)
    else
    some r_16
theorem w_laws_szOp (a_1:GOp) (left_2:Int) (r:Int) (hf:laws_szOp a_1 left_2 = some r):CallOK Tryz.prog 13 .flat [(encGOp a_1),(.int .i64 left_2)] (.int .i64 r):=by
 refine CallOK.of_awp mixed Tryz.func13 fc13 nle ?_;rw [argT_eq];unfold laws_szOp at hf;unfold c13;refine (show awp Tryz.prog false 0 _ (ofL [(0,(encGOp a_1)),(1,(.int .i64 left_2))]) [] _ from ?_);refine sr<|s_do (o_box (j:=0) (c:=(.agg [(.int .i64 a_1.Kind),(.str a_1.Table),(.str a_1.Name),(.lst 3 (a_1.Where.map encGCond)),(.lst 3 (a_1.Row.map encGSet)),(.lst 3 (a_1.Muts.map encGMut)),(.lst 1 (a_1.Columns.map AV.str)),(.bool a_1.Until)])) rfl trivial rfl rfl)<|s_mov (.int .i64 0) rfl<|dk<|sr<|s_mov (.int .i64 left_2) rfl<|s_q (.ptr 0 0 1) rfl trivial rfl<|s_q (.str a_1.Table) rfl nle rfl<|s_dof (o_lenS rfl) fun hl3 => s_q (.int .i64 (w64 (left_2 - (a_1.Table.length:Int)))) rfl rfl rfl<|?_
 refine s_mov (.int .i64 (w64 (left_2 - (a_1.Table.length:Int)))) rfl<|dk<|awp_seq<|sr<|s_mov (.int .i64 (w64 (left_2 - (a_1.Table.length:Int)))) rfl<|s_q (.bool (decide (w64 (left_2 - (a_1.Table.length:Int)) < 0))) rfl rfl rfl<|dk<|?_
 rcases oi hf with ⟨c4,hf⟩ | ⟨c4,hf⟩
 ·refine w_condt rfl c4<|sr<|s_mov (.int .i64 (-1)) rfl<|dk<|w_ret<|?_;obtain rfl:=os hf;exact r_flat ⟨trivial,trivial⟩ rfl (.refl _)
 ·refine w_condf rfl (bf c4)<|w_skip<|k_seq<|sr<|s_mov (.int .i64 (w64 (left_2 - (a_1.Table.length:Int)))) rfl<|s_q (.ptr 0 0 2) rfl trivial rfl<|s_q (.str a_1.Name) rfl nle rfl<|s_dof (o_lenS rfl) fun hl5 => s_q (.int .i64 (w64 ((w64 (left_2 - (a_1.Table.length:Int))) - (a_1.Name.length:Int)))) rfl rfl rfl<|s_mov (.int .i64 (w64 ((w64 (left_2 - (a_1.Table.length:Int))) - (a_1.Name.length:Int)))) rfl<|dk<|awp_seq<|sr<|s_mov (.int .i64 (w64 ((w64 (left_2 - (a_1.Table.length:Int))) - (a_1.Name.length:Int)))) rfl<|s_q (.bool (decide (w64 ((w64 (left_2 - (a_1.Table.length:Int))) - (a_1.Name.length:Int)) < 0))) rfl rfl rfl<|?_
  refine dk<|?_
  rcases oi hf with ⟨c6,hf⟩ | ⟨c6,hf⟩
  ·refine w_condt rfl c6<|sr<|s_mov (.int .i64 (-1)) rfl<|dk<|w_ret<|?_;obtain rfl:=os hf;exact r_flat ⟨trivial,trivial⟩ rfl (.refl _)
  ·refine w_condf rfl (bf c6)<|w_skip<|k_seq<|sr<|?_
   obtain ⟨r_7,er8,hf⟩:=ob hf
   refine s_q (.ptr 0 0 3) rfl trivial rfl<|s_q (.lst 3 (a_1.Where.map encGCond)) rfl nle rfl<|s_mov (.int .i64 (w64 ((w64 (left_2 - (a_1.Table.length:Int))) - (a_1.Name.length:Int)))) rfl<|s_do (o_call (w_laws_szCondS _ _ _ er8) rfl (.refl _) rfl)<|s_mov (.int .i64 r_7) rfl<|dk<|awp_seq<|sr<|s_mov (.int .i64 r_7) rfl<|s_q (.bool (decide (r_7 < 0))) rfl rfl rfl<|dk<|?_
   rcases oi hf with ⟨c9,hf⟩ | ⟨c9,hf⟩
   ·refine w_condt rfl c9<|sr<|s_mov (.int .i64 (-1)) rfl<|dk<|w_ret<|?_;obtain rfl:=os hf;exact r_flat ⟨trivial,trivial⟩ rfl (.refl _)
   ·refine w_condf rfl (bf c9)<|w_skip<|k_seq<|sr<|?_
    obtain ⟨r_10,er11,hf⟩:=ob hf
    refine s_q (.ptr 0 0 4) rfl trivial rfl<|s_q (.lst 3 (a_1.Row.map encGSet)) rfl nle rfl<|s_mov (.int .i64 r_7) rfl<|s_do (o_call (w_laws_szSetS _ _ _ er11) rfl (.refl _) rfl)<|s_mov (.int .i64 r_10) rfl<|dk<|awp_seq<|sr<|s_mov (.int .i64 r_10) rfl<|s_q (.bool (decide (r_10 < 0))) rfl rfl rfl<|dk<|?_
    rcases oi hf with ⟨c12,hf⟩ | ⟨c12,hf⟩
    ·refine w_condt rfl c12<|sr<|s_mov (.int .i64 (-1)) rfl<|dk<|w_ret<|?_;obtain rfl:=os hf;exact r_flat ⟨trivial,trivial⟩ rfl (.refl _)
    ·refine w_condf rfl (bf c12)<|w_skip<|k_seq<|sr<|?_
     obtain ⟨r_13,er14,hf⟩:=ob hf
     refine s_q (.ptr 0 0 5) rfl trivial rfl<|s_q (.lst 3 (a_1.Muts.map encGMut)) rfl nle rfl<|s_mov (.int .i64 r_10) rfl<|s_do (o_call (w_laws_szMutS _ _ _ er14) rfl (.refl _) rfl)<|s_mov (.int .i64 r_13) rfl<|dk<|awp_seq<|sr<|s_mov (.int .i64 r_13) rfl<|s_q (.bool (decide (r_13 < 0))) rfl rfl rfl<|dk<|?_
     rcases oi hf with ⟨c15,hf⟩ | ⟨c15,hf⟩
     ·refine w_condt rfl c15<|sr<|s_mov (.int .i64 (-1)) rfl<|dk<|w_ret<|?_;obtain rfl:=os hf;exact r_flat ⟨trivial,trivial⟩ rfl (.refl _)
     ·refine w_condf rfl (bf c15)<|w_skip<|k_seq<|sr<|?_
      obtain ⟨r_16,er17,hf⟩:=ob hf
      refine s_q (.ptr 0 0 6) rfl trivial rfl<|s_q (.lst 1 (a_1.Columns.map AV.str)) rfl nle rfl<|s_mov (.int .i64 r_13) rfl<|s_do (o_call (w_laws_szStringS _ _ _ er17) rfl (.refl _) rfl)<|s_mov (.int .i64 r_16) rfl<|dk<|awp_seq<|sr<|s_mov (.int .i64 r_16) rfl<|s_q (.bool (decide (r_16 < 0))) rfl rfl rfl<|dk<|?_
      rcases oi hf with ⟨c18,hf⟩ | ⟨c18,hf⟩
      ·refine w_condt rfl c18<|sr<|s_mov (.int .i64 (-1)) rfl<|dk<|w_ret<|?_;obtain rfl:=os hf;exact r_flat ⟨trivial,trivial⟩ rfl (.refl _)
      ·refine w_condf rfl (bf c18)<|w_skip<|k_seq<|sr<|s_mov (.int .i64 r_16) rfl<|s_mov (.int .i64 r_16) rfl<|dk<|w_ret<|?_;obtain rfl:=os hf;exact r_flat ⟨trivial,trivial⟩ rfl (.refl _)

/- laws.toColumn -/
def c156:ACode :=
 (.seq (.reg (tq 1 (.box 8 (.t 0)) (tq 2 (.box 8 (.c (.agg [(.str []),(.int .i64 0),(.int .i64 0),(.int .i64 0),(.int .i64 0),(.int .i64 0),(.str []),(.bool false)]))) .done)))
 (.seq (.reg (tq 3 (.box 8 (.c (.agg [(.str []),(.int .i64 0),(.int .i64 0),(.int .i64 0),(.int .i64 0),(.int .i64 0),(.str []),(.bool false)]))) .done))
 (.seq (.reg (tq 4 (.faddr 0 (.t 1)) (tq 5 (.load 1 false (.t 4)) (tq 6 (.faddr 0 (.t 3)) (.q ⟨none,none,.store 1 (.t 6) (.t 5)⟩
 .done)))))
 (.seq (.reg (tq 7 (.faddr 1 (.t 1)) (tq 8 (.load 1 false (.t 7)) (tq 9 (.faddr 1 (.t 3)) (.q ⟨none,none,.store 1 (.t 9) (.t 8)⟩
 .done)))))
 (.seq (.reg (tq 10 (.faddr 2 (.t 1)) (tq 11 (.load 1 false (.t 10)) (tq 12 (.faddr 2 (.t 3)) (.q ⟨none,none,.store 1 (.t 12) (.t 11)⟩
 .done)))))
 (.seq (.reg (tq 13 (.faddr 3 (.t 1)) (tq 14 (.load 1 false (.t 13)) (tq 15 (.faddr 3 (.t 3)) (.q ⟨none,none,.store 1 (.t 15) (.t 14)⟩
 .done)))))
 (.seq (.reg (tq 16 (.faddr 4 (.t 1)) (tq 17 (.load 1 false (.t 16)) (tq 18 (.faddr 4 (.t 3)) (.q ⟨none,none,.store 1 (.t 18) (.t 17)⟩
 .done)))))
 (.seq (.reg (tq 19 (.faddr 5 (.t 1)) (tq 20 (.load 1 false (.t 19)) (tq 21 (.faddr 5 (.t 3)) (.q ⟨none,none,.store 1 (.t 21) (.t 20)⟩
 .done)))))
 (.seq (.reg (tq 22 (.faddr 6 (.t 1)) (tq 23 (.load 1 false (.t 22)) (tq 24 (.faddr 6 (.t 3)) (.q ⟨none,none,.store 1 (.t 24) (.t 23)⟩
 .done)))))
 (.seq (.reg (tq 25 (.faddr 7 (.t 1)) (tq 26 (.load 1 false (.t 25)) (tq 27 (.faddr 7 (.t 3)) (.q ⟨none,none,.store 1 (.t 27) (.t 26)⟩
 .done)))))
 (.seq (.reg (tq 28 (.load 8 true (.t 3)) (.q ⟨none,none,.store 8 (.t 2) (.t 28)⟩
 .done)))
 .ret)))))))))))
theorem fc156:fcomp Tryz.prog Tryz.f156 = some (c156.erase,[.load 8 true (.t 2)],29):=by kernel_rfl
def laws_toColumn (a_1:GColumn):Option GColumn :=
    some a_1
theorem w_laws_toColumn (a_1:GColumn) (r:GColumn) (hf:laws_toColumn a_1 = some r):CallOK Tryz.prog 156 .flat [(encGColumn a_1)] (encGColumn r):=by
 refine CallOK.of_awp mixed Tryz.func156 fc156 nle ?_;rw [argT_eq];unfold laws_toColumn at hf;unfold c156;refine (show awp Tryz.prog false 0 _ (ofL [(0,(encGColumn a_1))]) [] _ from ?_);refine sr<|s_do (o_box (j:=0) (c:=(.agg [(.str a_1.Name),(.int .i64 a_1.Kind),(.int .i64 a_1.Min),(.int .i64 a_1.Max),(.int .i64 a_1.Low),(.int .i64 a_1.High),(.str a_1.Ref),(.bool a_1.Strong)])) rfl trivial rfl rfl)<|s_do (o_box (j:=1) (c:=(.agg [(.str []),(.int .i64 0),(.int .i64 0),(.int .i64 0),(.int .i64 0),(.int .i64 0),(.str []),(.bool false)])) rfl trivial rfl rfl)<|dk<|sr<|s_do (o_box (j:=2) (c:=(.agg [(.str []),(.int .i64 0),(.int .i64 0),(.int .i64 0),(.int .i64 0),(.int .i64 0),(.str []),(.bool false)])) rfl trivial rfl rfl)<|?_
 refine dk<|sr<|s_q (.ptr 0 0 0) rfl trivial rfl<|s_q (.str a_1.Name) rfl nle rfl<|s_q (.ptr 2 0 0) rfl trivial rfl<|s_do0 (o_storebox (v:=(.str a_1.Name)) (y':=(.agg [(.str a_1.Name),(.int .i64 0),(.int .i64 0),(.int .i64 0),(.int .i64 0),(.int .i64 0),(.str []),(.bool false)])) rfl rfl rfl trivial ⟨rfl,nle⟩ ⟨⟨rfl,trivial⟩,trivial⟩ rfl)<|dk<|sr<|s_q (.ptr 0 0 1) rfl trivial rfl<|s_q (.int .i64 a_1.Kind) rfl nle rfl<|s_q (.ptr 2 0 1) rfl trivial rfl<|s_do0 (o_storebox (v:=(.int .i64 a_1.Kind)) (y':=(.agg [(.str a_1.Name),(.int .i64 a_1.Kind),(.int .i64 0),(.int .i64 0),(.int .i64 0),(.int .i64 0),(.str []),(.bool false)])) rfl rfl rfl trivial ⟨rfl,nle⟩ ⟨⟨rfl,trivial⟩,trivial⟩ rfl)<|?_
 refine dk<|sr<|s_q (.ptr 0 0 2) rfl trivial rfl<|s_q (.int .i64 a_1.Min) rfl nle rfl<|s_q (.ptr 2 0 2) rfl trivial rfl<|s_do0 (o_storebox (v:=(.int .i64 a_1.Min)) (y':=(.agg [(.str a_1.Name),(.int .i64 a_1.Kind),(.int .i64 a_1.Min),(.int .i64 0),(.int .i64 0),(.int .i64 0),(.str []),(.bool false)])) rfl rfl rfl trivial ⟨rfl,nle⟩ ⟨⟨rfl,trivial⟩,trivial⟩ rfl)<|dk<|sr<|s_q (.ptr 0 0 3) rfl trivial rfl<|s_q (.int .i64 a_1.Max) rfl nle rfl<|s_q (.ptr 2 0 3) rfl trivial rfl<|s_do0 (o_storebox (v:=(.int .i64 a_1.Max)) (y':=(.agg [(.str a_1.Name),(.int .i64 a_1.Kind),(.int .i64 a_1.Min),(.int .i64 a_1.Max),(.int .i64 0),(.int .i64 0),(.str []),(.bool false)])) rfl rfl rfl trivial ⟨rfl,nle⟩ ⟨⟨rfl,trivial⟩,trivial⟩ rfl)<|?_
 refine dk<|sr<|s_q (.ptr 0 0 4) rfl trivial rfl<|s_q (.int .i64 a_1.Low) rfl nle rfl<|s_q (.ptr 2 0 4) rfl trivial rfl<|s_do0 (o_storebox (v:=(.int .i64 a_1.Low)) (y':=(.agg [(.str a_1.Name),(.int .i64 a_1.Kind),(.int .i64 a_1.Min),(.int .i64 a_1.Max),(.int .i64 a_1.Low),(.int .i64 0),(.str []),(.bool false)])) rfl rfl rfl trivial ⟨rfl,nle⟩ ⟨⟨rfl,trivial⟩,trivial⟩ rfl)<|dk<|sr<|s_q (.ptr 0 0 5) rfl trivial rfl<|s_q (.int .i64 a_1.High) rfl nle rfl<|s_q (.ptr 2 0 5) rfl trivial rfl<|s_do0 (o_storebox (v:=(.int .i64 a_1.High)) (y':=(.agg [(.str a_1.Name),(.int .i64 a_1.Kind),(.int .i64 a_1.Min),(.int .i64 a_1.Max),(.int .i64 a_1.Low),(.int .i64 a_1.High),(.str []),(.bool false)])) rfl rfl rfl trivial ⟨rfl,nle⟩ ⟨⟨rfl,trivial⟩,trivial⟩ rfl)<|?_
 refine dk<|sr<|s_q (.ptr 0 0 6) rfl trivial rfl<|s_q (.str a_1.Ref) rfl nle rfl<|s_q (.ptr 2 0 6) rfl trivial rfl<|s_do0 (o_storebox (v:=(.str a_1.Ref)) (y':=(.agg [(.str a_1.Name),(.int .i64 a_1.Kind),(.int .i64 a_1.Min),(.int .i64 a_1.Max),(.int .i64 a_1.Low),(.int .i64 a_1.High),(.str a_1.Ref),(.bool false)])) rfl rfl rfl trivial ⟨rfl,nle⟩ ⟨⟨rfl,trivial⟩,trivial⟩ rfl)<|dk<|sr<|s_q (.ptr 0 0 7) rfl trivial rfl<|s_q (.bool a_1.Strong) rfl nle rfl<|s_q (.ptr 2 0 7) rfl trivial rfl<|s_do0 (o_storebox (v:=(.bool a_1.Strong)) (y':=(.agg [(.str a_1.Name),(.int .i64 a_1.Kind),(.int .i64 a_1.Min),(.int .i64 a_1.Max),(.int .i64 a_1.Low),(.int .i64 a_1.High),(.str a_1.Ref),(.bool a_1.Strong)])) rfl rfl rfl trivial ⟨rfl,nle⟩ ⟨⟨rfl,trivial⟩,trivial⟩ rfl)<|?_
 refine dk<|sr<|s_q (.agg [(.str a_1.Name),(.int .i64 a_1.Kind),(.int .i64 a_1.Min),(.int .i64 a_1.Max),(.int .i64 a_1.Low),(.int .i64 a_1.High),(.str a_1.Ref),(.bool a_1.Strong)]) rfl nle rfl<|s_do0 (o_storebox (v:=(.agg [(.str a_1.Name),(.int .i64 a_1.Kind),(.int .i64 a_1.Min),(.int .i64 a_1.Max),(.int .i64 a_1.Low),(.int .i64 a_1.High),(.str a_1.Ref),(.bool a_1.Strong)])) (y':=(.agg [(.str a_1.Name),(.int .i64 a_1.Kind),(.int .i64 a_1.Min),(.int .i64 a_1.Max),(.int .i64 a_1.Low),(.int .i64 a_1.High),(.str a_1.Ref),(.bool a_1.Strong)])) rfl rfl rfl trivial ⟨rfl,nle⟩ ⟨⟨rfl,trivial⟩,⟨⟨rfl,trivial⟩,⟨⟨rfl,trivial⟩,⟨⟨rfl,trivial⟩,⟨⟨rfl,trivial⟩,⟨⟨rfl,trivial⟩,⟨⟨rfl,trivial⟩,⟨⟨rfl,trivial⟩,trivial⟩⟩⟩⟩⟩⟩⟩⟩ rfl)<|?_
 refine dk<|w_ret<|?_;obtain rfl:=os hf;exact r_flat ⟨nle,trivial⟩ rfl (.refl _)

/- laws.toColumnS -/
def c108:ACode :=
 (.seq (.reg (tm 2 (.c .nil) .done))
 (.seq (.reg (tm 5 (.t 0) (tq 6 (.len (.t 5)) (tq 7 (.mkslice 8 80 (.agg [(.str []),(.int .i64 0),(.int .i64 0),(.int .i64 0),(.int .i64 0),(.int .i64 0),(.str []),(.bool false)]) (.t 6) (.t 6)) (tm 3 (.t 7) .done)))))
 (.seq (.seq (.reg (tm 4 (.c (.int .i64 0)) .done))
 (.block 0 (.loop (.seq (.seq (.reg (tm 8 (.t 4) (tm 9 (.t 0) (tq 10 (.len (.t 9)) (tq 11 (.bin .lss (.t 8) (.t 10)) .done)))))
 (.cond (.t 11) .skip
 (.exit 0)))
 (.seq (.block 1 (.reg (tm 14 (.t 3) (tm 15 (.t 4) (tm 16 (.t 0) (tm 17 (.t 4) (tq 18 (.iaddr 8 (.t 16) (.t 17)) (tq 19 (.load 8 true (.t 18)) (tq 20 (.call 156 [(.t 19)]) (tq 21 (.iaddr 8 (.t 14) (.t 15)) (.q ⟨none,none,.store 8 (.t 21) (.t 20)⟩
 .done)))))))))))
 (.reg (tm 12 (.t 4) (tq 13 (.bin .add (.t 12) (.c (.int .i64 1))) (tm 4 (.t 13) .done)))))))))
 (.cut (.seq (.reg (tm 22 (.t 3) (tm 2 (.t 22) .done)))
 .ret)))))
theorem fc108:fcomp Tryz.prog Tryz.f108 = some (c108.erase,[.mov (.t 2)],23):=by kernel_rfl
def laws_toColumnS_L1 :List GColumn → Nat → (List GColumn) → Option (List GColumn)
  | [],i_24,out_25 =>
    some out_25
  | x_44 :: xs,i_24,out_25 =>
    (laws_toColumn x_44).bind fun r_47 =>
    if i_24 < out_25.length then
    (out_25[i_24]?).bind fun x_50 =>
    laws_toColumnS_L1 xs (i_24 + 1) (out_25.set i_24 r_47)
    else none

def laws_toColumnS (a_1:(List GColumn)):Option (List GColumn) :=
    if (a_1.length:Int) ≤ 2 ^ 30 then
    (laws_toColumnS_L1 a_1 0 (List.replicate a_1.length (⟨[],0,0,0,0,0,[],false⟩:GColumn))).bind fun out_36 =>
    some out_36
    else none
theorem w_laws_toColumnS (a_1:(List GColumn)) (r:(List GColumn)) (hf:laws_toColumnS a_1 = some r):CallOK Tryz.prog 108 .fresh [(.lst 8 (a_1.map encGColumn))] (.lst 8 (r.map encGColumn)):=by
 refine CallOK.of_awp mixed Tryz.func108 fc108 nle ?_;rw [argT_eq];unfold laws_toColumnS at hf;unfold c108;refine (show awp Tryz.prog true 0 _ (ofL [(0,(.lst 8 (a_1.map encGColumn)))]) [] _ from ?_);refine sr<|s_mov .nil rfl<|dk<|sr<|?_
 obtain ⟨g3,hf⟩:=og hf
 refine s_mov (.lst 8 (a_1.map encGColumn)) rfl<|s_dof (o_len (enc:=encGColumn) rfl) fun hl2 => s_do (o_mkslice (j:=0) (enc:=encGColumn) (m:=a_1.length) (⟨[],0,0,0,0,0,[],false⟩:GColumn) (.refl _) rfl rfl (Int.le_refl _) g3 rfl)<|s_mov (.own 0 0 a_1.length) rfl<|dk<|awp_seq<|sr<|s_mov (.int .i64 0) rfl<|dk<|?_
 obtain ⟨out_36,hb1,hf⟩:=ob hf
 refine awp_cut ([(3,(.own 0 0 out_36.length))],[.row 8 (out_36.map encGColumn)]) ?_ ?_
 ·refine awp_loop (X:={q:(Nat × (List GColumn)) // laws_toColumnS_L1 (a_1.drop q.1) q.1 q.2 = some out_36}) (fun q => ([(0,(.lst 8 (a_1.map encGColumn))),(3,(.own 0 0 q.1.2.length)),(4,(.int .i64 (q.1.1:Int)))],[.row 8 (q.1.2.map encGColumn)])) (fun q => a_1.length - q.1.1) ⟨(0,List.replicate a_1.length (⟨[],0,0,0,0,0,[],false⟩:GColumn)),hb1⟩ ⟨[],[0],_,_,rfl,rfl,⟨.refl _,⟨.of_eq (congrArg (AV.own _ 0) (by simp)),⟨.refl _,trivial⟩⟩⟩,(.refl _)⟩ ?_
  rintro ⟨⟨i_24,out_25⟩,hc1⟩
  have hc1:laws_toColumnS_L1 (a_1.drop i_24) i_24 out_25 = some out_36:=hc1
  refine (show awp Tryz.prog true 0 _ (ofL [(0,(.lst 8 (a_1.map encGColumn))),(3,(.own 0 0 out_25.length)),(4,(.int .i64 (i_24:Int)))]) [.row 8 (out_25.map encGColumn)] _ from ?_)
  rcases dropc a_1 i_24 with ⟨hie40,hd43⟩ | ⟨hlt38,x_44,hx39,hd43⟩
  ·rw [hd43,laws_toColumnS_L1.eq_1] at hc1
   have hq42:=dlf hie40
   refine awp_seq<|sr<|s_mov (.int .i64 (i_24:Int)) rfl<|s_mov (.lst 8 (a_1.map encGColumn)) rfl<|s_dof (o_len (enc:=encGColumn) rfl) fun hl45 => s_q (.bool (decide ((i_24:Int) < (a_1.length:Int)))) rfl rfl rfl<|dk<|w_condf rfl hq42<|w_exit<|k_seqx<|k_loopx<|k_blkx<|?_;obtain rfl:=os hc1;exact ⟨[],[0],_,_,rfl,rfl,⟨.refl _,trivial⟩,(.refl _)⟩
  ·rw [hd43,laws_toColumnS_L1.eq_2] at hc1
   have hq42:=dlt hlt38
   refine awp_seq<|sr<|s_mov (.int .i64 (i_24:Int)) rfl<|s_mov (.lst 8 (a_1.map encGColumn)) rfl<|s_dof (o_len (enc:=encGColumn) rfl) fun hl46 => s_q (.bool (decide ((i_24:Int) < (a_1.length:Int)))) rfl rfl rfl<|dk<|w_condt rfl hq42<|w_skip<|k_seq<|awp_seq<|w_blk<|w_reg<|?_
   obtain ⟨r_47,er48,hc1⟩:=ob hc1
   obtain ⟨g49,hc1⟩:=og hc1
   obtain ⟨x_50,ex51,hc1⟩:=ob hc1
   refine s_mov (.own 0 0 out_25.length) rfl<|s_mov (.int .i64 (i_24:Int)) rfl<|s_mov (.lst 8 (a_1.map encGColumn)) rfl<|s_mov (.int .i64 (i_24:Int)) rfl<|s_do (o_iaddrn (enc:=encGColumn) rfl rfl hx39)<|s_q (encGColumn x_44) rfl nle rfl<|s_do (o_call (w_laws_toColumn _ _ er48) rfl (.refl _) rfl)<|s_do (o_iaddrownn rfl rfl g49 rfl rfl)<|?_;refine s_do0 (o_storerow (v':=(encGColumn r_47)) (e':=r_47) rfl rfl ex51 rfl rfl rfl (by decide) (fun _ => by decide) ⟨rfl,nle⟩ (.refl _) rfl) ?_;refine w_done<|k_blk<|k_seq<|w_reg<|s_mov (.int .i64 (i_24:Int)) rfl<|s_q (.int .i64 (w64 ((i_24:Int) + 1))) rfl rfl rfl<|s_mov (.int .i64 (w64 ((i_24:Int) + 1))) rfl<|w_done<|?_;exact k_loopn ⟨((i_24 + 1),out_25.set i_24 r_47),hc1⟩ (mul hlt38) ⟨[],[0],_,_,rfl,rfl,⟨.refl _,⟨.of_eq (congrArg (AV.own _ 0) (by simp)),⟨.of_eq (congrArg (AV.int _) (w64_incr hlt38 hl46)),trivial⟩⟩⟩,(.refl _)⟩
 ·refine sr<|s_mov (.own 0 0 out_36.length) rfl<|s_mov (.own 0 0 out_36.length) rfl<|dk<|w_ret<|?_;obtain rfl:=os hf;exact r_fresh ⟨trivial,trivial⟩ rfl (by decide) (.of_eq (congrArg (AV.lst _) (tk (enc:=encGColumn) out_36)))

/- laws.toIntS -/
def c109:ACode :=
 (.seq (.reg (tm 2 (.c .nil) .done))
 (.seq (.reg (tm 5 (.t 0) (tq 6 (.len (.t 5)) (tq 7 (.mkslice 1 8 (.int .i64 0) (.t 6) (.t 6)) (tm 3 (.t 7) .done)))))
 (.seq (.seq (.reg (tm 4 (.c (.int .i64 0)) .done))
 (.block 0 (.loop (.seq (.seq (.reg (tm 8 (.t 4) (tm 9 (.t 0) (tq 10 (.len (.t 9)) (tq 11 (.bin .lss (.t 8) (.t 10)) .done)))))
 (.cond (.t 11) .skip
 (.exit 0)))
 (.seq (.block 1 (.reg (tm 14 (.t 3) (tm 15 (.t 4) (tm 16 (.t 0) (tm 17 (.t 4) (tq 18 (.iaddr 1 (.t 16) (.t 17)) (tq 19 (.load 1 false (.t 18)) (tq 20 (.iaddr 1 (.t 14) (.t 15)) (.q ⟨none,none,.store 1 (.t 20) (.t 19)⟩
 .done))))))))))
 (.reg (tm 12 (.t 4) (tq 13 (.bin .add (.t 12) (.c (.int .i64 1))) (tm 4 (.t 13) .done)))))))))
 (.cut (.seq (.reg (tm 21 (.t 3) (tm 2 (.t 21) .done)))
 .ret)))))
theorem fc109:fcomp Tryz.prog Tryz.f109 = some (c109.erase,[.mov (.t 2)],22):=by kernel_rfl
def laws_toIntS_L1 :List Int → Nat → (List Int) → Option (List Int)
  | [],i_20,out_21 =>
    some out_21
  | x_38 :: xs,i_20,out_21 =>
    if i_20 < out_21.length then
    (out_21[i_20]?).bind fun x_42 =>
    laws_toIntS_L1 xs (i_20 + 1) (out_21.set i_20 x_38)
    else none

def laws_toIntS (a_1:(List Int)):Option (List Int) :=
    if (a_1.length:Int) ≤ 2 ^ 30 then
    (laws_toIntS_L1 a_1 0 (List.replicate a_1.length 0)).bind fun out_30 =>
    some out_30
    else none
theorem w_laws_toIntS (a_1:(List Int)) (r:(List Int)) (hf:laws_toIntS a_1 = some r):CallOK Tryz.prog 109 .fresh [(.lst 1 (a_1.map encI))] (.lst 1 (r.map encI)):=by
 refine CallOK.of_awp mixed Tryz.func109 fc109 nle ?_;rw [argT_eq];unfold laws_toIntS at hf;unfold c109;refine (show awp Tryz.prog true 0 _ (ofL [(0,(.lst 1 (a_1.map encI)))]) [] _ from ?_);refine sr<|s_mov .nil rfl<|dk<|sr<|?_
 obtain ⟨g3,hf⟩:=og hf
 refine s_mov (.lst 1 (a_1.map encI)) rfl<|s_dof (o_len (enc:=encI) rfl) fun hl2 => s_do (o_mkslice (j:=0) (enc:=encI) (m:=a_1.length) 0 (.refl _) rfl rfl (Int.le_refl _) g3 rfl)<|s_mov (.own 0 0 a_1.length) rfl<|dk<|awp_seq<|sr<|s_mov (.int .i64 0) rfl<|dk<|?_
 obtain ⟨out_30,hb1,hf⟩:=ob hf
 refine awp_cut ([(3,(.own 0 0 out_30.length))],[.row 1 (out_30.map encI)]) ?_ ?_
 ·refine awp_loop (X:={q:(Nat × (List Int)) // laws_toIntS_L1 (a_1.drop q.1) q.1 q.2 = some out_30}) (fun q => ([(0,(.lst 1 (a_1.map encI))),(3,(.own 0 0 q.1.2.length)),(4,(.int .i64 (q.1.1:Int)))],[.row 1 (q.1.2.map encI)])) (fun q => a_1.length - q.1.1) ⟨(0,List.replicate a_1.length 0),hb1⟩ ⟨[],[0],_,_,rfl,rfl,⟨.refl _,⟨.of_eq (congrArg (AV.own _ 0) (by simp)),⟨.refl _,trivial⟩⟩⟩,(.refl _)⟩ ?_
  rintro ⟨⟨i_20,out_21⟩,hc1⟩
  have hc1:laws_toIntS_L1 (a_1.drop i_20) i_20 out_21 = some out_30:=hc1
  refine (show awp Tryz.prog true 0 _ (ofL [(0,(.lst 1 (a_1.map encI))),(3,(.own 0 0 out_21.length)),(4,(.int .i64 (i_20:Int)))]) [.row 1 (out_21.map encI)] _ from ?_)
  rcases dropc a_1 i_20 with ⟨hie34,hd37⟩ | ⟨hlt32,x_38,hx33,hd37⟩
  ·rw [hd37,laws_toIntS_L1.eq_1] at hc1
   have hq36:=dlf hie34
   refine awp_seq<|sr<|s_mov (.int .i64 (i_20:Int)) rfl<|s_mov (.lst 1 (a_1.map encI)) rfl<|s_dof (o_len (enc:=encI) rfl) fun hl39 => s_q (.bool (decide ((i_20:Int) < (a_1.length:Int)))) rfl rfl rfl<|dk<|w_condf rfl hq36<|w_exit<|k_seqx<|k_loopx<|k_blkx<|?_;obtain rfl:=os hc1;exact ⟨[],[0],_,_,rfl,rfl,⟨.refl _,trivial⟩,(.refl _)⟩
  ·rw [hd37,laws_toIntS_L1.eq_2] at hc1
   have hq36:=dlt hlt32
   refine awp_seq<|sr<|s_mov (.int .i64 (i_20:Int)) rfl<|s_mov (.lst 1 (a_1.map encI)) rfl<|s_dof (o_len (enc:=encI) rfl) fun hl40 => s_q (.bool (decide ((i_20:Int) < (a_1.length:Int)))) rfl rfl rfl<|dk<|w_condt rfl hq36<|w_skip<|k_seq<|awp_seq<|w_blk<|w_reg<|?_
   obtain ⟨g41,hc1⟩:=og hc1
   obtain ⟨x_42,ex43,hc1⟩:=ob hc1
   refine s_mov (.own 0 0 out_21.length) rfl<|s_mov (.int .i64 (i_20:Int)) rfl<|s_mov (.lst 1 (a_1.map encI)) rfl<|s_mov (.int .i64 (i_20:Int)) rfl<|s_do (o_iaddrn (enc:=encI) rfl rfl hx33)<|s_q (.int .i64 x_38) rfl ⟨rfl,rfl⟩ rfl<|s_do (o_iaddrownn rfl rfl g41 rfl rfl)<|?_;refine s_do0 (o_storerow (v':=(.int .i64 x_38)) (e':=x_38) rfl rfl ex43 rfl rfl rfl (by decide) (fun _ => by decide) ⟨rfl,rfl,rfl⟩ (.refl _) rfl) ?_;refine w_done<|k_blk<|k_seq<|w_reg<|s_mov (.int .i64 (i_20:Int)) rfl<|s_q (.int .i64 (w64 ((i_20:Int) + 1))) rfl rfl rfl<|s_mov (.int .i64 (w64 ((i_20:Int) + 1))) rfl<|w_done<|?_;exact k_loopn ⟨((i_20 + 1),out_21.set i_20 x_38),hc1⟩ (mul hlt32) ⟨[],[0],_,_,rfl,rfl,⟨.refl _,⟨.of_eq (congrArg (AV.own _ 0) (by simp)),⟨.of_eq (congrArg (AV.int _) (w64_incr hlt32 hl40)),trivial⟩⟩⟩,(.refl _)⟩
 ·refine sr<|s_mov (.own 0 0 out_30.length) rfl<|s_mov (.own 0 0 out_30.length) rfl<|dk<|w_ret<|?_;obtain rfl:=os hf;exact r_fresh ⟨trivial,trivial⟩ rfl (by decide) (.of_eq (congrArg (AV.lst _) (tk (enc:=encI) out_30)))

/- laws.toTable -/
def c54:ACode :=
 (.seq (.reg (tq 1 (.box 4 (.t 0)) (tq 2 (.box 4 (.c (.agg [(.str []),.nil,.nil,(.bool false)]))) .done)))
 (.seq (.reg (tq 3 (.box 4 (.c (.agg [(.str []),.nil,.nil,(.bool false)]))) .done))
 (.seq (.reg (tq 4 (.faddr 0 (.t 1)) (tq 5 (.load 1 false (.t 4)) (tq 6 (.faddr 0 (.t 3)) (.q ⟨none,none,.store 1 (.t 6) (.t 5)⟩
 .done)))))
 (.seq (.reg (tq 7 (.faddr 1 (.t 1)) (tq 8 (.load 1 false (.t 7)) (tq 9 (.call 108 [(.t 8)]) (tq 10 (.faddr 1 (.t 3)) (.q ⟨none,none,.store 1 (.t 10) (.t 9)⟩
 .done))))))
 (.seq (.reg (tq 11 (.faddr 2 (.t 1)) (tq 12 (.load 1 false (.t 11)) (tq 13 (.call 109 [(.t 12)]) (tq 14 (.faddr 2 (.t 3)) (.q ⟨none,none,.store 1 (.t 14) (.t 13)⟩
 .done))))))
 (.seq (.reg (tq 15 (.faddr 3 (.t 1)) (tq 16 (.load 1 false (.t 15)) (tq 17 (.faddr 3 (.t 3)) (.q ⟨none,none,.store 1 (.t 17) (.t 16)⟩
 .done)))))
 (.seq (.reg (tq 18 (.load 4 true (.t 3)) (.q ⟨none,none,.store 4 (.t 2) (.t 18)⟩
 .done)))
 .ret)))))))
theorem fc54:fcomp Tryz.prog Tryz.f54 = some (c54.erase,[.load 4 true (.t 2)],19):=by kernel_rfl
def laws_toTable (a_1:GTable):Option GTable :=
    (laws_toColumnS a_1.Columns).bind fun r_2 =>
    (laws_toIntS a_1.Unique).bind fun r_4 =>
    some (⟨a_1.Name,r_2,r_4,a_1.Root⟩:GTable)
theorem w_laws_toTable (a_1:GTable) (r:GTable) (hf:laws_toTable a_1 = some r):CallOK Tryz.prog 54 .fresh [(encGTable a_1)] (encGTable r):=by
 refine CallOK.of_awp mixed Tryz.func54 fc54 nle ?_;rw [argT_eq];unfold laws_toTable at hf;unfold c54;refine (show awp Tryz.prog true 0 _ (ofL [(0,(encGTable a_1))]) [] _ from ?_);refine sr<|s_do (o_box (j:=0) (c:=(.agg [(.str a_1.Name),(.lst 8 (a_1.Columns.map encGColumn)),(.lst 1 (a_1.Unique.map encI)),(.bool a_1.Root)])) rfl trivial rfl rfl)<|s_do (o_box (j:=1) (c:=(.agg [(.str []),.nil,.nil,(.bool false)])) rfl trivial rfl rfl)<|dk<|sr<|s_do (o_box (j:=2) (c:=(.agg [(.str []),.nil,.nil,(.bool false)])) rfl trivial rfl rfl)<|dk<|sr<|s_q (.ptr 0 0 0) rfl trivial rfl<|s_q (.str a_1.Name) rfl nle rfl<|s_q (.ptr 2 0 0) rfl trivial rfl<|?_
 refine s_do0 (o_storebox (v:=(.str a_1.Name)) (y':=(.agg [(.str a_1.Name),.nil,.nil,(.bool false)])) rfl rfl rfl trivial ⟨rfl,nle⟩ ⟨⟨rfl,trivial⟩,trivial⟩ rfl)<|dk<|sr<|?_
 obtain ⟨r_2,er3,hf⟩:=ob hf
 refine s_q (.ptr 0 0 1) rfl trivial rfl<|s_q (.lst 8 (a_1.Columns.map encGColumn)) rfl nle rfl<|s_do (o_callf (v:=(.own 3 0 r_2.length)) (h':=[.row 8 (r_2.map encGColumn)]) (w_laws_toColumnS _ _ er3) rfl (.refl _) (by simp only [openV,openVs,List.length_map,List.nil_append,List.append_nil,List.cons_append];rfl))<|s_q (.ptr 2 0 1) rfl trivial rfl<|s_do0 (o_storebox (v:=(.own 3 0 r_2.length)) (y':=(.agg [(.str a_1.Name),(.own 3 0 r_2.length),.nil,(.bool false)])) rfl rfl rfl trivial ⟨rfl,nle⟩ ⟨⟨rfl,trivial⟩,trivial⟩ rfl)<|dk<|sr<|?_
 obtain ⟨r_4,er5,hf⟩:=ob hf
 refine s_q (.ptr 0 0 2) rfl trivial rfl<|s_q (.lst 1 (a_1.Unique.map encI)) rfl nle rfl<|s_do (o_callf (v:=(.own 4 0 r_4.length)) (h':=[.row 1 (r_4.map encI)]) (w_laws_toIntS _ _ er5) rfl (.refl _) (by simp only [openV,openVs,List.length_map,List.nil_append,List.append_nil,List.cons_append];rfl))<|s_q (.ptr 2 0 2) rfl trivial rfl<|s_do0 (o_storebox (v:=(.own 4 0 r_4.length)) (y':=(.agg [(.str a_1.Name),(.own 3 0 r_2.length),(.own 4 0 r_4.length),(.bool false)])) rfl rfl rfl trivial ⟨rfl,nle⟩ ⟨⟨rfl,trivial⟩,trivial⟩ rfl)<|dk<|sr<|s_q (.ptr 0 0 3) rfl trivial rfl<|s_q (.bool a_1.Root) rfl nle rfl<|s_q (.ptr 2 0 3) rfl trivial rfl<|s_do0 (o_storebox (v:=(.bool a_1.Root)) (y':=(.agg [(.str a_1.Name),(.own 3 0 r_2.length),(.own 4 0 r_4.length),(.bool a_1.Root)])) rfl rfl rfl trivial ⟨rfl,nle⟩ ⟨⟨rfl,trivial⟩,trivial⟩ rfl)<|?_
 refine dk<|sr<|s_q (.agg [(.str a_1.Name),(.own 3 0 r_2.length),(.own 4 0 r_4.length),(.bool a_1.Root)]) rfl nle rfl<|s_do0 (o_storebox (v:=(.agg [(.str a_1.Name),(.own 3 0 r_2.length),(.own 4 0 r_4.length),(.bool a_1.Root)])) (y':=(.agg [(.str a_1.Name),(.own 3 0 r_2.length),(.own 4 0 r_4.length),(.bool a_1.Root)])) rfl rfl rfl trivial ⟨rfl,nle⟩ ⟨⟨rfl,trivial⟩,⟨⟨rfl,trivial⟩,⟨⟨rfl,trivial⟩,⟨⟨rfl,trivial⟩,trivial⟩⟩⟩⟩ rfl)<|dk<|w_ret<|?_;obtain rfl:=os hf;exact r_fresh ⟨nle,trivial⟩ rfl (by decide) (.agg (.cons (.refl _) (.cons (.of_eq (congrArg (AV.lst _) (tk (enc:=encGColumn) r_2))) (.cons (.of_eq (congrArg (AV.lst _) (tk (enc:=encI) r_4))) (.cons (.refl _) .nil)))))

/- laws.toTableS -/
def c23:ACode :=
 (.seq (.reg (tm 2 (.c .nil) .done))
 (.seq (.reg (tm 5 (.t 0) (tq 6 (.len (.t 5)) (tq 7 (.mkslice 4 72 (.agg [(.str []),.nil,.nil,(.bool false)]) (.t 6) (.t 6)) (tm 3 (.t 7) .done)))))
 (.seq (.seq (.reg (tm 4 (.c (.int .i64 0)) .done))
 (.block 0 (.loop (.seq (.seq (.reg (tm 8 (.t 4) (tm 9 (.t 0) (tq 10 (.len (.t 9)) (tq 11 (.bin .lss (.t 8) (.t 10)) .done)))))
 (.cond (.t 11) .skip
 (.exit 0)))
 (.seq (.block 1 (.reg (tm 14 (.t 3) (tm 15 (.t 4) (tm 16 (.t 0) (tm 17 (.t 4) (tq 18 (.iaddr 4 (.t 16) (.t 17)) (tq 19 (.load 4 true (.t 18)) (tq 20 (.call 54 [(.t 19)]) (tq 21 (.iaddr 4 (.t 14) (.t 15)) (.q ⟨none,none,.store 4 (.t 21) (.t 20)⟩
 .done)))))))))))
 (.reg (tm 12 (.t 4) (tq 13 (.bin .add (.t 12) (.c (.int .i64 1))) (tm 4 (.t 13) .done)))))))))
 (.cut (.seq (.reg (tm 22 (.t 3) (tm 2 (.t 22) .done)))
 .ret)))))
theorem fc23:fcomp Tryz.prog Tryz.f23 = some (c23.erase,[.mov (.t 2)],23):=by kernel_rfl
def laws_toTableS_L1 :List GTable → Nat → (List GTable) → Option (List GTable)
  | [],i_24,out_25 =>
    some out_25
  | x_44 :: xs,i_24,out_25 =>
    (laws_toTable x_44).bind fun r_47 =>
    if i_24 < out_25.length then
    (out_25[i_24]?).bind fun x_50 =>
    laws_toTableS_L1 xs (i_24 + 1) (out_25.set i_24 r_47)
    else none

def laws_toTableS (a_1:(List GTable)):Option (List GTable) :=
    if (a_1.length:Int) ≤ 2 ^ 30 then
    (laws_toTableS_L1 a_1 0 (List.replicate a_1.length (⟨[],[],[],false⟩:GTable))).bind fun out_36 =>
    some out_36
    else none
theorem w_laws_toTableS (a_1:(List GTable)) (r:(List GTable)) (hf:laws_toTableS a_1 = some r):CallOK Tryz.prog 23 .fresh [(.lst 4 (a_1.map encGTable))] (.lst 4 (r.map encGTable)):=by
 refine CallOK.of_awp mixed Tryz.func23 fc23 nle ?_;rw [argT_eq];unfold laws_toTableS at hf;unfold c23;refine (show awp Tryz.prog true 0 _ (ofL [(0,(.lst 4 (a_1.map encGTable)))]) [] _ from ?_);refine sr<|s_mov .nil rfl<|dk<|sr<|?_
 obtain ⟨g3,hf⟩:=og hf
 refine s_mov (.lst 4 (a_1.map encGTable)) rfl<|s_dof (o_len (enc:=encGTable) rfl) fun hl2 => s_do (o_mkslice (j:=0) (enc:=encGTable) (m:=a_1.length) (⟨[],[],[],false⟩:GTable) (.agg (.cons (.refl _) (.cons (.nil _) (.cons (.nil _) (.cons (.refl _) .nil))))) rfl rfl (Int.le_refl _) g3 rfl)<|s_mov (.own 0 0 a_1.length) rfl<|dk<|awp_seq<|sr<|s_mov (.int .i64 0) rfl<|dk<|?_
 obtain ⟨out_36,hb1,hf⟩:=ob hf
 refine awp_cut ([(3,(.own 0 0 out_36.length))],[.row 4 (out_36.map encGTable)]) ?_ ?_
 ·refine awp_loop (X:={q:(Nat × (List GTable)) // laws_toTableS_L1 (a_1.drop q.1) q.1 q.2 = some out_36}) (fun q => ([(0,(.lst 4 (a_1.map encGTable))),(3,(.own 0 0 q.1.2.length)),(4,(.int .i64 (q.1.1:Int)))],[.row 4 (q.1.2.map encGTable)])) (fun q => a_1.length - q.1.1) ⟨(0,List.replicate a_1.length (⟨[],[],[],false⟩:GTable)),hb1⟩ ⟨[],[0],_,_,rfl,rfl,⟨.refl _,⟨.of_eq (congrArg (AV.own _ 0) (by simp)),⟨.refl _,trivial⟩⟩⟩,(.refl _)⟩ ?_
  rintro ⟨⟨i_24,out_25⟩,hc1⟩
  have hc1:laws_toTableS_L1 (a_1.drop i_24) i_24 out_25 = some out_36:=hc1
  refine (show awp Tryz.prog true 0 _ (ofL [(0,(.lst 4 (a_1.map encGTable))),(3,(.own 0 0 out_25.length)),(4,(.int .i64 (i_24:Int)))]) [.row 4 (out_25.map encGTable)] _ from ?_)
  rcases dropc a_1 i_24 with ⟨hie40,hd43⟩ | ⟨hlt38,x_44,hx39,hd43⟩
  ·rw [hd43,laws_toTableS_L1.eq_1] at hc1
   have hq42:=dlf hie40
   refine awp_seq<|sr<|s_mov (.int .i64 (i_24:Int)) rfl<|s_mov (.lst 4 (a_1.map encGTable)) rfl<|s_dof (o_len (enc:=encGTable) rfl) fun hl45 => s_q (.bool (decide ((i_24:Int) < (a_1.length:Int)))) rfl rfl rfl<|dk<|w_condf rfl hq42<|w_exit<|k_seqx<|k_loopx<|k_blkx<|?_;obtain rfl:=os hc1;exact ⟨[],[0],_,_,rfl,rfl,⟨.refl _,trivial⟩,(.refl _)⟩
  ·rw [hd43,laws_toTableS_L1.eq_2] at hc1
   have hq42:=dlt hlt38
   refine awp_seq<|sr<|s_mov (.int .i64 (i_24:Int)) rfl<|s_mov (.lst 4 (a_1.map encGTable)) rfl<|s_dof (o_len (enc:=encGTable) rfl) fun hl46 => s_q (.bool (decide ((i_24:Int) < (a_1.length:Int)))) rfl rfl rfl<|dk<|w_condt rfl hq42<|w_skip<|k_seq<|awp_seq<|w_blk<|w_reg<|?_
   obtain ⟨r_47,er48,hc1⟩:=ob hc1
   obtain ⟨g49,hc1⟩:=og hc1
   obtain ⟨x_50,ex51,hc1⟩:=ob hc1
   refine s_mov (.own 0 0 out_25.length) rfl<|s_mov (.int .i64 (i_24:Int)) rfl<|s_mov (.lst 4 (a_1.map encGTable)) rfl<|s_mov (.int .i64 (i_24:Int)) rfl<|s_do (o_iaddrn (enc:=encGTable) rfl rfl hx39)<|s_q (encGTable x_44) rfl nle rfl<|s_do (o_callf (v:=(.agg [(.str r_47.Name),(.own 1 0 r_47.Columns.length),(.own 2 0 r_47.Unique.length),(.bool r_47.Root)])) (h':=[.row 8 (r_47.Columns.map encGColumn),.row 1 (r_47.Unique.map encI)]) (w_laws_toTable _ _ er48) rfl (.refl _) (by simp only [openV,openVs,List.length_map,encGTable_eq,List.nil_append,List.append_nil,List.cons_append];rfl))<|s_do (o_iaddrownn rfl rfl g49 rfl rfl)<|?_;refine s_do0 (o_storerow (v':=(.agg [(.str r_47.Name),(.lst 8 (r_47.Columns.map encGColumn)),(.lst 1 (r_47.Unique.map encI)),(.bool r_47.Root)])) (e':=r_47) rfl rfl ex51 rfl rfl (by simp only [tk,tko,List.take_length]) (by decide) (fun _ => by decide) ⟨rfl,nle⟩ (.refl _) rfl) ?_
   refine w_done<|k_blk<|k_seq<|w_reg<|s_mov (.int .i64 (i_24:Int)) rfl<|s_q (.int .i64 (w64 ((i_24:Int) + 1))) rfl rfl rfl<|s_mov (.int .i64 (w64 ((i_24:Int) + 1))) rfl<|w_done<|?_;exact k_loopn ⟨((i_24 + 1),out_25.set i_24 r_47),hc1⟩ (mul hlt38) ⟨[],[0],_,_,rfl,rfl,⟨.refl _,⟨.of_eq (congrArg (AV.own _ 0) (by simp)),⟨.of_eq (congrArg (AV.int _) (w64_incr hlt38 hl46)),trivial⟩⟩⟩,(.refl _)⟩
 ·refine sr<|s_mov (.own 0 0 out_36.length) rfl<|s_mov (.own 0 0 out_36.length) rfl<|dk<|w_ret<|?_;obtain rfl:=os hf;exact r_fresh ⟨trivial,trivial⟩ rfl (by decide) (.of_eq (congrArg (AV.lst _) (tk (enc:=encGTable) out_36)))

/- laws.toSchema -/
def c8:ACode :=
 (.seq (.reg (tq 1 (.box 1 (.t 0)) (tq 2 (.box 1 (.c (.agg [.nil]))) .done)))
 (.seq (.reg (tq 3 (.box 1 (.c (.agg [.nil]))) .done))
 (.seq (.reg (tq 4 (.faddr 0 (.t 1)) (tq 5 (.load 1 false (.t 4)) (tq 6 (.call 23 [(.t 5)]) (tq 7 (.faddr 0 (.t 3)) (.q ⟨none,none,.store 1 (.t 7) (.t 6)⟩
 .done))))))
 (.seq (.reg (tq 8 (.load 1 true (.t 3)) (.q ⟨none,none,.store 1 (.t 2) (.t 8)⟩
 .done)))
 .ret))))
theorem fc8:fcomp Tryz.prog Tryz.f8 = some (c8.erase,[.load 1 true (.t 2)],9):=by kernel_rfl
def laws_toSchema (a_1:GSchema):Option GSchema :=
    (laws_toTableS a_1.Tables).bind fun r_2 =>
    some (⟨r_2⟩:GSchema)
theorem w_laws_toSchema (a_1:GSchema) (r:GSchema) (hf:laws_toSchema a_1 = some r):CallOK Tryz.prog 8 .fresh [(encGSchema a_1)] (encGSchema r):=by
 refine CallOK.of_awp mixed Tryz.func8 fc8 nle ?_;rw [argT_eq];unfold laws_toSchema at hf;unfold c8;refine (show awp Tryz.prog true 0 _ (ofL [(0,(encGSchema a_1))]) [] _ from ?_);refine sr<|s_do (o_box (j:=0) (c:=(.agg [(.lst 4 (a_1.Tables.map encGTable))])) rfl trivial rfl rfl)<|s_do (o_box (j:=1) (c:=(.agg [.nil])) rfl trivial rfl rfl)<|dk<|sr<|s_do (o_box (j:=2) (c:=(.agg [.nil])) rfl trivial rfl rfl)<|dk<|sr<|?_
 obtain ⟨r_2,er3,hf⟩:=ob hf
 refine s_q (.ptr 0 0 0) rfl trivial rfl<|s_q (.lst 4 (a_1.Tables.map encGTable)) rfl nle rfl<|s_do (o_callf (v:=(.own 3 0 r_2.length)) (h':=[.row 4 (r_2.map encGTable)]) (w_laws_toTableS _ _ er3) rfl (.refl _) (by simp only [openV,openVs,List.length_map,List.nil_append,List.append_nil,List.cons_append];rfl))<|s_q (.ptr 2 0 0) rfl trivial rfl<|s_do0 (o_storebox (v:=(.own 3 0 r_2.length)) (y':=(.agg [(.own 3 0 r_2.length)])) rfl rfl rfl trivial ⟨rfl,nle⟩ ⟨⟨rfl,trivial⟩,trivial⟩ rfl)<|dk<|sr<|s_q (.agg [(.own 3 0 r_2.length)]) rfl nle rfl<|s_do0 (o_storebox (v:=(.agg [(.own 3 0 r_2.length)])) (y':=(.agg [(.own 3 0 r_2.length)])) rfl rfl rfl trivial ⟨rfl,nle⟩ ⟨⟨rfl,trivial⟩,trivial⟩ rfl)<|?_
 refine dk<|w_ret<|?_;obtain rfl:=os hf;exact r_fresh ⟨nle,trivial⟩ rfl (by decide) (.agg (.cons (.of_eq (congrArg (AV.lst _) (tk (enc:=encGTable) r_2))) .nil))

/- laws.toAtom -/
def c169:ACode :=
 (.seq (.reg (tq 1 (.box 3 (.t 0)) (tq 2 (.box 3 (.c (.agg [(.int .i64 0),(.int .i64 0),(.str [])]))) .done)))
 (.seq (.reg (tq 3 (.box 3 (.c (.agg [(.int .i64 0),(.int .i64 0),(.str [])]))) .done))
 (.seq (.reg (tq 4 (.faddr 0 (.t 1)) (tq 5 (.load 1 false (.t 4)) (tq 6 (.faddr 0 (.t 3)) (.q ⟨none,none,.store 1 (.t 6) (.t 5)⟩
 .done)))))
 (.seq (.reg (tq 7 (.faddr 1 (.t 1)) (tq 8 (.load 1 false (.t 7)) (tq 9 (.faddr 1 (.t 3)) (.q ⟨none,none,.store 1 (.t 9) (.t 8)⟩
 .done)))))
 (.seq (.reg (tq 10 (.faddr 2 (.t 1)) (tq 11 (.load 1 false (.t 10)) (tq 12 (.faddr 2 (.t 3)) (.q ⟨none,none,.store 1 (.t 12) (.t 11)⟩
 .done)))))
 (.seq (.reg (tq 13 (.load 3 true (.t 3)) (.q ⟨none,none,.store 3 (.t 2) (.t 13)⟩
 .done)))
 .ret))))))
theorem fc169:fcomp Tryz.prog Tryz.f169 = some (c169.erase,[.load 3 true (.t 2)],14):=by kernel_rfl
def laws_toAtom (a_1:GAtom):Option GAtom :=
    some a_1
theorem w_laws_toAtom (a_1:GAtom) (r:GAtom) (hf:laws_toAtom a_1 = some r):CallOK Tryz.prog 169 .flat [(encGAtom a_1)] (encGAtom r):=by
 refine CallOK.of_awp mixed Tryz.func169 fc169 nle ?_;rw [argT_eq];unfold laws_toAtom at hf;unfold c169;refine (show awp Tryz.prog false 0 _ (ofL [(0,(encGAtom a_1))]) [] _ from ?_);refine sr<|s_do (o_box (j:=0) (c:=(.agg [(.int .i64 a_1.Kind),(.int .i64 a_1.N),(.str a_1.T)])) rfl trivial rfl rfl)<|s_do (o_box (j:=1) (c:=(.agg [(.int .i64 0),(.int .i64 0),(.str [])])) rfl trivial rfl rfl)<|dk<|sr<|s_do (o_box (j:=2) (c:=(.agg [(.int .i64 0),(.int .i64 0),(.str [])])) rfl trivial rfl rfl)<|dk<|sr<|s_q (.ptr 0 0 0) rfl trivial rfl<|s_q (.int .i64 a_1.Kind) rfl nle rfl<|s_q (.ptr 2 0 0) rfl trivial rfl<|s_do0 (o_storebox (v:=(.int .i64 a_1.Kind)) (y':=(.agg [(.int .i64 a_1.Kind),(.int .i64 0),(.str [])])) rfl rfl rfl trivial ⟨rfl,nle⟩ ⟨⟨rfl,trivial⟩,trivial⟩ rfl)<|?_
 refine dk<|sr<|s_q (.ptr 0 0 1) rfl trivial rfl<|s_q (.int .i64 a_1.N) rfl nle rfl<|s_q (.ptr 2 0 1) rfl trivial rfl<|s_do0 (o_storebox (v:=(.int .i64 a_1.N)) (y':=(.agg [(.int .i64 a_1.Kind),(.int .i64 a_1.N),(.str [])])) rfl rfl rfl trivial ⟨rfl,nle⟩ ⟨⟨rfl,trivial⟩,trivial⟩ rfl)<|dk<|sr<|s_q (.ptr 0 0 2) rfl trivial rfl<|s_q (.str a_1.T) rfl nle rfl<|s_q (.ptr 2 0 2) rfl trivial rfl<|s_do0 (o_storebox (v:=(.str a_1.T)) (y':=(.agg [(.int .i64 a_1.Kind),(.int .i64 a_1.N),(.str a_1.T)])) rfl rfl rfl trivial ⟨rfl,nle⟩ ⟨⟨rfl,trivial⟩,trivial⟩ rfl)<|dk<|sr<|s_q (.agg [(.int .i64 a_1.Kind),(.int .i64 a_1.N),(.str a_1.T)]) rfl nle rfl<|?_
 refine s_do0 (o_storebox (v:=(.agg [(.int .i64 a_1.Kind),(.int .i64 a_1.N),(.str a_1.T)])) (y':=(.agg [(.int .i64 a_1.Kind),(.int .i64 a_1.N),(.str a_1.T)])) rfl rfl rfl trivial ⟨rfl,nle⟩ ⟨⟨rfl,trivial⟩,⟨⟨rfl,trivial⟩,⟨⟨rfl,trivial⟩,trivial⟩⟩⟩ rfl)<|dk<|w_ret<|?_;obtain rfl:=os hf;exact r_flat ⟨nle,trivial⟩ rfl (.refl _)

/- laws.toAtomS -/
def c129:ACode :=
 (.seq (.reg (tm 2 (.c .nil) .done))
 (.seq (.reg (tm 5 (.t 0) (tq 6 (.len (.t 5)) (tq 7 (.mkslice 3 32 (.agg [(.int .i64 0),(.int .i64 0),(.str [])]) (.t 6) (.t 6)) (tm 3 (.t 7) .done)))))
 (.seq (.seq (.reg (tm 4 (.c (.int .i64 0)) .done))
 (.block 0 (.loop (.seq (.seq (.reg (tm 8 (.t 4) (tm 9 (.t 0) (tq 10 (.len (.t 9)) (tq 11 (.bin .lss (.t 8) (.t 10)) .done)))))
 (.cond (.t 11) .skip
 (.exit 0)))
 (.seq (.block 1 (.reg (tm 14 (.t 3) (tm 15 (.t 4) (tm 16 (.t 0) (tm 17 (.t 4) (tq 18 (.iaddr 3 (.t 16) (.t 17)) (tq 19 (.load 3 true (.t 18)) (tq 20 (.call 169 [(.t 19)]) (tq 21 (.iaddr 3 (.t 14) (.t 15)) (.q ⟨none,none,.store 3 (.t 21) (.t 20)⟩
 .done)))))))))))
 (.reg (tm 12 (.t 4) (tq 13 (.bin .add (.t 12) (.c (.int .i64 1))) (tm 4 (.t 13) .done)))))))))
 (.cut (.seq (.reg (tm 22 (.t 3) (tm 2 (.t 22) .done)))
 .ret)))))
theorem fc129:fcomp Tryz.prog Tryz.f129 = some (c129.erase,[.mov (.t 2)],23):=by kernel_rfl
def laws_toAtomS_L1 :List GAtom → Nat → (List GAtom) → Option (List GAtom)
  | [],i_24,out_25 =>
    some out_25
  | x_44 :: xs,i_24,out_25 =>
    (laws_toAtom x_44).bind fun r_47 =>
    if i_24 < out_25.length then
    (out_25[i_24]?).bind fun x_50 =>
    laws_toAtomS_L1 xs (i_24 + 1) (out_25.set i_24 r_47)
    else none

def laws_toAtomS (a_1:(List GAtom)):Option (List GAtom) :=
    if (a_1.length:Int) ≤ 2 ^ 30 then
    (laws_toAtomS_L1 a_1 0 (List.replicate a_1.length (⟨0,0,[]⟩:GAtom))).bind fun out_36 =>
    some out_36
    else none
theorem w_laws_toAtomS (a_1:(List GAtom)) (r:(List GAtom)) (hf:laws_toAtomS a_1 = some r):CallOK Tryz.prog 129 .fresh [(.lst 3 (a_1.map encGAtom))] (.lst 3 (r.map encGAtom)):=by
 refine CallOK.of_awp mixed Tryz.func129 fc129 nle ?_;rw [argT_eq];unfold laws_toAtomS at hf;unfold c129;refine (show awp Tryz.prog true 0 _ (ofL [(0,(.lst 3 (a_1.map encGAtom)))]) [] _ from ?_);refine sr<|s_mov .nil rfl<|dk<|sr<|?_
 obtain ⟨g3,hf⟩:=og hf
 refine s_mov (.lst 3 (a_1.map encGAtom)) rfl<|s_dof (o_len (enc:=encGAtom) rfl) fun hl2 => s_do (o_mkslice (j:=0) (enc:=encGAtom) (m:=a_1.length) (⟨0,0,[]⟩:GAtom) (.refl _) rfl rfl (Int.le_refl _) g3 rfl)<|s_mov (.own 0 0 a_1.length) rfl<|dk<|awp_seq<|sr<|s_mov (.int .i64 0) rfl<|dk<|?_
 obtain ⟨out_36,hb1,hf⟩:=ob hf
 refine awp_cut ([(3,(.own 0 0 out_36.length))],[.row 3 (out_36.map encGAtom)]) ?_ ?_
 ·refine awp_loop (X:={q:(Nat × (List GAtom)) // laws_toAtomS_L1 (a_1.drop q.1) q.1 q.2 = some out_36}) (fun q => ([(0,(.lst 3 (a_1.map encGAtom))),(3,(.own 0 0 q.1.2.length)),(4,(.int .i64 (q.1.1:Int)))],[.row 3 (q.1.2.map encGAtom)])) (fun q => a_1.length - q.1.1) ⟨(0,List.replicate a_1.length (⟨0,0,[]⟩:GAtom)),hb1⟩ ⟨[],[0],_,_,rfl,rfl,⟨.refl _,⟨.of_eq (congrArg (AV.own _ 0) (by simp)),⟨.refl _,trivial⟩⟩⟩,(.refl _)⟩ ?_
  rintro ⟨⟨i_24,out_25⟩,hc1⟩
  have hc1:laws_toAtomS_L1 (a_1.drop i_24) i_24 out_25 = some out_36:=hc1
  refine (show awp Tryz.prog true 0 _ (ofL [(0,(.lst 3 (a_1.map encGAtom))),(3,(.own 0 0 out_25.length)),(4,(.int .i64 (i_24:Int)))]) [.row 3 (out_25.map encGAtom)] _ from ?_)
  rcases dropc a_1 i_24 with ⟨hie40,hd43⟩ | ⟨hlt38,x_44,hx39,hd43⟩
  ·rw [hd43,laws_toAtomS_L1.eq_1] at hc1
   have hq42:=dlf hie40
   refine awp_seq<|sr<|s_mov (.int .i64 (i_24:Int)) rfl<|s_mov (.lst 3 (a_1.map encGAtom)) rfl<|s_dof (o_len (enc:=encGAtom) rfl) fun hl45 => s_q (.bool (decide ((i_24:Int) < (a_1.length:Int)))) rfl rfl rfl<|dk<|w_condf rfl hq42<|w_exit<|k_seqx<|k_loopx<|k_blkx<|?_;obtain rfl:=os hc1;exact ⟨[],[0],_,_,rfl,rfl,⟨.refl _,trivial⟩,(.refl _)⟩
  ·rw [hd43,laws_toAtomS_L1.eq_2] at hc1
   have hq42:=dlt hlt38
   refine awp_seq<|sr<|s_mov (.int .i64 (i_24:Int)) rfl<|s_mov (.lst 3 (a_1.map encGAtom)) rfl<|s_dof (o_len (enc:=encGAtom) rfl) fun hl46 => s_q (.bool (decide ((i_24:Int) < (a_1.length:Int)))) rfl rfl rfl<|dk<|w_condt rfl hq42<|w_skip<|k_seq<|awp_seq<|w_blk<|w_reg<|?_
   obtain ⟨r_47,er48,hc1⟩:=ob hc1
   obtain ⟨g49,hc1⟩:=og hc1
   obtain ⟨x_50,ex51,hc1⟩:=ob hc1
   refine s_mov (.own 0 0 out_25.length) rfl<|s_mov (.int .i64 (i_24:Int)) rfl<|s_mov (.lst 3 (a_1.map encGAtom)) rfl<|s_mov (.int .i64 (i_24:Int)) rfl<|s_do (o_iaddrn (enc:=encGAtom) rfl rfl hx39)<|s_q (encGAtom x_44) rfl nle rfl<|s_do (o_call (w_laws_toAtom _ _ er48) rfl (.refl _) rfl)<|s_do (o_iaddrownn rfl rfl g49 rfl rfl)<|?_;refine s_do0 (o_storerow (v':=(encGAtom r_47)) (e':=r_47) rfl rfl ex51 rfl rfl rfl (by decide) (fun _ => by decide) ⟨rfl,nle⟩ (.refl _) rfl) ?_;refine w_done<|k_blk<|k_seq<|w_reg<|s_mov (.int .i64 (i_24:Int)) rfl<|s_q (.int .i64 (w64 ((i_24:Int) + 1))) rfl rfl rfl<|s_mov (.int .i64 (w64 ((i_24:Int) + 1))) rfl<|w_done<|?_;exact k_loopn ⟨((i_24 + 1),out_25.set i_24 r_47),hc1⟩ (mul hlt38) ⟨[],[0],_,_,rfl,rfl,⟨.refl _,⟨.of_eq (congrArg (AV.own _ 0) (by simp)),⟨.of_eq (congrArg (AV.int _) (w64_incr hlt38 hl46)),trivial⟩⟩⟩,(.refl _)⟩
 ·refine sr<|s_mov (.own 0 0 out_36.length) rfl<|s_mov (.own 0 0 out_36.length) rfl<|dk<|w_ret<|?_;obtain rfl:=os hf;exact r_fresh ⟨trivial,trivial⟩ rfl (by decide) (.of_eq (congrArg (AV.lst _) (tk (enc:=encGAtom) out_36)))

/- laws.toCond -/
def c77:ACode :=
 (.seq (.reg (tq 1 (.box 3 (.t 0)) (tq 2 (.box 3 (.c (.agg [(.str []),(.int .i64 0),.nil]))) .done)))
 (.seq (.reg (tq 3 (.box 3 (.c (.agg [(.str []),(.int .i64 0),.nil]))) .done))
 (.seq (.reg (tq 4 (.faddr 0 (.t 1)) (tq 5 (.load 1 false (.t 4)) (tq 6 (.faddr 0 (.t 3)) (.q ⟨none,none,.store 1 (.t 6) (.t 5)⟩
 .done)))))
 (.seq (.reg (tq 7 (.faddr 1 (.t 1)) (tq 8 (.load 1 false (.t 7)) (tq 9 (.faddr 1 (.t 3)) (.q ⟨none,none,.store 1 (.t 9) (.t 8)⟩
 .done)))))
 (.seq (.reg (tq 10 (.faddr 2 (.t 1)) (tq 11 (.load 1 false (.t 10)) (tq 12 (.call 129 [(.t 11)]) (tq 13 (.faddr 2 (.t 3)) (.q ⟨none,none,.store 1 (.t 13) (.t 12)⟩
 .done))))))
 (.seq (.reg (tq 14 (.load 3 true (.t 3)) (.q ⟨none,none,.store 3 (.t 2) (.t 14)⟩
 .done)))
 .ret))))))
theorem fc77:fcomp Tryz.prog Tryz.f77 = some (c77.erase,[.load 3 true (.t 2)],15):=by kernel_rfl
def laws_toCond (a_1:GCond):Option GCond :=
    (laws_toAtomS a_1.Value).bind fun r_2 =>
    some (⟨a_1.Column,a_1.Func,r_2⟩:GCond)
theorem w_laws_toCond (a_1:GCond) (r:GCond) (hf:laws_toCond a_1 = some r):CallOK Tryz.prog 77 .fresh [(encGCond a_1)] (encGCond r):=by
 refine CallOK.of_awp mixed Tryz.func77 fc77 nle ?_;rw [argT_eq];unfold laws_toCond at hf;unfold c77;refine (show awp Tryz.prog true 0 _ (ofL [(0,(encGCond a_1))]) [] _ from ?_);refine sr<|s_do (o_box (j:=0) (c:=(.agg [(.str a_1.Column),(.int .i64 a_1.Func),(.lst 3 (a_1.Value.map encGAtom))])) rfl trivial rfl rfl)<|s_do (o_box (j:=1) (c:=(.agg [(.str []),(.int .i64 0),.nil])) rfl trivial rfl rfl)<|dk<|sr<|s_do (o_box (j:=2) (c:=(.agg [(.str []),(.int .i64 0),.nil])) rfl trivial rfl rfl)<|dk<|sr<|s_q (.ptr 0 0 0) rfl trivial rfl<|s_q (.str a_1.Column) rfl nle rfl<|s_q (.ptr 2 0 0) rfl trivial rfl<|s_do0 (o_storebox (v:=(.str a_1.Column)) (y':=(.agg [(.str a_1.Column),(.int .i64 0),.nil])) rfl rfl rfl trivial ⟨rfl,nle⟩ ⟨⟨rfl,trivial⟩,trivial⟩ rfl)<|?_
 refine dk<|sr<|s_q (.ptr 0 0 1) rfl trivial rfl<|s_q (.int .i64 a_1.Func) rfl nle rfl<|s_q (.ptr 2 0 1) rfl trivial rfl<|s_do0 (o_storebox (v:=(.int .i64 a_1.Func)) (y':=(.agg [(.str a_1.Column),(.int .i64 a_1.Func),.nil])) rfl rfl rfl trivial ⟨rfl,nle⟩ ⟨⟨rfl,trivial⟩,trivial⟩ rfl)<|dk<|sr<|?_
 obtain ⟨r_2,er3,hf⟩:=ob hf
 refine s_q (.ptr 0 0 2) rfl trivial rfl<|s_q (.lst 3 (a_1.Value.map encGAtom)) rfl nle rfl<|s_do (o_callf (v:=(.own 3 0 r_2.length)) (h':=[.row 3 (r_2.map encGAtom)]) (w_laws_toAtomS _ _ er3) rfl (.refl _) (by simp only [openV,openVs,List.length_map,List.nil_append,List.append_nil,List.cons_append];rfl))<|s_q (.ptr 2 0 2) rfl trivial rfl<|s_do0 (o_storebox (v:=(.own 3 0 r_2.length)) (y':=(.agg [(.str a_1.Column),(.int .i64 a_1.Func),(.own 3 0 r_2.length)])) rfl rfl rfl trivial ⟨rfl,nle⟩ ⟨⟨rfl,trivial⟩,trivial⟩ rfl)<|dk<|sr<|s_q (.agg [(.str a_1.Column),(.int .i64 a_1.Func),(.own 3 0 r_2.length)]) rfl nle rfl<|s_do0 (o_storebox (v:=(.agg [(.str a_1.Column),(.int .i64 a_1.Func),(.own 3 0 r_2.length)])) (y':=(.agg [(.str a_1.Column),(.int .i64 a_1.Func),(.own 3 0 r_2.length)])) rfl rfl rfl trivial ⟨rfl,nle⟩ ⟨⟨rfl,trivial⟩,⟨⟨rfl,trivial⟩,⟨⟨rfl,trivial⟩,trivial⟩⟩⟩ rfl)<|?_
 refine dk<|w_ret<|?_;obtain rfl:=os hf;exact r_fresh ⟨nle,trivial⟩ rfl (by decide) (.agg (.cons (.refl _) (.cons (.refl _) (.cons (.of_eq (congrArg (AV.lst _) (tk (enc:=encGAtom) r_2))) .nil))))

/- laws.toCondS -/
def c35:ACode :=
 (.seq (.reg (tm 2 (.c .nil) .done))
 (.seq (.reg (tm 5 (.t 0) (tq 6 (.len (.t 5)) (tq 7 (.mkslice 3 48 (.agg [(.str []),(.int .i64 0),.nil]) (.t 6) (.t 6)) (tm 3 (.t 7) .done)))))
 (.seq (.seq (.reg (tm 4 (.c (.int .i64 0)) .done))
 (.block 0 (.loop (.seq (.seq (.reg (tm 8 (.t 4) (tm 9 (.t 0) (tq 10 (.len (.t 9)) (tq 11 (.bin .lss (.t 8) (.t 10)) .done)))))
 (.cond (.t 11) .skip
 (.exit 0)))
 (.seq (.block 1 (.reg (tm 14 (.t 3) (tm 15 (.t 4) (tm 16 (.t 0) (tm 17 (.t 4) (tq 18 (.iaddr 3 (.t 16) (.t 17)) (tq 19 (.load 3 true (.t 18)) (tq 20 (.call 77 [(.t 19)]) (tq 21 (.iaddr 3 (.t 14) (.t 15)) (.q ⟨none,none,.store 3 (.t 21) (.t 20)⟩
 .done)))))))))))
 (.reg (tm 12 (.t 4) (tq 13 (.bin .add (.t 12) (.c (.int .i64 1))) (tm 4 (.t 13) .done)))))))))
 (.cut (.seq (.reg (tm 22 (.t 3) (tm 2 (.t 22) .done)))
 .ret)))))
theorem fc35:fcomp Tryz.prog Tryz.f35 = some (c35.erase,[.mov (.t 2)],23):=by kernel_rfl
def laws_toCondS_L1 :List GCond → Nat → (List GCond) → Option (List GCond)
  | [],i_24,out_25 =>
    some out_25
  | x_44 :: xs,i_24,out_25 =>
    (laws_toCond x_44).bind fun r_47 =>
    if i_24 < out_25.length then
    (out_25[i_24]?).bind fun x_50 =>
    laws_toCondS_L1 xs (i_24 + 1) (out_25.set i_24 r_47)
    else none

def laws_toCondS (a_1:(List GCond)):Option (List GCond) :=
    if (a_1.length:Int) ≤ 2 ^ 30 then
    (laws_toCondS_L1 a_1 0 (List.replicate a_1.length (⟨[],0,[]⟩:GCond))).bind fun out_36 =>
    some out_36
    else none
theorem w_laws_toCondS (a_1:(List GCond)) (r:(List GCond)) (hf:laws_toCondS a_1 = some r):CallOK Tryz.prog 35 .fresh [(.lst 3 (a_1.map encGCond))] (.lst 3 (r.map encGCond)):=by
 refine CallOK.of_awp mixed Tryz.func35 fc35 nle ?_;rw [argT_eq];unfold laws_toCondS at hf;unfold c35;refine (show awp Tryz.prog true 0 _ (ofL [(0,(.lst 3 (a_1.map encGCond)))]) [] _ from ?_);refine sr<|s_mov .nil rfl<|dk<|sr<|?_
 obtain ⟨g3,hf⟩:=og hf
 refine s_mov (.lst 3 (a_1.map encGCond)) rfl<|s_dof (o_len (enc:=encGCond) rfl) fun hl2 => s_do (o_mkslice (j:=0) (enc:=encGCond) (m:=a_1.length) (⟨[],0,[]⟩:GCond) (.agg (.cons (.refl _) (.cons (.refl _) (.cons (.nil _) .nil)))) rfl rfl (Int.le_refl _) g3 rfl)<|s_mov (.own 0 0 a_1.length) rfl<|dk<|awp_seq<|sr<|s_mov (.int .i64 0) rfl<|dk<|?_
 obtain ⟨out_36,hb1,hf⟩:=ob hf
 refine awp_cut ([(3,(.own 0 0 out_36.length))],[.row 3 (out_36.map encGCond)]) ?_ ?_
 ·refine awp_loop (X:={q:(Nat × (List GCond)) // laws_toCondS_L1 (a_1.drop q.1) q.1 q.2 = some out_36}) (fun q => ([(0,(.lst 3 (a_1.map encGCond))),(3,(.own 0 0 q.1.2.length)),(4,(.int .i64 (q.1.1:Int)))],[.row 3 (q.1.2.map encGCond)])) (fun q => a_1.length - q.1.1) ⟨(0,List.replicate a_1.length (⟨[],0,[]⟩:GCond)),hb1⟩ ⟨[],[0],_,_,rfl,rfl,⟨.refl _,⟨.of_eq (congrArg (AV.own _ 0) (by simp)),⟨.refl _,trivial⟩⟩⟩,(.refl _)⟩ ?_
  rintro ⟨⟨i_24,out_25⟩,hc1⟩
  have hc1:laws_toCondS_L1 (a_1.drop i_24) i_24 out_25 = some out_36:=hc1
  refine (show awp Tryz.prog true 0 _ (ofL [(0,(.lst 3 (a_1.map encGCond))),(3,(.own 0 0 out_25.length)),(4,(.int .i64 (i_24:Int)))]) [.row 3 (out_25.map encGCond)] _ from ?_)
  rcases dropc a_1 i_24 with ⟨hie40,hd43⟩ | ⟨hlt38,x_44,hx39,hd43⟩
  ·rw [hd43,laws_toCondS_L1.eq_1] at hc1
   have hq42:=dlf hie40
   refine awp_seq<|sr<|s_mov (.int .i64 (i_24:Int)) rfl<|s_mov (.lst 3 (a_1.map encGCond)) rfl<|s_dof (o_len (enc:=encGCond) rfl) fun hl45 => s_q (.bool (decide ((i_24:Int) < (a_1.length:Int)))) rfl rfl rfl<|dk<|w_condf rfl hq42<|w_exit<|k_seqx<|k_loopx<|k_blkx<|?_;obtain rfl:=os hc1;exact ⟨[],[0],_,_,rfl,rfl,⟨.refl _,trivial⟩,(.refl _)⟩
  ·rw [hd43,laws_toCondS_L1.eq_2] at hc1
   have hq42:=dlt hlt38
   refine awp_seq<|sr<|s_mov (.int .i64 (i_24:Int)) rfl<|s_mov (.lst 3 (a_1.map encGCond)) rfl<|s_dof (o_len (enc:=encGCond) rfl) fun hl46 => s_q (.bool (decide ((i_24:Int) < (a_1.length:Int)))) rfl rfl rfl<|dk<|w_condt rfl hq42<|w_skip<|k_seq<|awp_seq<|w_blk<|w_reg<|?_
   obtain ⟨r_47,er48,hc1⟩:=ob hc1
   obtain ⟨g49,hc1⟩:=og hc1
   obtain ⟨x_50,ex51,hc1⟩:=ob hc1
   refine s_mov (.own 0 0 out_25.length) rfl<|s_mov (.int .i64 (i_24:Int)) rfl<|s_mov (.lst 3 (a_1.map encGCond)) rfl<|s_mov (.int .i64 (i_24:Int)) rfl<|s_do (o_iaddrn (enc:=encGCond) rfl rfl hx39)<|s_q (encGCond x_44) rfl nle rfl<|s_do (o_callf (v:=(.agg [(.str r_47.Column),(.int .i64 r_47.Func),(.own 1 0 r_47.Value.length)])) (h':=[.row 3 (r_47.Value.map encGAtom)]) (w_laws_toCond _ _ er48) rfl (.refl _) (by simp only [openV,openVs,List.length_map,encGCond_eq,List.nil_append,List.append_nil,List.cons_append];rfl))<|s_do (o_iaddrownn rfl rfl g49 rfl rfl)<|?_;refine s_do0 (o_storerow (v':=(.agg [(.str r_47.Column),(.int .i64 r_47.Func),(.lst 3 (r_47.Value.map encGAtom))])) (e':=r_47) rfl rfl ex51 rfl rfl (by simp only [tk,tko,List.take_length]) (by decide) (fun _ => by decide) ⟨rfl,nle⟩ (.refl _) rfl) ?_
   refine w_done<|k_blk<|k_seq<|w_reg<|s_mov (.int .i64 (i_24:Int)) rfl<|s_q (.int .i64 (w64 ((i_24:Int) + 1))) rfl rfl rfl<|s_mov (.int .i64 (w64 ((i_24:Int) + 1))) rfl<|w_done<|?_;exact k_loopn ⟨((i_24 + 1),out_25.set i_24 r_47),hc1⟩ (mul hlt38) ⟨[],[0],_,_,rfl,rfl,⟨.refl _,⟨.of_eq (congrArg (AV.own _ 0) (by simp)),⟨.of_eq (congrArg (AV.int _) (w64_incr hlt38 hl46)),trivial⟩⟩⟩,(.refl _)⟩
 ·refine sr<|s_mov (.own 0 0 out_36.length) rfl<|s_mov (.own 0 0 out_36.length) rfl<|dk<|w_ret<|?_;obtain rfl:=os hf;exact r_fresh ⟨trivial,trivial⟩ rfl (by decide) (.of_eq (congrArg (AV.lst _) (tk (enc:=encGCond) out_36)))

/- laws.toStringS -/
def c38:ACode :=
 (.seq (.reg (tm 2 (.c .nil) .done))
 (.seq (.reg (tm 5 (.t 0) (tq 6 (.len (.t 5)) (tq 7 (.mkslice 1 16 (.str []) (.t 6) (.t 6)) (tm 3 (.t 7) .done)))))
 (.seq (.seq (.reg (tm 4 (.c (.int .i64 0)) .done))
 (.block 0 (.loop (.seq (.seq (.reg (tm 8 (.t 4) (tm 9 (.t 0) (tq 10 (.len (.t 9)) (tq 11 (.bin .lss (.t 8) (.t 10)) .done)))))
 (.cond (.t 11) .skip
 (.exit 0)))
 (.seq (.block 1 (.reg (tm 14 (.t 3) (tm 15 (.t 4) (tm 16 (.t 0) (tm 17 (.t 4) (tq 18 (.iaddr 1 (.t 16) (.t 17)) (tq 19 (.load 1 false (.t 18)) (tq 20 (.iaddr 1 (.t 14) (.t 15)) (.q ⟨none,none,.store 1 (.t 20) (.t 19)⟩
 .done))))))))))
 (.reg (tm 12 (.t 4) (tq 13 (.bin .add (.t 12) (.c (.int .i64 1))) (tm 4 (.t 13) .done)))))))))
 (.cut (.seq (.reg (tm 21 (.t 3) (tm 2 (.t 21) .done)))
 .ret)))))
theorem fc38:fcomp Tryz.prog Tryz.f38 = some (c38.erase,[.mov (.t 2)],22):=by kernel_rfl
def laws_toStringS_L1 :List Str → Nat → (List Str) → Option (List Str)
  | [],i_20,out_21 =>
    some out_21
  | x_38 :: xs,i_20,out_21 =>
    if i_20 < out_21.length then
    (out_21[i_20]?).bind fun x_42 =>
    laws_toStringS_L1 xs (i_20 + 1) (out_21.set i_20 x_38)
    else none

def laws_toStringS (a_1:(List Str)):Option (List Str) :=
    if (a_1.length:Int) ≤ 2 ^ 30 then
    (laws_toStringS_L1 a_1 0 (List.replicate a_1.length [])).bind fun out_30 =>
    some out_30
    else none
theorem w_laws_toStringS (a_1:(List Str)) (r:(List Str)) (hf:laws_toStringS a_1 = some r):CallOK Tryz.prog 38 .fresh [(.lst 1 (a_1.map AV.str))] (.lst 1 (r.map AV.str)):=by
 refine CallOK.of_awp mixed Tryz.func38 fc38 nle ?_;rw [argT_eq];unfold laws_toStringS at hf;unfold c38;refine (show awp Tryz.prog true 0 _ (ofL [(0,(.lst 1 (a_1.map AV.str)))]) [] _ from ?_);refine sr<|s_mov .nil rfl<|dk<|sr<|?_
 obtain ⟨g3,hf⟩:=og hf
 refine s_mov (.lst 1 (a_1.map AV.str)) rfl<|s_dof (o_len (enc:=AV.str) rfl) fun hl2 => s_do (o_mkslice (j:=0) (enc:=AV.str) (m:=a_1.length) [] (.refl _) rfl rfl (Int.le_refl _) g3 rfl)<|s_mov (.own 0 0 a_1.length) rfl<|dk<|awp_seq<|sr<|s_mov (.int .i64 0) rfl<|dk<|?_
 obtain ⟨out_30,hb1,hf⟩:=ob hf
 refine awp_cut ([(3,(.own 0 0 out_30.length))],[.row 1 (out_30.map AV.str)]) ?_ ?_
 ·refine awp_loop (X:={q:(Nat × (List Str)) // laws_toStringS_L1 (a_1.drop q.1) q.1 q.2 = some out_30}) (fun q => ([(0,(.lst 1 (a_1.map AV.str))),(3,(.own 0 0 q.1.2.length)),(4,(.int .i64 (q.1.1:Int)))],[.row 1 (q.1.2.map AV.str)])) (fun q => a_1.length - q.1.1) ⟨(0,List.replicate a_1.length []),hb1⟩ ⟨[],[0],_,_,rfl,rfl,⟨.refl _,⟨.of_eq (congrArg (AV.own _ 0) (by simp)),⟨.refl _,trivial⟩⟩⟩,(.refl _)⟩ ?_
  rintro ⟨⟨i_20,out_21⟩,hc1⟩
  have hc1:laws_toStringS_L1 (a_1.drop i_20) i_20 out_21 = some out_30:=hc1
  refine (show awp Tryz.prog true 0 _ (ofL [(0,(.lst 1 (a_1.map AV.str))),(3,(.own 0 0 out_21.length)),(4,(.int .i64 (i_20:Int)))]) [.row 1 (out_21.map AV.str)] _ from ?_)
  rcases dropc a_1 i_20 with ⟨hie34,hd37⟩ | ⟨hlt32,x_38,hx33,hd37⟩
  ·rw [hd37,laws_toStringS_L1.eq_1] at hc1
   have hq36:=dlf hie34
   refine awp_seq<|sr<|s_mov (.int .i64 (i_20:Int)) rfl<|s_mov (.lst 1 (a_1.map AV.str)) rfl<|s_dof (o_len (enc:=AV.str) rfl) fun hl39 => s_q (.bool (decide ((i_20:Int) < (a_1.length:Int)))) rfl rfl rfl<|dk<|w_condf rfl hq36<|w_exit<|k_seqx<|k_loopx<|k_blkx<|?_;obtain rfl:=os hc1;exact ⟨[],[0],_,_,rfl,rfl,⟨.refl _,trivial⟩,(.refl _)⟩
  ·rw [hd37,laws_toStringS_L1.eq_2] at hc1
   have hq36:=dlt hlt32
   refine awp_seq<|sr<|s_mov (.int .i64 (i_20:Int)) rfl<|s_mov (.lst 1 (a_1.map AV.str)) rfl<|s_dof (o_len (enc:=AV.str) rfl) fun hl40 => s_q (.bool (decide ((i_20:Int) < (a_1.length:Int)))) rfl rfl rfl<|dk<|w_condt rfl hq36<|w_skip<|k_seq<|awp_seq<|w_blk<|w_reg<|?_
   obtain ⟨g41,hc1⟩:=og hc1
   obtain ⟨x_42,ex43,hc1⟩:=ob hc1
   refine s_mov (.own 0 0 out_21.length) rfl<|s_mov (.int .i64 (i_20:Int)) rfl<|s_mov (.lst 1 (a_1.map AV.str)) rfl<|s_mov (.int .i64 (i_20:Int)) rfl<|s_do (o_iaddrn (enc:=AV.str) rfl rfl hx33)<|s_q (.str x_38) rfl ⟨rfl,rfl⟩ rfl<|s_do (o_iaddrownn rfl rfl g41 rfl rfl)<|?_;refine s_do0 (o_storerow (v':=(.str x_38)) (e':=x_38) rfl rfl ex43 rfl rfl rfl (by decide) (fun _ => by decide) ⟨rfl,rfl,rfl⟩ (.refl _) rfl) ?_;refine w_done<|k_blk<|k_seq<|w_reg<|s_mov (.int .i64 (i_20:Int)) rfl<|s_q (.int .i64 (w64 ((i_20:Int) + 1))) rfl rfl rfl<|s_mov (.int .i64 (w64 ((i_20:Int) + 1))) rfl<|w_done<|?_;exact k_loopn ⟨((i_20 + 1),out_21.set i_20 x_38),hc1⟩ (mul hlt32) ⟨[],[0],_,_,rfl,rfl,⟨.refl _,⟨.of_eq (congrArg (AV.own _ 0) (by simp)),⟨.of_eq (congrArg (AV.int _) (w64_incr hlt32 hl40)),trivial⟩⟩⟩,(.refl _)⟩
 ·refine sr<|s_mov (.own 0 0 out_30.length) rfl<|s_mov (.own 0 0 out_30.length) rfl<|dk<|w_ret<|?_;obtain rfl:=os hf;exact r_fresh ⟨trivial,trivial⟩ rfl (by decide) (.of_eq (congrArg (AV.lst _) (tk (enc:=AV.str) out_30)))

/- laws.toSet -/
def c78:ACode :=
 (.seq (.reg (tq 1 (.box 3 (.t 0)) (tq 2 (.box 3 (.c (.agg [(.str []),.nil,.nil]))) .done)))
 (.seq (.reg (tq 3 (.box 3 (.c (.agg [(.str []),.nil,.nil]))) .done))
 (.seq (.reg (tq 4 (.faddr 0 (.t 1)) (tq 5 (.load 1 false (.t 4)) (tq 6 (.faddr 0 (.t 3)) (.q ⟨none,none,.store 1 (.t 6) (.t 5)⟩
 .done)))))
 (.seq (.reg (tq 7 (.faddr 1 (.t 1)) (tq 8 (.load 1 false (.t 7)) (tq 9 (.call 129 [(.t 8)]) (tq 10 (.faddr 1 (.t 3)) (.q ⟨none,none,.store 1 (.t 10) (.t 9)⟩
 .done))))))
 (.seq (.reg (tq 11 (.faddr 2 (.t 1)) (tq 12 (.load 1 false (.t 11)) (tq 13 (.call 38 [(.t 12)]) (tq 14 (.faddr 2 (.t 3)) (.q ⟨none,none,.store 1 (.t 14) (.t 13)⟩
 .done))))))
 (.seq (.reg (tq 15 (.load 3 true (.t 3)) (.q ⟨none,none,.store 3 (.t 2) (.t 15)⟩
 .done)))
 .ret))))))
theorem fc78:fcomp Tryz.prog Tryz.f78 = some (c78.erase,[.load 3 true (.t 2)],16):=by kernel_rfl
def laws_toSet (a_1:GSet):Option GSet :=
    (laws_toAtomS a_1.Value).bind fun r_2 =>
    (laws_toStringS a_1.Names).bind fun r_4 =>
    some (⟨a_1.Column,r_2,r_4⟩:GSet)
theorem w_laws_toSet (a_1:GSet) (r:GSet) (hf:laws_toSet a_1 = some r):CallOK Tryz.prog 78 .fresh [(encGSet a_1)] (encGSet r):=by
 refine CallOK.of_awp mixed Tryz.func78 fc78 nle ?_;rw [argT_eq];unfold laws_toSet at hf;unfold c78;refine (show awp Tryz.prog true 0 _ (ofL [(0,(encGSet a_1))]) [] _ from ?_);refine sr<|s_do (o_box (j:=0) (c:=(.agg [(.str a_1.Column),(.lst 3 (a_1.Value.map encGAtom)),(.lst 1 (a_1.Names.map AV.str))])) rfl trivial rfl rfl)<|s_do (o_box (j:=1) (c:=(.agg [(.str []),.nil,.nil])) rfl trivial rfl rfl)<|dk<|sr<|s_do (o_box (j:=2) (c:=(.agg [(.str []),.nil,.nil])) rfl trivial rfl rfl)<|dk<|sr<|s_q (.ptr 0 0 0) rfl trivial rfl<|s_q (.str a_1.Column) rfl nle rfl<|s_q (.ptr 2 0 0) rfl trivial rfl<|s_do0 (o_storebox (v:=(.str a_1.Column)) (y':=(.agg [(.str a_1.Column),.nil,.nil])) rfl rfl rfl trivial ⟨rfl,nle⟩ ⟨⟨rfl,trivial⟩,trivial⟩ rfl)<|?_
 refine dk<|sr<|?_
 obtain ⟨r_2,er3,hf⟩:=ob hf
 refine s_q (.ptr 0 0 1) rfl trivial rfl<|s_q (.lst 3 (a_1.Value.map encGAtom)) rfl nle rfl<|s_do (o_callf (v:=(.own 3 0 r_2.length)) (h':=[.row 3 (r_2.map encGAtom)]) (w_laws_toAtomS _ _ er3) rfl (.refl _) (by simp only [openV,openVs,List.length_map,List.nil_append,List.append_nil,List.cons_append];rfl))<|s_q (.ptr 2 0 1) rfl trivial rfl<|s_do0 (o_storebox (v:=(.own 3 0 r_2.length)) (y':=(.agg [(.str a_1.Column),(.own 3 0 r_2.length),.nil])) rfl rfl rfl trivial ⟨rfl,nle⟩ ⟨⟨rfl,trivial⟩,trivial⟩ rfl)<|dk<|sr<|?_
 obtain ⟨r_4,er5,hf⟩:=ob hf
 refine s_q (.ptr 0 0 2) rfl trivial rfl<|s_q (.lst 1 (a_1.Names.map AV.str)) rfl nle rfl<|s_do (o_callf (v:=(.own 4 0 r_4.length)) (h':=[.row 1 (r_4.map AV.str)]) (w_laws_toStringS _ _ er5) rfl (.refl _) (by simp only [openV,openVs,List.length_map,List.nil_append,List.append_nil,List.cons_append];rfl))<|s_q (.ptr 2 0 2) rfl trivial rfl<|s_do0 (o_storebox (v:=(.own 4 0 r_4.length)) (y':=(.agg [(.str a_1.Column),(.own 3 0 r_2.length),(.own 4 0 r_4.length)])) rfl rfl rfl trivial ⟨rfl,nle⟩ ⟨⟨rfl,trivial⟩,trivial⟩ rfl)<|dk<|sr<|s_q (.agg [(.str a_1.Column),(.own 3 0 r_2.length),(.own 4 0 r_4.length)]) rfl nle rfl<|s_do0 (o_storebox (v:=(.agg [(.str a_1.Column),(.own 3 0 r_2.length),(.own 4 0 r_4.length)])) (y':=(.agg [(.str a_1.Column),(.own 3 0 r_2.length),(.own 4 0 r_4.length)])) rfl rfl rfl trivial ⟨rfl,nle⟩ ⟨⟨rfl,trivial⟩,⟨⟨rfl,trivial⟩,⟨⟨rfl,trivial⟩,trivial⟩⟩⟩ rfl)<|?_
 refine dk<|w_ret<|?_;obtain rfl:=os hf;exact r_fresh ⟨nle,trivial⟩ rfl (by decide) (.agg (.cons (.refl _) (.cons (.of_eq (congrArg (AV.lst _) (tk (enc:=encGAtom) r_2))) (.cons (.of_eq (congrArg (AV.lst _) (tk (enc:=AV.str) r_4))) .nil))))

/- laws.toSetS -/
def c36:ACode :=
 (.seq (.reg (tm 2 (.c .nil) .done))
 (.seq (.reg (tm 5 (.t 0) (tq 6 (.len (.t 5)) (tq 7 (.mkslice 3 64 (.agg [(.str []),.nil,.nil]) (.t 6) (.t 6)) (tm 3 (.t 7) .done)))))
 (.seq (.seq (.reg (tm 4 (.c (.int .i64 0)) .done))
 (.block 0 (.loop (.seq (.seq (.reg (tm 8 (.t 4) (tm 9 (.t 0) (tq 10 (.len (.t 9)) (tq 11 (.bin .lss (.t 8) (.t 10)) .done)))))
 (.cond (.t 11) .skip
 (.exit 0)))
 (.seq (.block 1 (.reg (tm 14 (.t 3) (tm 15 (.t 4) (tm 16 (.t 0) (tm 17 (.t 4) (tq 18 (.iaddr 3 (.t 16) (.t 17)) (tq 19 (.load 3 true (.t 18)) (tq 20 (.call 78 [(.t 19)]) (tq 21 (.iaddr 3 (.t 14) (.t 15)) (.q ⟨none,none,.store 3 (.t 21) (.t 20)⟩
 .done)))))))))))
 (.reg (tm 12 (.t 4) (tq 13 (.bin .add (.t 12) (.c (.int .i64 1))) (tm 4 (.t 13) .done)))))))))
 (.cut (.seq (.reg (tm 22 (.t 3) (tm 2 (.t 22) .done)))
 .ret)))))
theorem fc36:fcomp Tryz.prog Tryz.f36 = some (c36.erase,[.mov (.t 2)],23):=by kernel_rfl
def laws_toSetS_L1 :List GSet → Nat → (List GSet) → Option (List GSet)
  | [],i_24,out_25 =>
    some out_25
  | x_44 :: xs,i_24,out_25 =>
    (laws_toSet x_44).bind fun r_47 =>
    if i_24 < out_25.length then
    (out_25[i_24]?).bind fun x_50 =>
    laws_toSetS_L1 xs (i_24 + 1) (out_25.set i_24 r_47)
    else none

def laws_toSetS (a_1:(List GSet)):Option (List GSet) :=
    if (a_1.length:Int) ≤ 2 ^ 30 then
    (laws_toSetS_L1 a_1 0 (List.replicate a_1.length (⟨[],[],[]⟩:GSet))).bind fun out_36 =>
    some out_36
    else none
theorem w_laws_toSetS (a_1:(List GSet)) (r:(List GSet)) (hf:laws_toSetS a_1 = some r):CallOK Tryz.prog 36 .fresh [(.lst 3 (a_1.map encGSet))] (.lst 3 (r.map encGSet)):=by
 refine CallOK.of_awp mixed Tryz.func36 fc36 nle ?_;rw [argT_eq];unfold laws_toSetS at hf;unfold c36;refine (show awp Tryz.prog true 0 _ (ofL [(0,(.lst 3 (a_1.map encGSet)))]) [] _ from ?_);refine sr<|s_mov .nil rfl<|dk<|sr<|?_
 obtain ⟨g3,hf⟩:=og hf
 refine s_mov (.lst 3 (a_1.map encGSet)) rfl<|s_dof (o_len (enc:=encGSet) rfl) fun hl2 => s_do (o_mkslice (j:=0) (enc:=encGSet) (m:=a_1.length) (⟨[],[],[]⟩:GSet) (.agg (.cons (.refl _) (.cons (.nil _) (.cons (.nil _) .nil)))) rfl rfl (Int.le_refl _) g3 rfl)<|s_mov (.own 0 0 a_1.length) rfl<|dk<|awp_seq<|sr<|s_mov (.int .i64 0) rfl<|dk<|?_
 obtain ⟨out_36,hb1,hf⟩:=ob hf
 refine awp_cut ([(3,(.own 0 0 out_36.length))],[.row 3 (out_36.map encGSet)]) ?_ ?_
 ·refine awp_loop (X:={q:(Nat × (List GSet)) // laws_toSetS_L1 (a_1.drop q.1) q.1 q.2 = some out_36}) (fun q => ([(0,(.lst 3 (a_1.map encGSet))),(3,(.own 0 0 q.1.2.length)),(4,(.int .i64 (q.1.1:Int)))],[.row 3 (q.1.2.map encGSet)])) (fun q => a_1.length - q.1.1) ⟨(0,List.replicate a_1.length (⟨[],[],[]⟩:GSet)),hb1⟩ ⟨[],[0],_,_,rfl,rfl,⟨.refl _,⟨.of_eq (congrArg (AV.own _ 0) (by simp)),⟨.refl _,trivial⟩⟩⟩,(.refl _)⟩ ?_
  rintro ⟨⟨i_24,out_25⟩,hc1⟩
  have hc1:laws_toSetS_L1 (a_1.drop i_24) i_24 out_25 = some out_36:=hc1
  refine (show awp Tryz.prog true 0 _ (ofL [(0,(.lst 3 (a_1.map encGSet))),(3,(.own 0 0 out_25.length)),(4,(.int .i64 (i_24:Int)))]) [.row 3 (out_25.map encGSet)] _ from ?_)
  rcases dropc a_1 i_24 with ⟨hie40,hd43⟩ | ⟨hlt38,x_44,hx39,hd43⟩
  ·rw [hd43,laws_toSetS_L1.eq_1] at hc1
   have hq42:=dlf hie40
   refine awp_seq<|sr<|s_mov (.int .i64 (i_24:Int)) rfl<|s_mov (.lst 3 (a_1.map encGSet)) rfl<|s_dof (o_len (enc:=encGSet) rfl) fun hl45 => s_q (.bool (decide ((i_24:Int) < (a_1.length:Int)))) rfl rfl rfl<|dk<|w_condf rfl hq42<|w_exit<|k_seqx<|k_loopx<|k_blkx<|?_;obtain rfl:=os hc1;exact ⟨[],[0],_,_,rfl,rfl,⟨.refl _,trivial⟩,(.refl _)⟩
  ·rw [hd43,laws_toSetS_L1.eq_2] at hc1
   have hq42:=dlt hlt38
   refine awp_seq<|sr<|s_mov (.int .i64 (i_24:Int)) rfl<|s_mov (.lst 3 (a_1.map encGSet)) rfl<|s_dof (o_len (enc:=encGSet) rfl) fun hl46 => s_q (.bool (decide ((i_24:Int) < (a_1.length:Int)))) rfl rfl rfl<|dk<|w_condt rfl hq42<|w_skip<|k_seq<|awp_seq<|w_blk<|w_reg<|?_
   obtain ⟨r_47,er48,hc1⟩:=ob hc1
   obtain ⟨g49,hc1⟩:=og hc1
   obtain ⟨x_50,ex51,hc1⟩:=ob hc1
   refine s_mov (.own 0 0 out_25.length) rfl<|s_mov (.int .i64 (i_24:Int)) rfl<|s_mov (.lst 3 (a_1.map encGSet)) rfl<|s_mov (.int .i64 (i_24:Int)) rfl<|s_do (o_iaddrn (enc:=encGSet) rfl rfl hx39)<|s_q (encGSet x_44) rfl nle rfl<|s_do (o_callf (v:=(.agg [(.str r_47.Column),(.own 1 0 r_47.Value.length),(.own 2 0 r_47.Names.length)])) (h':=[.row 3 (r_47.Value.map encGAtom),.row 1 (r_47.Names.map AV.str)]) (w_laws_toSet _ _ er48) rfl (.refl _) (by simp only [openV,openVs,List.length_map,encGSet_eq,List.nil_append,List.append_nil,List.cons_append];rfl))<|s_do (o_iaddrownn rfl rfl g49 rfl rfl)<|?_;refine s_do0 (o_storerow (v':=(.agg [(.str r_47.Column),(.lst 3 (r_47.Value.map encGAtom)),(.lst 1 (r_47.Names.map AV.str))])) (e':=r_47) rfl rfl ex51 rfl rfl (by simp only [tk,tko,List.take_length]) (by decide) (fun _ => by decide) ⟨rfl,nle⟩ (.refl _) rfl) ?_
   refine w_done<|k_blk<|k_seq<|w_reg<|s_mov (.int .i64 (i_24:Int)) rfl<|s_q (.int .i64 (w64 ((i_24:Int) + 1))) rfl rfl rfl<|s_mov (.int .i64 (w64 ((i_24:Int) + 1))) rfl<|w_done<|?_;exact k_loopn ⟨((i_24 + 1),out_25.set i_24 r_47),hc1⟩ (mul hlt38) ⟨[],[0],_,_,rfl,rfl,⟨.refl _,⟨.of_eq (congrArg (AV.own _ 0) (by simp)),⟨.of_eq (congrArg (AV.int _) (w64_incr hlt38 hl46)),trivial⟩⟩⟩,(.refl _)⟩
 ·refine sr<|s_mov (.own 0 0 out_36.length) rfl<|s_mov (.own 0 0 out_36.length) rfl<|dk<|w_ret<|?_;obtain rfl:=os hf;exact r_fresh ⟨trivial,trivial⟩ rfl (by decide) (.of_eq (congrArg (AV.lst _) (tk (enc:=encGSet) out_36)))

/- laws.toMut -/
def c79:ACode :=
 (.seq (.reg (tq 1 (.box 3 (.t 0)) (tq 2 (.box 3 (.c (.agg [(.str []),(.int .i64 0),.nil]))) .done)))
 (.seq (.reg (tq 3 (.box 3 (.c (.agg [(.str []),(.int .i64 0),.nil]))) .done))
 (.seq (.reg (tq 4 (.faddr 0 (.t 1)) (tq 5 (.load 1 false (.t 4)) (tq 6 (.faddr 0 (.t 3)) (.q ⟨none,none,.store 1 (.t 6) (.t 5)⟩
 .done)))))
 (.seq (.reg (tq 7 (.faddr 1 (.t 1)) (tq 8 (.load 1 false (.t 7)) (tq 9 (.faddr 1 (.t 3)) (.q ⟨none,none,.store 1 (.t 9) (.t 8)⟩
 .done)))))
 (.seq (.reg (tq 10 (.faddr 2 (.t 1)) (tq 11 (.load 1 false (.t 10)) (tq 12 (.call 129 [(.t 11)]) (tq 13 (.faddr 2 (.t 3)) (.q ⟨none,none,.store 1 (.t 13) (.t 12)⟩
 .done))))))
 (.seq (.reg (tq 14 (.load 3 true (.t 3)) (.q ⟨none,none,.store 3 (.t 2) (.t 14)⟩
 .done)))
 .ret))))))
theorem fc79:fcomp Tryz.prog Tryz.f79 = some (c79.erase,[.load 3 true (.t 2)],15):=by kernel_rfl
def laws_toMut (a_1:GMut):Option GMut :=
    (laws_toAtomS a_1.Value).bind fun r_2 =>
    some (⟨a_1.Column,a_1.Func,r_2⟩:GMut)
theorem w_laws_toMut (a_1:GMut) (r:GMut) (hf:laws_toMut a_1 = some r):CallOK Tryz.prog 79 .fresh [(encGMut a_1)] (encGMut r):=by
 refine CallOK.of_awp mixed Tryz.func79 fc79 nle ?_;rw [argT_eq];unfold laws_toMut at hf;unfold c79;refine (show awp Tryz.prog true 0 _ (ofL [(0,(encGMut a_1))]) [] _ from ?_);refine sr<|s_do (o_box (j:=0) (c:=(.agg [(.str a_1.Column),(.int .i64 a_1.Func),(.lst 3 (a_1.Value.map encGAtom))])) rfl trivial rfl rfl)<|s_do (o_box (j:=1) (c:=(.agg [(.str []),(.int .i64 0),.nil])) rfl trivial rfl rfl)<|dk<|sr<|s_do (o_box (j:=2) (c:=(.agg [(.str []),(.int .i64 0),.nil])) rfl trivial rfl rfl)<|dk<|sr<|s_q (.ptr 0 0 0) rfl trivial rfl<|s_q (.str a_1.Column) rfl nle rfl<|s_q (.ptr 2 0 0) rfl trivial rfl<|s_do0 (o_storebox (v:=(.str a_1.Column)) (y':=(.agg [(.str a_1.Column),(.int .i64 0),.nil])) rfl rfl rfl trivial ⟨rfl,nle⟩ ⟨⟨rfl,trivial⟩,trivial⟩ rfl)<|?_
 refine dk<|sr<|s_q (.ptr 0 0 1) rfl trivial rfl<|s_q (.int .i64 a_1.Func) rfl nle rfl<|s_q (.ptr 2 0 1) rfl trivial rfl<|s_do0 (o_storebox (v:=(.int .i64 a_1.Func)) (y':=(.agg [(.str a_1.Column),(.int .i64 a_1.Func),.nil])) rfl rfl rfl trivial ⟨rfl,nle⟩ ⟨⟨rfl,trivial⟩,trivial⟩ rfl)<|dk<|sr<|?_
 obtain ⟨r_2,er3,hf⟩:=ob hf
 refine s_q (.ptr 0 0 2) rfl trivial rfl<|s_q (.lst 3 (a_1.Value.map encGAtom)) rfl nle rfl<|s_do (o_callf (v:=(.own 3 0 r_2.length)) (h':=[.row 3 (r_2.map encGAtom)]) (w_laws_toAtomS _ _ er3) rfl (.refl _) (by simp only [openV,openVs,List.length_map,List.nil_append,List.append_nil,List.cons_append];rfl))<|s_q (.ptr 2 0 2) rfl trivial rfl<|s_do0 (o_storebox (v:=(.own 3 0 r_2.length)) (y':=(.agg [(.str a_1.Column),(.int .i64 a_1.Func),(.own 3 0 r_2.length)])) rfl rfl rfl trivial ⟨rfl,nle⟩ ⟨⟨rfl,trivial⟩,trivial⟩ rfl)<|dk<|sr<|s_q (.agg [(.str a_1.Column),(.int .i64 a_1.Func),(.own 3 0 r_2.length)]) rfl nle rfl<|s_do0 (o_storebox (v:=(.agg [(.str a_1.Column),(.int .i64 a_1.Func),(.own 3 0 r_2.length)])) (y':=(.agg [(.str a_1.Column),(.int .i64 a_1.Func),(.own 3 0 r_2.length)])) rfl rfl rfl trivial ⟨rfl,nle⟩ ⟨⟨rfl,trivial⟩,⟨⟨rfl,trivial⟩,⟨⟨rfl,trivial⟩,trivial⟩⟩⟩ rfl)<|?_
 refine dk<|w_ret<|?_;obtain rfl:=os hf;exact r_fresh ⟨nle,trivial⟩ rfl (by decide) (.agg (.cons (.refl _) (.cons (.refl _) (.cons (.of_eq (congrArg (AV.lst _) (tk (enc:=encGAtom) r_2))) .nil))))

/- laws.toMutS -/
def c37:ACode :=
 (.seq (.reg (tm 2 (.c .nil) .done))
 (.seq (.reg (tm 5 (.t 0) (tq 6 (.len (.t 5)) (tq 7 (.mkslice 3 48 (.agg [(.str []),(.int .i64 0),.nil]) (.t 6) (.t 6)) (tm 3 (.t 7) .done)))))
 (.seq (.seq (.reg (tm 4 (.c (.int .i64 0)) .done))
 (.block 0 (.loop (.seq (.seq (.reg (tm 8 (.t 4) (tm 9 (.t 0) (tq 10 (.len (.t 9)) (tq 11 (.bin .lss (.t 8) (.t 10)) .done)))))
 (.cond (.t 11) .skip
 (.exit 0)))
 (.seq (.block 1 (.reg (tm 14 (.t 3) (tm 15 (.t 4) (tm 16 (.t 0) (tm 17 (.t 4) (tq 18 (.iaddr 3 (.t 16) (.t 17)) (tq 19 (.load 3 true (.t 18)) (tq 20 (.call 79 [(.t 19)]) (tq 21 (.iaddr 3 (.t 14) (.t 15)) (.q ⟨none,none,.store 3 (.t 21) (.t 20)⟩
 .done)))))))))))
 (.reg (tm 12 (.t 4) (tq 13 (.bin .add (.t 12) (.c (.int .i64 1))) (tm 4 (.t 13) .done)))))))))
 (.cut (.seq (.reg (tm 22 (.t 3) (tm 2 (.t 22) .done)))
 .ret)))))
theorem fc37:fcomp Tryz.prog Tryz.f37 = some (c37.erase,[.mov (.t 2)],23):=by kernel_rfl
def laws_toMutS_L1 :List GMut → Nat → (List GMut) → Option (List GMut)
  | [],i_24,out_25 =>
    some out_25
  | x_44 :: xs,i_24,out_25 =>
    (laws_toMut x_44).bind fun r_47 =>
    if i_24 < out_25.length then
    (out_25[i_24]?).bind fun x_50 =>
    laws_toMutS_L1 xs (i_24 + 1) (out_25.set i_24 r_47)
    else none

def laws_toMutS (a_1:(List GMut)):Option (List GMut) :=
    if (a_1.length:Int) ≤ 2 ^ 30 then
    (laws_toMutS_L1 a_1 0 (List.replicate a_1.length (⟨[],0,[]⟩:GMut))).bind fun out_36 =>
    some out_36
    else none
theorem w_laws_toMutS (a_1:(List GMut)) (r:(List GMut)) (hf:laws_toMutS a_1 = some r):CallOK Tryz.prog 37 .fresh [(.lst 3 (a_1.map encGMut))] (.lst 3 (r.map encGMut)):=by
 refine CallOK.of_awp mixed Tryz.func37 fc37 nle ?_;rw [argT_eq];unfold laws_toMutS at hf;unfold c37;refine (show awp Tryz.prog true 0 _ (ofL [(0,(.lst 3 (a_1.map encGMut)))]) [] _ from ?_);refine sr<|s_mov .nil rfl<|dk<|sr<|?_
 obtain ⟨g3,hf⟩:=og hf
 refine s_mov (.lst 3 (a_1.map encGMut)) rfl<|s_dof (o_len (enc:=encGMut) rfl) fun hl2 => s_do (o_mkslice (j:=0) (enc:=encGMut) (m:=a_1.length) (⟨[],0,[]⟩:GMut) (.agg (.cons (.refl _) (.cons (.refl _) (.cons (.nil _) .nil)))) rfl rfl (Int.le_refl _) g3 rfl)<|s_mov (.own 0 0 a_1.length) rfl<|dk<|awp_seq<|sr<|s_mov (.int .i64 0) rfl<|dk<|?_
 obtain ⟨out_36,hb1,hf⟩:=ob hf
 refine awp_cut ([(3,(.own 0 0 out_36.length))],[.row 3 (out_36.map encGMut)]) ?_ ?_
 ·refine awp_loop (X:={q:(Nat × (List GMut)) // laws_toMutS_L1 (a_1.drop q.1) q.1 q.2 = some out_36}) (fun q => ([(0,(.lst 3 (a_1.map encGMut))),(3,(.own 0 0 q.1.2.length)),(4,(.int .i64 (q.1.1:Int)))],[.row 3 (q.1.2.map encGMut)])) (fun q => a_1.length - q.1.1) ⟨(0,List.replicate a_1.length (⟨[],0,[]⟩:GMut)),hb1⟩ ⟨[],[0],_,_,rfl,rfl,⟨.refl _,⟨.of_eq (congrArg (AV.own _ 0) (by simp)),⟨.refl _,trivial⟩⟩⟩,(.refl _)⟩ ?_
  rintro ⟨⟨i_24,out_25⟩,hc1⟩
  have hc1:laws_toMutS_L1 (a_1.drop i_24) i_24 out_25 = some out_36:=hc1
  refine (show awp Tryz.prog true 0 _ (ofL [(0,(.lst 3 (a_1.map encGMut))),(3,(.own 0 0 out_25.length)),(4,(.int .i64 (i_24:Int)))]) [.row 3 (out_25.map encGMut)] _ from ?_)
  rcases dropc a_1 i_24 with ⟨hie40,hd43⟩ | ⟨hlt38,x_44,hx39,hd43⟩
  ·rw [hd43,laws_toMutS_L1.eq_1] at hc1
   have hq42:=dlf hie40
   refine awp_seq<|sr<|s_mov (.int .i64 (i_24:Int)) rfl<|s_mov (.lst 3 (a_1.map encGMut)) rfl<|s_dof (o_len (enc:=encGMut) rfl) fun hl45 => s_q (.bool (decide ((i_24:Int) < (a_1.length:Int)))) rfl rfl rfl<|dk<|w_condf rfl hq42<|w_exit<|k_seqx<|k_loopx<|k_blkx<|?_;obtain rfl:=os hc1;exact ⟨[],[0],_,_,rfl,rfl,⟨.refl _,trivial⟩,(.refl _)⟩
  ·rw [hd43,laws_toMutS_L1.eq_2] at hc1
   have hq42:=dlt hlt38
   refine awp_seq<|sr<|s_mov (.int .i64 (i_24:Int)) rfl<|s_mov (.lst 3 (a_1.map encGMut)) rfl<|s_dof (o_len (enc:=encGMut) rfl) fun hl46 => s_q (.bool (decide ((i_24:Int) < (a_1.length:Int)))) rfl rfl rfl<|dk<|w_condt rfl hq42<|w_skip<|k_seq<|awp_seq<|w_blk<|w_reg<|?_
   obtain ⟨r_47,er48,hc1⟩:=ob hc1
   obtain ⟨g49,hc1⟩:=og hc1
   obtain ⟨x_50,ex51,hc1⟩:=ob hc1
   refine s_mov (.own 0 0 out_25.length) rfl<|s_mov (.int .i64 (i_24:Int)) rfl<|s_mov (.lst 3 (a_1.map encGMut)) rfl<|s_mov (.int .i64 (i_24:Int)) rfl<|s_do (o_iaddrn (enc:=encGMut) rfl rfl hx39)<|s_q (encGMut x_44) rfl nle rfl<|s_do (o_callf (v:=(.agg [(.str r_47.Column),(.int .i64 r_47.Func),(.own 1 0 r_47.Value.length)])) (h':=[.row 3 (r_47.Value.map encGAtom)]) (w_laws_toMut _ _ er48) rfl (.refl _) (by simp only [openV,openVs,List.length_map,encGMut_eq,List.nil_append,List.append_nil,List.cons_append];rfl))<|s_do (o_iaddrownn rfl rfl g49 rfl rfl)<|?_;refine s_do0 (o_storerow (v':=(.agg [(.str r_47.Column),(.int .i64 r_47.Func),(.lst 3 (r_47.Value.map encGAtom))])) (e':=r_47) rfl rfl ex51 rfl rfl (by simp only [tk,tko,List.take_length]) (by decide) (fun _ => by decide) ⟨rfl,nle⟩ (.refl _) rfl) ?_
   refine w_done<|k_blk<|k_seq<|w_reg<|s_mov (.int .i64 (i_24:Int)) rfl<|s_q (.int .i64 (w64 ((i_24:Int) + 1))) rfl rfl rfl<|s_mov (.int .i64 (w64 ((i_24:Int) + 1))) rfl<|w_done<|?_;exact k_loopn ⟨((i_24 + 1),out_25.set i_24 r_47),hc1⟩ (mul hlt38) ⟨[],[0],_,_,rfl,rfl,⟨.refl _,⟨.of_eq (congrArg (AV.own _ 0) (by simp)),⟨.of_eq (congrArg (AV.int _) (w64_incr hlt38 hl46)),trivial⟩⟩⟩,(.refl _)⟩
 ·refine sr<|s_mov (.own 0 0 out_36.length) rfl<|s_mov (.own 0 0 out_36.length) rfl<|dk<|w_ret<|?_;obtain rfl:=os hf;exact r_fresh ⟨trivial,trivial⟩ rfl (by decide) (.of_eq (congrArg (AV.lst _) (tk (enc:=encGMut) out_36)))

/- laws.toOp -/
def c15:ACode :=
 (.seq (.reg (tq 1 (.box 8 (.t 0)) (tq 2 (.box 8 (.c (.agg [(.int .i64 0),(.str []),(.str []),.nil,.nil,.nil,.nil,(.bool false)]))) .done)))
 (.seq (.reg (tq 3 (.box 8 (.c (.agg [(.int .i64 0),(.str []),(.str []),.nil,.nil,.nil,.nil,(.bool false)]))) .done))
 (.seq (.reg (tq 4 (.faddr 0 (.t 1)) (tq 5 (.load 1 false (.t 4)) (tq 6 (.faddr 0 (.t 3)) (.q ⟨none,none,.store 1 (.t 6) (.t 5)⟩
 .done)))))
 (.seq (.reg (tq 7 (.faddr 1 (.t 1)) (tq 8 (.load 1 false (.t 7)) (tq 9 (.faddr 1 (.t 3)) (.q ⟨none,none,.store 1 (.t 9) (.t 8)⟩
 .done)))))
 (.seq (.reg (tq 10 (.faddr 2 (.t 1)) (tq 11 (.load 1 false (.t 10)) (tq 12 (.faddr 2 (.t 3)) (.q ⟨none,none,.store 1 (.t 12) (.t 11)⟩
 .done)))))
 (.seq (.reg (tq 13 (.faddr 3 (.t 1)) (tq 14 (.load 1 false (.t 13)) (tq 15 (.call 35 [(.t 14)]) (tq 16 (.faddr 3 (.t 3)) (.q ⟨none,none,.store 1 (.t 16) (.t 15)⟩
 .done))))))
 (.seq (.reg (tq 17 (.faddr 4 (.t 1)) (tq 18 (.load 1 false (.t 17)) (tq 19 (.call 36 [(.t 18)]) (tq 20 (.faddr 4 (.t 3)) (.q ⟨none,none,.store 1 (.t 20) (.t 19)⟩
 .done))))))
 (.seq (.reg (tq 21 (.faddr 5 (.t 1)) (tq 22 (.load 1 false (.t 21)) (tq 23 (.call 37 [(.t 22)]) (tq 24 (.faddr 5 (.t 3)) (.q ⟨none,none,.store 1 (.t 24) (.t 23)⟩
 .done))))))
 (.seq (.reg (tq 25 (.faddr 6 (.t 1)) (tq 26 (.load 1 false (.t 25)) (tq 27 (.call 38 [(.t 26)]) (tq 28 (.faddr 6 (.t 3)) (.q ⟨none,none,.store 1 (.t 28) (.t 27)⟩
 .done))))))
 (.seq (.reg (tq 29 (.faddr 7 (.t 1)) (tq 30 (.load 1 false (.t 29)) (tq 31 (.faddr 7 (.t 3)) (.q ⟨none,none,.store 1 (.t 31) (.t 30)⟩
 .done)))))
 (.seq (.reg (tq 32 (.load 8 true (.t 3)) (.q ⟨none,none,.store 8 (.t 2) (.t 32)⟩
 .done)))
 .ret)))))))))))
theorem fc15:fcomp Tryz.prog Tryz.f15 = some (c15.erase,[.load 8 true (.t 2)],33):=by kernel_rfl
def laws_toOp (a_1:GOp):Option GOp :=
    (laws_toCondS a_1.Where).bind fun r_2 =>
    (laws_toSetS a_1.Row).bind fun r_4 =>
    (laws_toMutS a_1.Muts).bind fun r_6 =>
    (laws_toStringS a_1.Columns).bind fun r_8 =>
    some (⟨a_1.Kind,a_1.Table,a_1.Name,r_2,r_4,r_6,r_8,a_1.Until⟩:GOp)
theorem w_laws_toOp (a_1:GOp) (r:GOp) (hf:laws_toOp a_1 = some r):CallOK Tryz.prog 15 .fresh [(encGOp a_1)] (encGOp r):=by
 refine CallOK.of_awp mixed Tryz.func15 fc15 nle ?_;rw [argT_eq];unfold laws_toOp at hf;unfold c15;refine (show awp Tryz.prog true 0 _ (ofL [(0,(encGOp a_1))]) [] _ from ?_);refine sr<|s_do (o_box (j:=0) (c:=(.agg [(.int .i64 a_1.Kind),(.str a_1.Table),(.str a_1.Name),(.lst 3 (a_1.Where.map encGCond)),(.lst 3 (a_1.Row.map encGSet)),(.lst 3 (a_1.Muts.map encGMut)),(.lst 1 (a_1.Columns.map AV.str)),(.bool a_1.Until)])) rfl trivial rfl rfl)<|s_do (o_box (j:=1) (c:=(.agg [(.int .i64 0),(.str []),(.str []),.nil,.nil,.nil,.nil,(.bool false)])) rfl trivial rfl rfl)<|dk<|sr<|s_do (o_box (j:=2) (c:=(.agg [(.int .i64 0),(.str []),(.str []),.nil,.nil,.nil,.nil,(.bool false)])) rfl trivial rfl rfl)<|?_
 refine dk<|sr<|s_q (.ptr 0 0 0) rfl trivial rfl<|s_q (.int .i64 a_1.Kind) rfl nle rfl<|s_q (.ptr 2 0 0) rfl trivial rfl<|s_do0 (o_storebox (v:=(.int .i64 a_1.Kind)) (y':=(.agg [(.int .i64 a_1.Kind),(.str []),(.str []),.nil,.nil,.nil,.nil,(.bool false)])) rfl rfl rfl trivial ⟨rfl,nle⟩ ⟨⟨rfl,trivial⟩,trivial⟩ rfl)<|dk<|sr<|s_q (.ptr 0 0 1) rfl trivial rfl<|s_q (.str a_1.Table) rfl nle rfl<|s_q (.ptr 2 0 1) rfl trivial rfl<|s_do0 (o_storebox (v:=(.str a_1.Table)) (y':=(.agg [(.int .i64 a_1.Kind),(.str a_1.Table),(.str []),.nil,.nil,.nil,.nil,(.bool false)])) rfl rfl rfl trivial ⟨rfl,nle⟩ ⟨⟨rfl,trivial⟩,trivial⟩ rfl)<|?_
 refine dk<|sr<|s_q (.ptr 0 0 2) rfl trivial rfl<|s_q (.str a_1.Name) rfl nle rfl<|s_q (.ptr 2 0 2) rfl trivial rfl<|s_do0 (o_storebox (v:=(.str a_1.Name)) (y':=(.agg [(.int .i64 a_1.Kind),(.str a_1.Table),(.str a_1.Name),.nil,.nil,.nil,.nil,(.bool false)])) rfl rfl rfl trivial ⟨rfl,nle⟩ ⟨⟨rfl,trivial⟩,trivial⟩ rfl)<|dk<|sr<|?_
 obtain ⟨r_2,er3,hf⟩:=ob hf
 refine s_q (.ptr 0 0 3) rfl trivial rfl<|s_q (.lst 3 (a_1.Where.map encGCond)) rfl nle rfl<|s_do (o_callf (v:=(.own 3 0 r_2.length)) (h':=[.row 3 (r_2.map encGCond)]) (w_laws_toCondS _ _ er3) rfl (.refl _) (by simp only [openV,openVs,List.length_map,List.nil_append,List.append_nil,List.cons_append];rfl))<|s_q (.ptr 2 0 3) rfl trivial rfl<|s_do0 (o_storebox (v:=(.own 3 0 r_2.length)) (y':=(.agg [(.int .i64 a_1.Kind),(.str a_1.Table),(.str a_1.Name),(.own 3 0 r_2.length),.nil,.nil,.nil,(.bool false)])) rfl rfl rfl trivial ⟨rfl,nle⟩ ⟨⟨rfl,trivial⟩,trivial⟩ rfl)<|dk<|sr<|?_
 obtain ⟨r_4,er5,hf⟩:=ob hf
 refine s_q (.ptr 0 0 4) rfl trivial rfl<|s_q (.lst 3 (a_1.Row.map encGSet)) rfl nle rfl<|s_do (o_callf (v:=(.own 4 0 r_4.length)) (h':=[.row 3 (r_4.map encGSet)]) (w_laws_toSetS _ _ er5) rfl (.refl _) (by simp only [openV,openVs,List.length_map,List.nil_append,List.append_nil,List.cons_append];rfl))<|s_q (.ptr 2 0 4) rfl trivial rfl<|s_do0 (o_storebox (v:=(.own 4 0 r_4.length)) (y':=(.agg [(.int .i64 a_1.Kind),(.str a_1.Table),(.str a_1.Name),(.own 3 0 r_2.length),(.own 4 0 r_4.length),.nil,.nil,(.bool false)])) rfl rfl rfl trivial ⟨rfl,nle⟩ ⟨⟨rfl,trivial⟩,trivial⟩ rfl)<|dk<|sr<|?_
 obtain ⟨r_6,er7,hf⟩:=ob hf
 refine s_q (.ptr 0 0 5) rfl trivial rfl<|s_q (.lst 3 (a_1.Muts.map encGMut)) rfl nle rfl<|s_do (o_callf (v:=(.own 5 0 r_6.length)) (h':=[.row 3 (r_6.map encGMut)]) (w_laws_toMutS _ _ er7) rfl (.refl _) (by simp only [openV,openVs,List.length_map,List.nil_append,List.append_nil,List.cons_append];rfl))<|s_q (.ptr 2 0 5) rfl trivial rfl<|s_do0 (o_storebox (v:=(.own 5 0 r_6.length)) (y':=(.agg [(.int .i64 a_1.Kind),(.str a_1.Table),(.str a_1.Name),(.own 3 0 r_2.length),(.own 4 0 r_4.length),(.own 5 0 r_6.length),.nil,(.bool false)])) rfl rfl rfl trivial ⟨rfl,nle⟩ ⟨⟨rfl,trivial⟩,trivial⟩ rfl)<|dk<|sr<|?_
 obtain ⟨r_8,er9,hf⟩:=ob hf
 refine s_q (.ptr 0 0 6) rfl trivial rfl<|s_q (.lst 1 (a_1.Columns.map AV.str)) rfl nle rfl<|s_do (o_callf (v:=(.own 6 0 r_8.length)) (h':=[.row 1 (r_8.map AV.str)]) (w_laws_toStringS _ _ er9) rfl (.refl _) (by simp only [openV,openVs,List.length_map,List.nil_append,List.append_nil,List.cons_append];rfl))<|s_q (.ptr 2 0 6) rfl trivial rfl<|s_do0 (o_storebox (v:=(.own 6 0 r_8.length)) (y':=(.agg [(.int .i64 a_1.Kind),(.str a_1.Table),(.str a_1.Name),(.own 3 0 r_2.length),(.own 4 0 r_4.length),(.own 5 0 r_6.length),(.own 6 0 r_8.length),(.bool false)])) rfl rfl rfl trivial ⟨rfl,nle⟩ ⟨⟨rfl,trivial⟩,trivial⟩ rfl)<|dk<|sr<|s_q (.ptr 0 0 7) rfl trivial rfl<|?_
 refine s_q (.bool a_1.Until) rfl nle rfl<|s_q (.ptr 2 0 7) rfl trivial rfl<|s_do0 (o_storebox (v:=(.bool a_1.Until)) (y':=(.agg [(.int .i64 a_1.Kind),(.str a_1.Table),(.str a_1.Name),(.own 3 0 r_2.length),(.own 4 0 r_4.length),(.own 5 0 r_6.length),(.own 6 0 r_8.length),(.bool a_1.Until)])) rfl rfl rfl trivial ⟨rfl,nle⟩ ⟨⟨rfl,trivial⟩,trivial⟩ rfl)<|dk<|sr<|s_q (.agg [(.int .i64 a_1.Kind),(.str a_1.Table),(.str a_1.Name),(.own 3 0 r_2.length),(.own 4 0 r_4.length),(.own 5 0 r_6.length),(.own 6 0 r_8.length),(.bool a_1.Until)]) rfl nle rfl<|s_do0 (o_storebox (v:=(.agg [(.int .i64 a_1.Kind),(.str a_1.Table),(.str a_1.Name),(.own 3 0 r_2.length),(.own 4 0 r_4.length),(.own 5 0 r_6.length),(.own 6 0 r_8.length),(.bool a_1.Until)])) (y':=(.agg [(.int .i64 a_1.Kind),(.str a_1.Table),(.str a_1.Name),(.own 3 0 r_2.length),(.own 4 0 r_4.length),(.own 5 0 r_6.length),(.own 6 0 r_8.length),(.bool a_1.Until)])) rfl rfl rfl trivial ⟨rfl,nle⟩ ⟨⟨rfl,trivial⟩,⟨⟨rfl,trivial⟩,⟨⟨rfl,trivial⟩,⟨⟨rfl,trivial⟩,⟨⟨rfl,trivial⟩,⟨⟨rfl,trivial⟩,⟨⟨rfl,trivial⟩,⟨⟨rfl,trivial⟩,trivial⟩⟩⟩⟩⟩⟩⟩⟩ rfl)<|?_
 refine dk<|w_ret<|?_;obtain rfl:=os hf;exact r_fresh ⟨nle,trivial⟩ rfl (by decide) (.agg (.cons (.refl _) (.cons (.refl _) (.cons (.refl _) (.cons (.of_eq (congrArg (AV.lst _) (tk (enc:=encGCond) r_2))) (.cons (.of_eq (congrArg (AV.lst _) (tk (enc:=encGSet) r_4))) (.cons (.of_eq (congrArg (AV.lst _) (tk (enc:=encGMut) r_6))) (.cons (.of_eq (congrArg (AV.lst _) (tk (enc:=AV.str) r_8))) (.cons (.refl _) .nil)))))))))

/- spec.l01In -/
def c48:ACode :=
 (.seq (.reg (tm 6 (.c (.bool false)) .done))
 (.seq (.reg (tm 7 (.t 1) (tm 8 (.t 0) (tq 9 (.bin .leq (.t 7) (.t 8)) (tm 10 (.t 9) (tg 11 10 true (.mov (.t 0)) (tg 12 10 true (.mov (.t 2)) (tg 13 10 true (.bin .leq (.t 11) (.t 12)) (tq 14 (.pick (.t 10) (.t 13) (.c (.bool false))) (tm 6 (.t 14) .done))))))))))
 .ret))
theorem fc48:fcomp Tryz.prog Tryz.f48 = some (c48.erase,[.mov (.t 6)],15):=by kernel_rfl
def spec_l01In (n_1:Int) (low_2:Int) (high_3:Int):Option Bool :=
    if (decide (low_2 ≤ n_1)) then
    some (decide (n_1 ≤ high_3))
    else
    some false
theorem w_spec_l01In (n_1:Int) (low_2:Int) (high_3:Int) (r:Bool) (hf:spec_l01In n_1 low_2 high_3 = some r):CallOK Tryz.prog 48 .flat [(.int .i64 n_1),(.int .i64 low_2),(.int .i64 high_3)] (.bool r):=by
 refine CallOK.of_awp mixed Tryz.func48 fc48 nle ?_;rw [argT_eq];unfold spec_l01In at hf;unfold c48;refine (show awp Tryz.prog false 0 _ (ofL [(0,(.int .i64 n_1)),(1,(.int .i64 low_2)),(2,(.int .i64 high_3))]) [] _ from ?_);refine sr<|s_mov (.bool false) rfl<|dk<|sr<|?_
 rcases oi hf with ⟨c4,hf⟩ | ⟨c4,hf⟩
 ·refine s_mov (.int .i64 low_2) rfl<|s_mov (.int .i64 n_1) rfl<|s_q (.bool (decide (low_2 ≤ n_1))) rfl rfl rfl<|s_mov (.bool (decide (low_2 ≤ n_1))) rfl<|s_lit (s:=10) (b:=true) rfl c4<|s_on rfl<|s_mov (.int .i64 n_1) rfl<|s_on rfl<|s_mov (.int .i64 high_3) rfl<|s_on rfl<|s_q (.bool (decide (n_1 ≤ high_3))) rfl rfl rfl<|s_q (.bool (decide (n_1 ≤ high_3))) rfl trivial rfl<|s_mov (.bool (decide (n_1 ≤ high_3))) rfl<|dk<|w_ret<|?_;obtain rfl:=os hf;exact r_flat ⟨trivial,trivial⟩ rfl (.refl _)
 ·refine s_mov (.int .i64 low_2) rfl<|s_mov (.int .i64 n_1) rfl<|s_q (.bool (decide (low_2 ≤ n_1))) rfl rfl rfl<|s_mov (.bool (decide (low_2 ≤ n_1))) rfl<|s_lit (s:=10) (b:=false) rfl (bf c4)<|s_off rfl rfl<|s_off rfl rfl<|s_off rfl rfl<|s_q (.bool false) rfl trivial rfl<|s_mov (.bool false) rfl<|dk<|w_ret<|?_;obtain rfl:=os hf;exact r_flat ⟨trivial,trivial⟩ rfl (.refl _)

/- spec.l00Letter -/
def c167:ACode :=
 (.seq (.reg (tm 2 (.c (.bool false)) .done))
 (.seq (.reg (tm 3 (.t 0) (tq 4 (.bin .geq (.t 3) (.c (.int .u8 97))) (tm 5 (.t 4) (tg 6 5 true (.mov (.t 0)) (tg 7 5 true (.bin .leq (.t 6) (.c (.int .u8 122))) (tq 8 (.pick (.t 5) (.t 7) (.c (.bool false))) (tm 9 (.t 8) (tg 10 9 false (.mov (.t 0)) (tg 11 9 false (.bin .geq (.t 10) (.c (.int .u8 65))) (tg 12 9 false (.mov (.t 11)) (tg 13 12 true (.mov (.t 0)) (tg 14 12 true (.bin .leq (.t 13) (.c (.int .u8 90))) (tg 15 9 false (.pick (.t 12) (.t 14) (.c (.bool false))) (tq 16 (.pick (.t 9) (.c (.bool true)) (.t 15)) (tm 17 (.t 16) (tg 18 17 false (.mov (.t 0)) (tg 19 17 false (.bin .eql (.t 18) (.c (.int .u8 95))) (tq 20 (.pick (.t 17) (.c (.bool true)) (.t 19)) (tm 2 (.t 20) .done))))))))))))))))))))
 .ret))
theorem fc167:fcomp Tryz.prog Tryz.f167 = some (c167.erase,[.mov (.t 2)],21):=by kernel_rfl
def spec_l00Letter (c_1:Int):Option Bool :=
    some (bif (bif (bif (decide (c_1 ≥ 97)) then (decide (c_1 ≤ 122)) else false) then true else (bif (decide (c_1 ≥ 65)) then (decide (c_1 ≤ 90)) else false)) then true else (c_1 == 95))
theorem w_spec_l00Letter (c_1:Int) (r:Bool) (hf:spec_l00Letter c_1 = some r):CallOK Tryz.prog 167 .flat [(.int .u8 c_1)] (.bool r):=by
 refine CallOK.of_awp mixed Tryz.func167 fc167 nle ?_;rw [argT_eq];unfold spec_l00Letter at hf;unfold c167;refine (show awp Tryz.prog false 0 _ (ofL [(0,(.int .u8 c_1))]) [] _ from ?_);refine sr<|s_mov (.bool false) rfl<|dk<|sr<|s_mov (.int .u8 c_1) rfl<|s_q (.bool (decide (c_1 ≥ 97))) rfl rfl rfl<|s_mov (.bool (decide (c_1 ≥ 97))) rfl<|?_;refine s_g (v:=(decide (c_1 ≥ 97))) (.int .u8 c_1) rfl (fun hv => by (try simp only [gs_on hv]);exact ⟨rfl,trivial,rfl⟩) ?_;refine s_g (v:=(decide (c_1 ≥ 97))) (.bool (decide (c_1 ≤ 122))) rfl (fun hv => by (try simp only [gs_on hv]);exact ⟨rfl,rfl,rfl⟩) ?_;refine s_pick (x:=(decide (c_1 ≤ 122))) (y:=false) rfl (fun hv => by (try simp only [gs_on hv]);rfl) (fun hv => by (try simp only [gs_on hv]);rfl) ?_
 refine s_mov (.bool (bif (decide (c_1 ≥ 97)) then (decide (c_1 ≤ 122)) else false)) rfl ?_;refine s_g (v:=(bif (decide (c_1 ≥ 97)) then (decide (c_1 ≤ 122)) else false)) (.int .u8 c_1) rfl (fun hv => by (try simp only [gs_on hv]);exact ⟨rfl,trivial,rfl⟩) ?_;refine s_g (v:=(bif (decide (c_1 ≥ 97)) then (decide (c_1 ≤ 122)) else false)) (.bool (decide (c_1 ≥ 65))) rfl (fun hv => by (try simp only [gs_on hv]);exact ⟨rfl,rfl,rfl⟩) ?_;refine s_g (v:=(bif (decide (c_1 ≥ 97)) then (decide (c_1 ≤ 122)) else false)) (.bool (decide (c_1 ≥ 65))) rfl (fun hv => by (try simp only [gs_on hv]);exact ⟨rfl,trivial,rfl⟩) ?_;refine s_gg (v1:=(bif (decide (c_1 ≥ 97)) then (decide (c_1 ≤ 122)) else false)) (b1:=false) (v2:=(decide (c_1 ≥ 65))) (.int .u8 c_1) rfl (fun hv hw => by (try simp only [gs_on hv,gs_on hw]);exact ⟨rfl,trivial,rfl⟩) ?_
 refine s_gg (v1:=(bif (decide (c_1 ≥ 97)) then (decide (c_1 ≤ 122)) else false)) (b1:=false) (v2:=(decide (c_1 ≥ 65))) (.bool (decide (c_1 ≤ 90))) rfl (fun hv hw => by (try simp only [gs_on hv,gs_on hw]);exact ⟨rfl,rfl,rfl⟩) ?_;refine s_gp (v1:=(bif (decide (c_1 ≥ 97)) then (decide (c_1 ≤ 122)) else false)) (b1:=false) (v2:=(decide (c_1 ≥ 65))) (x:=(decide (c_1 ≤ 90))) (y:=false) rfl (fun hv => by (try simp only [gs_on hv]);rfl) (fun hv hw => by (try simp only [gs_on hv,gs_on hw]);rfl) (fun hv hw => by (try simp only [gs_on hv,gs_on hw]);rfl) ?_;refine s_pick (x:=true) (y:=(bif (decide (c_1 ≥ 65)) then (decide (c_1 ≤ 90)) else false)) rfl (fun hv => by (try simp only [gs_on hv]);rfl) (fun hv => by (try simp only [gs_on hv]);rfl) ?_
 refine s_mov (.bool (bif (bif (decide (c_1 ≥ 97)) then (decide (c_1 ≤ 122)) else false) then true else (bif (decide (c_1 ≥ 65)) then (decide (c_1 ≤ 90)) else false))) rfl ?_;refine s_g (v:=(bif (bif (decide (c_1 ≥ 97)) then (decide (c_1 ≤ 122)) else false) then true else (bif (decide (c_1 ≥ 65)) then (decide (c_1 ≤ 90)) else false))) (.int .u8 c_1) rfl (fun hv => by (try simp only [gs_on hv]);exact ⟨rfl,trivial,rfl⟩) ?_;refine s_g (v:=(bif (bif (decide (c_1 ≥ 97)) then (decide (c_1 ≤ 122)) else false) then true else (bif (decide (c_1 ≥ 65)) then (decide (c_1 ≤ 90)) else false))) (.bool (c_1 == 95)) rfl (fun hv => by (try simp only [gs_on hv]);exact ⟨rfl,rfl,rfl⟩) ?_;refine s_pick (x:=true) (y:=(c_1 == 95)) rfl (fun hv => by (try simp only [gs_on hv]);rfl) (fun hv => by (try simp only [gs_on hv]);rfl) ?_
 refine s_mov (.bool (bif (bif (bif (decide (c_1 ≥ 97)) then (decide (c_1 ≤ 122)) else false) then true else (bif (decide (c_1 ≥ 65)) then (decide (c_1 ≤ 90)) else false)) then true else (c_1 == 95))) rfl<|dk<|w_ret<|?_;obtain rfl:=os hf;exact r_flat ⟨trivial,trivial⟩ rfl (.refl _)

/- spec.l00Digit -/
def c168:ACode :=
 (.seq (.reg (tm 2 (.c (.bool false)) .done))
 (.seq (.reg (tm 3 (.t 0) (tq 4 (.bin .geq (.t 3) (.c (.int .u8 48))) (tm 5 (.t 4) (tg 6 5 true (.mov (.t 0)) (tg 7 5 true (.bin .leq (.t 6) (.c (.int .u8 57))) (tq 8 (.pick (.t 5) (.t 7) (.c (.bool false))) (tm 2 (.t 8) .done))))))))
 .ret))
theorem fc168:fcomp Tryz.prog Tryz.f168 = some (c168.erase,[.mov (.t 2)],9):=by kernel_rfl
def spec_l00Digit (c_1:Int):Option Bool :=
    if (decide (c_1 ≥ 48)) then
    some (decide (c_1 ≤ 57))
    else
    some false
theorem w_spec_l00Digit (c_1:Int) (r:Bool) (hf:spec_l00Digit c_1 = some r):CallOK Tryz.prog 168 .flat [(.int .u8 c_1)] (.bool r):=by
 refine CallOK.of_awp mixed Tryz.func168 fc168 nle ?_;rw [argT_eq];unfold spec_l00Digit at hf;unfold c168;refine (show awp Tryz.prog false 0 _ (ofL [(0,(.int .u8 c_1))]) [] _ from ?_);refine sr<|s_mov (.bool false) rfl<|dk<|sr<|?_
 rcases oi hf with ⟨c2,hf⟩ | ⟨c2,hf⟩
 ·refine s_mov (.int .u8 c_1) rfl<|s_q (.bool (decide (c_1 ≥ 48))) rfl rfl rfl<|s_mov (.bool (decide (c_1 ≥ 48))) rfl<|s_lit (s:=5) (b:=true) rfl c2<|s_on rfl<|s_mov (.int .u8 c_1) rfl<|s_on rfl<|s_q (.bool (decide (c_1 ≤ 57))) rfl rfl rfl<|s_q (.bool (decide (c_1 ≤ 57))) rfl trivial rfl<|s_mov (.bool (decide (c_1 ≤ 57))) rfl<|dk<|w_ret<|?_;obtain rfl:=os hf;exact r_flat ⟨trivial,trivial⟩ rfl (.refl _)
 ·refine s_mov (.int .u8 c_1) rfl<|s_q (.bool (decide (c_1 ≥ 48))) rfl rfl rfl<|s_mov (.bool (decide (c_1 ≥ 48))) rfl<|s_lit (s:=5) (b:=false) rfl (bf c2)<|s_off rfl rfl<|s_off rfl rfl<|s_q (.bool false) rfl trivial rfl<|s_mov (.bool false) rfl<|dk<|w_ret<|?_;obtain rfl:=os hf;exact r_flat ⟨trivial,trivial⟩ rfl (.refl _)

/- spec.l00Word -/
def c126:ACode :=
 (.seq (.reg (tm 2 (.c (.bool false)) .done))
 (.seq (.seq (.reg (tm 4 (.t 0) (tq 5 (.lenS (.t 4)) (tq 6 (.bin .lss (.t 5) (.c (.int .i64 1))) (tm 7 (.t 6) (tg 8 7 false (.mov (.t 0)) (tg 9 7 false (.lenS (.t 8)) (tg 10 7 false (.bin .gtr (.t 9) (.c (.int .i64 40))) (tq 11 (.pick (.t 7) (.c (.bool true)) (.t 10)) (tm 12 (.t 11) (tg 13 12 false (.mov (.t 0)) (tg 14 12 false (.idxs (.t 13) (.c (.int .i64 0))) (tg 15 12 false (.call 167 [(.t 14)]) (tg 16 12 false (.not (.t 15)) (tq 17 (.pick (.t 12) (.c (.bool true)) (.t 16)) .done)))))))))))))))
 (.cut (.cond (.t 17) (.seq (.reg (tm 2 (.c (.bool false)) .done))
 .ret)
 .skip)))
 (.seq (.seq (.reg (tm 3 (.c (.int .i64 1)) .done))
 (.block 0 (.loop (.seq (.seq (.reg (tm 18 (.t 3) (tm 19 (.t 0) (tq 20 (.lenS (.t 19)) (tq 21 (.bin .lss (.t 18) (.t 20)) .done)))))
 (.cond (.t 21) .skip
 (.exit 0)))
 (.seq (.block 1 (.seq (.reg (tm 24 (.t 0) (tm 25 (.t 3) (tq 26 (.idxs (.t 24) (.t 25)) (tq 27 (.call 167 [(.t 26)]) (tq 28 (.not (.t 27)) (tm 29 (.t 28) (tg 30 29 true (.mov (.t 0)) (tg 31 29 true (.mov (.t 3)) (tg 32 29 true (.idxs (.t 30) (.t 31)) (tg 33 29 true (.call 168 [(.t 32)]) (tg 34 29 true (.not (.t 33)) (tq 35 (.pick (.t 29) (.t 34) (.c (.bool false))) .done)))))))))))))
 (.cut (.cond (.t 35) (.seq (.reg (tm 2 (.c (.bool false)) .done))
 .ret)
 .skip))))
 (.reg (tm 22 (.t 3) (tq 23 (.bin .add (.t 22) (.c (.int .i64 1))) (tm 3 (.t 23) .done)))))))))
 (.cut (.seq (.reg (tm 2 (.c (.bool true)) .done))
 .ret)))))
theorem fc126:fcomp Tryz.prog Tryz.f126 = some (c126.erase,[.mov (.t 2)],36):=by kernel_rfl
def spec_l00Word_L1 :List UInt8 → Option (Fl Bool Unit)
  | [] =>
    some (.go ())
  | x_98 :: xs =>
    (((spec_l00Letter (x_98.toNat:Int)).bind fun r_108 =>
    if (!r_108) then
    (spec_l00Digit (x_98.toNat:Int)).bind fun r_111 =>
    some (!r_111)
    else
    some false:Option Bool)).bind fun s35_106 =>
    if s35_106 then
    some (.ret false)
    else
    spec_l00Word_L1 xs 

def spec_l00Word (t_1:Str):Option Bool :=
    ((if (bif (decide ((t_1.length:Int) < 1)) then true else (decide ((t_1.length:Int) > 40))) then
    some true
    else
    (idx t_1 0).bind fun b_14 =>
    (spec_l00Letter (b_14.toNat:Int)).bind fun r_16 =>
    some (!r_16):Option Bool)).bind fun s17_9 =>
    if s17_9 then
    some false
    else
    (spec_l00Word_L1 (t_1.drop 1) ).bind fun q => (match q with
    | .ret r => some r
    | .go _ =>
    some true)
theorem w_spec_l00Word (t_1:Str) (r:Bool) (hf:spec_l00Word t_1 = some r):CallOK Tryz.prog 126 .flat [(.str t_1)] (.bool r):=by
 refine CallOK.of_awp mixed Tryz.func126 fc126 nle ?_;rw [argT_eq];unfold spec_l00Word at hf;unfold c126;refine (show awp Tryz.prog false 0 _ (ofL [(0,(.str t_1))]) [] _ from ?_);refine sr<|s_mov (.bool false) rfl<|dk<|awp_seq<|awp_seq<|?_
 obtain ⟨s17_9,hb1,hf⟩:=ob hf
 refine awp_cut ([(0,(.str t_1)),(17,(.bool s17_9))],[]) ?_ ?_
 ·refine w_reg<|s_mov (.str t_1) rfl<|s_dof (o_lenS rfl) fun hl11 => s_q (.bool (decide ((t_1.length:Int) < 1))) rfl rfl rfl<|s_mov (.bool (decide ((t_1.length:Int) < 1))) rfl<|?_;refine s_g (v:=(decide ((t_1.length:Int) < 1))) (.str t_1) rfl (fun hv => by (try simp only [gs_on hv]);exact ⟨rfl,trivial,rfl⟩) ?_;refine s_g (v:=(decide ((t_1.length:Int) < 1))) (.int .i64 (t_1.length:Int)) rfl (fun hv => by (try simp only [gs_on hv]);exact ⟨rfl,trivial,rfl⟩) ?_;refine s_g (v:=(decide ((t_1.length:Int) < 1))) (.bool (decide ((t_1.length:Int) > 40))) rfl (fun hv => by (try simp only [gs_on hv]);exact ⟨rfl,rfl,rfl⟩) ?_;refine s_pick (x:=true) (y:=(decide ((t_1.length:Int) > 40))) rfl (fun hv => by (try simp only [gs_on hv]);rfl) (fun hv => by (try simp only [gs_on hv]);rfl) ?_
  refine s_mov (.bool (bif (decide ((t_1.length:Int) < 1)) then true else (decide ((t_1.length:Int) > 40)))) rfl ?_
  rcases oi hb1 with ⟨c13,hb1⟩ | ⟨c13,hb1⟩
  ·refine s_lit (s:=12) (b:=true) rfl c13<|s_off rfl rfl<|s_off rfl rfl<|s_off rfl rfl<|s_off rfl rfl<|s_q (.bool true) rfl trivial rfl<|w_done<|?_;obtain rfl:=os hb1;exact ⟨[],[],_,_,rfl,rfl,⟨.refl _,⟨.refl _,trivial⟩⟩,(.refl _)⟩
  ·refine s_lit (s:=12) (b:=false) rfl (bf c13)<|s_on rfl<|s_mov (.str t_1) rfl<|s_on rfl<|?_
   obtain ⟨b_14,eb15,hb1⟩:=ob hb1
   refine s_do (o_idxs rfl rfl (idx0 eb15) (idx1 eb15))<|s_on rfl<|?_
   obtain ⟨r_16,er17,hb1⟩:=ob hb1
   refine s_do (o_call (w_spec_l00Letter _ _ er17) rfl (.refl _) rfl)<|s_on rfl<|s_q (.bool (!r_16)) rfl trivial rfl<|s_q (.bool (!r_16)) rfl trivial rfl<|w_done<|?_;obtain rfl:=os hb1;exact ⟨[],[],_,_,rfl,rfl,⟨.refl _,⟨.refl _,trivial⟩⟩,(.refl _)⟩
 ·rcases oi hf with ⟨c18,hf⟩ | ⟨c18,hf⟩
  ·refine w_condt rfl c18<|sr<|s_mov (.bool false) rfl<|dk<|w_ret<|?_;obtain rfl:=os hf;exact r_flat ⟨trivial,trivial⟩ rfl (.refl _)
  ·refine w_condf rfl (bf c18)<|w_skip<|k_seq<|awp_seq<|sr<|s_mov (.int .i64 1) rfl<|dk<|?_
   obtain ⟨p91,hb1,hf⟩:=ob hf
   refine awp_cutx (X:={q:Unit // p91 = .go q}) (fun q => ([],[])) ?_ ?_
   ·refine awp_loop (X:={q:Nat // spec_l00Word_L1 (t_1.drop q)  = some p91}) (fun q => ([(0,(.str t_1)),(3,(.int .i64 (q.1:Int)))],[])) (fun q => t_1.length - q.1) ⟨1,hb1⟩ ⟨[],[],_,_,rfl,rfl,⟨.refl _,⟨.refl _,trivial⟩⟩,(.refl _)⟩ ?_
    rintro ⟨i_66,hc1⟩
    have hc1:spec_l00Word_L1 (t_1.drop i_66)  = some p91:=hc1
    refine (show awp Tryz.prog false 0 _ (ofL [(0,(.str t_1)),(3,(.int .i64 (i_66:Int)))]) [] _ from ?_)
    rcases dropc t_1 i_66 with ⟨hie94,hd97⟩ | ⟨hlt92,x_98,hx93,hd97⟩
    ·rw [hd97,spec_l00Word_L1.eq_1] at hc1
     have hq96:=dlf hie94
     refine awp_seq<|sr<|s_mov (.int .i64 (i_66:Int)) rfl<|s_mov (.str t_1) rfl<|s_dof (o_lenS rfl) fun hl99 => s_q (.bool (decide ((i_66:Int) < (t_1.length:Int)))) rfl rfl rfl<|dk<|w_condf rfl hq96<|w_exit<|k_seqx<|k_loopx<|k_blkx<|?_;obtain rfl:=os hc1;exact k_cutn ⟨_,rfl⟩ ⟨[],[],_,_,rfl,rfl,trivial,(.refl _)⟩
    ·rw [hd97,spec_l00Word_L1.eq_2] at hc1
     have hq96:=dlt hlt92
     refine awp_seq<|sr<|s_mov (.int .i64 (i_66:Int)) rfl<|s_mov (.str t_1) rfl<|s_dof (o_lenS rfl) fun hl100 => s_q (.bool (decide ((i_66:Int) < (t_1.length:Int)))) rfl rfl rfl<|dk<|w_condt rfl hq96<|w_skip<|k_seq<|awp_seq<|w_blk<|awp_seq<|?_
     obtain ⟨s35_106,hb2,hc1⟩:=ob hc1
     refine awp_cut ([(0,(.str t_1)),(3,(.int .i64 (i_66:Int))),(35,(.bool s35_106))],[]) ?_ ?_
     ·refine w_reg ?_
      obtain ⟨r_108,er109,hb2⟩:=ob hb2
      rcases oi hb2 with ⟨c110,hb2⟩ | ⟨c110,hb2⟩
      ·obtain ⟨r_111,er112,hb2⟩:=ob hb2
       refine s_mov (.str t_1) rfl<|s_mov (.int .i64 (i_66:Int)) rfl<|s_do (o_idxsn rfl rfl hx93)<|s_do (o_call (w_spec_l00Letter _ _ er109) rfl (.refl _) rfl)<|s_q (.bool (!r_108)) rfl trivial rfl<|s_mov (.bool (!r_108)) rfl<|s_lit (s:=29) (b:=true) rfl c110<|s_on rfl<|s_mov (.str t_1) rfl<|s_on rfl<|s_mov (.int .i64 (i_66:Int)) rfl<|s_on rfl<|s_do (o_idxsn rfl rfl hx93)<|s_on rfl<|s_do (o_call (w_spec_l00Digit _ _ er112) rfl (.refl _) rfl)<|s_on rfl<|s_q (.bool (!r_111)) rfl trivial rfl<|s_q (.bool (!r_111)) rfl trivial rfl<|w_done<|?_;obtain rfl:=os hb2;exact ⟨[],[],_,_,rfl,rfl,⟨.refl _,⟨.refl _,⟨.refl _,trivial⟩⟩⟩,(.refl _)⟩
      ·refine s_mov (.str t_1) rfl<|s_mov (.int .i64 (i_66:Int)) rfl<|s_do (o_idxsn rfl rfl hx93)<|s_do (o_call (w_spec_l00Letter _ _ er109) rfl (.refl _) rfl)<|s_q (.bool (!r_108)) rfl trivial rfl<|s_mov (.bool (!r_108)) rfl<|s_lit (s:=29) (b:=false) rfl (bf c110)<|s_off rfl rfl<|s_off rfl rfl<|s_off rfl rfl<|s_off rfl rfl<|s_off rfl rfl<|s_q (.bool false) rfl trivial rfl<|w_done<|?_;obtain rfl:=os hb2;exact ⟨[],[],_,_,rfl,rfl,⟨.refl _,⟨.refl _,⟨.refl _,trivial⟩⟩⟩,(.refl _)⟩
     ·rcases oi hc1 with ⟨c113,hc1⟩ | ⟨c113,hc1⟩
      ·refine w_condt rfl c113<|sr<|s_mov (.bool false) rfl<|dk<|w_ret<|?_;obtain rfl:=os hc1;obtain rfl:=os hf;exact r_flat ⟨trivial,trivial⟩ rfl (.refl _)
      ·refine w_condf rfl (bf c113)<|w_skip<|k_blk<|k_seq<|w_reg<|s_mov (.int .i64 (i_66:Int)) rfl<|s_q (.int .i64 (w64 ((i_66:Int) + 1))) rfl rfl rfl<|s_mov (.int .i64 (w64 ((i_66:Int) + 1))) rfl<|w_done<|?_;exact k_loopn ⟨(i_66 + 1),hc1⟩ (mul hlt92) ⟨[],[],_,_,rfl,rfl,⟨.refl _,⟨.of_eq (congrArg (AV.int _) (w64_incr hlt92 hl100)),trivial⟩⟩,(.refl _)⟩
   ·rintro ⟨_,rfl⟩
    refine sr<|s_mov (.bool true) rfl<|dk<|w_ret<|?_;obtain rfl:=os hf;exact r_flat ⟨trivial,trivial⟩ rfl (.refl _)

/- spec.NameOK -/
def c72:ACode :=
 (.seq (.reg (tm 2 (.c (.bool false)) .done))
 (.seq (.reg (tm 3 (.t 0) (tq 4 (.call 126 [(.t 3)]) (tm 2 (.t 4) .done))))
 .ret))
theorem fc72:fcomp Tryz.prog Tryz.f72 = some (c72.erase,[.mov (.t 2)],5):=by kernel_rfl
def spec_NameOK (t_1:Str):Option Bool :=
    (spec_l00Word t_1).bind fun r_2 =>
    some r_2
theorem w_spec_NameOK (t_1:Str) (r:Bool) (hf:spec_NameOK t_1 = some r):CallOK Tryz.prog 72 .flat [(.str t_1)] (.bool r):=by
  refine CallOK.of_awp mixed Tryz.func72 fc72 nle ?_
  rw [argT_eq]
  unfold spec_NameOK at hf
  unfold c72
  refine (show awp Tryz.prog false 0 _ (ofL [(0,(.str t_1))]) [] _ from ?_)
  refine awp_seq ?_
  refine w_reg ?_
  refine s_do (o_mov (.bool false) rfl) ?_
  refine w_done ?_
  refine k_seq ?_
  refine awp_seq ?_
  refine w_reg ?_
  obtain ⟨r_2,er3,hf⟩:=ob hf
  refine s_do (o_mov (.str t_1) rfl) ?_
  refine s_do (o_call (w_spec_l00Word _ _ er3) rfl (.refl _) rfl) ?_
  refine s_do (o_mov (.bool r_2) rfl) ?_
  refine w_done ?_
  refine k_seq ?_
  refine w_ret ?_
  obtain rfl:=os hf
  exact r_flat ⟨trivial,trivial⟩ rfl (.refl _)

end Go.R
