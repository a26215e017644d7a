/- Walks. -/
import Derived.Test.YtmeckljlaaflkaaGreatIIT
set_option linter.all false
namespace Go.R
open Go Go.Proofs
set_option linter.unusedVariables false
set_option linter.unusedSimpArgs false
set_option maxHeartbeats 8000000
/- laws.szAtom -/
def c223:ACode :=
 (.seq (.reg (tq 2 (.box 3 (.t 0)) (tm 4 (.c (.int .i64 0)) .done)))
 (.seq (.reg (tm 5 (.t 1) (tq 6 (.faddr 2 (.t 2)) (tq 7 (.load 1 false (.t 6)) (tq 8 (.lenS (.t 7)) (tq 9 (.bin .sub (.t 5) (.t 8)) (tm 1 (.t 9) .done)))))))
 (.seq (.seq (.reg (tm 10 (.t 1) (tq 11 (.bin .lss (.t 10) (.c (.int .i64 0))) .done)))
 (.cond (.t 11) (.seq (.reg (tq 4 (.mov (.c (.int .i64 (-1)))) .done))
 .ret)
 .skip))
 (.seq (.reg (tm 12 (.t 1) (tm 4 (.t 12) .done)))
 .ret))))
theorem fc223:fcomp Tryz.prog Tryz.f223 = some (c223.erase,[.mov (.t 4)],13):=by kernel_rfl
def laws_szAtom (a_1:GAtom) (left_2:Int):Option Int :=
    if (decide (w64 (left_2 - (a_1.T.length:Int)) < 0)) then
    some (-1)
    else
    some (w64 (left_2 - (a_1.T.length:Int)))
theorem w_laws_szAtom (a_1:GAtom) (left_2:Int) (r:Int) (hf:laws_szAtom a_1 left_2 = some r):CallOK Tryz.prog 223 .flat [(encGAtom a_1),(.int .i64 left_2)] (.int .i64 r):=by
 refine CallOK.of_awp mixed Tryz.func223 fc223 nle ?_;rw [argT_eq];unfold laws_szAtom at hf;unfold c223;refine (show awp Tryz.prog false 0 _ (ofL [(0,(encGAtom a_1)),(1,(.int .i64 left_2))]) [] _ from ?_);refine sr<|s_do (o_box (j:=0) (c:=(.agg [(.int .i64 a_1.Kind),(.int .i64 a_1.N),(.str a_1.T)])) rfl trivial rfl rfl)<|s_mov (.int .i64 0) rfl<|dk<|sr<|s_mov (.int .i64 left_2) rfl<|s_q (.ptr 0 0 2) rfl trivial rfl<|s_q (.str a_1.T) rfl nle rfl<|s_dof (o_lenS rfl) fun hl3 => s_q (.int .i64 (w64 (left_2 - (a_1.T.length:Int)))) rfl rfl rfl<|s_mov (.int .i64 (w64 (left_2 - (a_1.T.length:Int)))) rfl<|dk<|awp_seq<|sr<|?_
 refine s_mov (.int .i64 (w64 (left_2 - (a_1.T.length:Int)))) rfl<|s_q (.bool (decide (w64 (left_2 - (a_1.T.length:Int)) < 0))) rfl rfl rfl<|dk<|?_
 rcases oi hf with ⟨c4,hf⟩ | ⟨c4,hf⟩
 ·refine w_condt rfl c4<|sr<|s_mov (.int .i64 (-1)) rfl<|dk<|w_ret<|?_;obtain rfl:=os hf;exact r_flat ⟨trivial,trivial⟩ rfl (.refl _)
 ·refine w_condf rfl (bf c4)<|w_skip<|k_seq<|sr<|s_mov (.int .i64 (w64 (left_2 - (a_1.T.length:Int)))) rfl<|s_mov (.int .i64 (w64 (left_2 - (a_1.T.length:Int)))) rfl<|dk<|w_ret<|?_;obtain rfl:=os hf;exact r_flat ⟨trivial,trivial⟩ rfl (.refl _)

/- laws.szAtomS -/
def c162:ACode :=
 (.seq (.reg (tm 4 (.c (.int .i64 0)) .done))
 (.seq (.reg (tm 6 (.t 1) (tm 7 (.t 0) (tq 8 (.len (.t 7)) (tq 9 (.bin .sub (.t 6) (.t 8)) (tm 1 (.t 9) .done))))))
 (.seq (.seq (.reg (tm 10 (.t 1) (tq 11 (.bin .lss (.t 10) (.c (.int .i64 0))) .done)))
 (.cond (.t 11) (.seq (.reg (tq 4 (.mov (.c (.int .i64 (-1)))) .done))
 .ret)
 .skip))
 (.seq (.seq (.reg (tm 5 (.c (.int .i64 0)) .done))
 (.block 0 (.loop (.seq (.seq (.reg (tm 12 (.t 5) (tm 13 (.t 0) (tq 14 (.len (.t 13)) (tq 15 (.bin .lss (.t 12) (.t 14)) .done)))))
 (.cond (.t 15) .skip
 (.exit 0)))
 (.seq (.block 1 (.seq (.reg (tm 18 (.t 0) (tm 19 (.t 5) (tq 20 (.iaddr 3 (.t 18) (.t 19)) (tq 21 (.load 3 true (.t 20)) (tm 22 (.t 1) (tq 23 (.call 223 [(.t 21),(.t 22)]) (tm 1 (.t 23) .done))))))))
 (.seq (.reg (tm 24 (.t 1) (tq 25 (.bin .lss (.t 24) (.c (.int .i64 0))) .done)))
 (.cond (.t 25) (.seq (.reg (tq 4 (.mov (.c (.int .i64 (-1)))) .done))
 .ret)
 .skip))))
 (.reg (tm 16 (.t 5) (tq 17 (.bin .add (.t 16) (.c (.int .i64 1))) (tm 5 (.t 17) .done)))))))))
 (.cut (.seq (.reg (tm 26 (.t 1) (tm 4 (.t 26) .done)))
 .ret))))))
theorem fc162:fcomp Tryz.prog Tryz.f162 = some (c162.erase,[.mov (.t 4)],27):=by kernel_rfl
def laws_szAtomS_L1 :List GAtom → Int → Option (Fl Int Int)
  | [],left_21 =>
    some (.go left_21)
  | x_39 :: xs,left_21 =>
    (laws_szAtom x_39 left_21).bind fun r_42 =>
    if (decide (r_42 < 0)) then
    some (.ret (-1))
    else
    laws_szAtomS_L1 xs r_42 

def laws_szAtomS (a_1:(List GAtom)) (left_2:Int):Option Int :=
    if (decide (w64 (left_2 - (a_1.length:Int)) < 0)) then
    some (-1)
    else
    (laws_szAtomS_L1 a_1 (w64 (left_2 - (a_1.length:Int)))).bind fun q => (match q with
    | .ret r => some r
    | .go left_31 =>
    some left_31)
theorem w_laws_szAtomS (a_1:(List GAtom)) (left_2:Int) (r:Int) (hf:laws_szAtomS a_1 left_2 = some r):CallOK Tryz.prog 162 .flat [(.lst 3 (a_1.map encGAtom)),(.int .i64 left_2)] (.int .i64 r):=by
 refine CallOK.of_awp mixed Tryz.func162 fc162 nle ?_;rw [argT_eq];unfold laws_szAtomS at hf;unfold c162;refine (show awp Tryz.prog false 0 _ (ofL [(0,(.lst 3 (a_1.map encGAtom))),(1,(.int .i64 left_2))]) [] _ from ?_);refine sr<|s_mov (.int .i64 0) rfl<|dk<|sr<|s_mov (.int .i64 left_2) rfl<|s_mov (.lst 3 (a_1.map encGAtom)) rfl<|s_dof (o_len (enc:=encGAtom) rfl) fun hl3 => s_q (.int .i64 (w64 (left_2 - (a_1.length:Int)))) rfl rfl rfl<|s_mov (.int .i64 (w64 (left_2 - (a_1.length:Int)))) rfl<|dk<|awp_seq<|sr<|s_mov (.int .i64 (w64 (left_2 - (a_1.length:Int)))) rfl<|s_q (.bool (decide (w64 (left_2 - (a_1.length:Int)) < 0))) rfl rfl rfl<|?_
 refine dk<|?_
 rcases oi hf with ⟨c4,hf⟩ | ⟨c4,hf⟩
 ·refine w_condt rfl c4<|sr<|s_mov (.int .i64 (-1)) rfl<|dk<|w_ret<|?_;obtain rfl:=os hf;exact r_flat ⟨trivial,trivial⟩ rfl (.refl _)
 ·refine w_condf rfl (bf c4)<|w_skip<|k_seq<|awp_seq<|sr<|s_mov (.int .i64 0) rfl<|dk<|?_
  obtain ⟨p32,hb1,hf⟩:=ob hf
  refine awp_cutx (X:={q:Int // p32 = .go q}) (fun q => ([(1,(.int .i64 q.1))],[])) ?_ ?_
  ·refine awp_loop (X:={q:(Int × Nat) // laws_szAtomS_L1 (a_1.drop q.2) q.1 = some p32}) (fun q => ([(0,(.lst 3 (a_1.map encGAtom))),(1,(.int .i64 q.1.1)),(5,(.int .i64 (q.1.2:Int)))],[])) (fun q => a_1.length - q.1.2) ⟨(w64 (left_2 - (a_1.length:Int)),0),hb1⟩ ⟨[],[],_,_,rfl,rfl,⟨.refl _,⟨.refl _,⟨.refl _,trivial⟩⟩⟩,(.refl _)⟩ ?_
   rintro ⟨⟨left_21,i_22⟩,hc1⟩
   have hc1:laws_szAtomS_L1 (a_1.drop i_22) left_21 = some p32:=hc1
   refine (show awp Tryz.prog false 0 _ (ofL [(0,(.lst 3 (a_1.map encGAtom))),(1,(.int .i64 left_21)),(5,(.int .i64 (i_22:Int)))]) [] _ from ?_)
   rcases dropc a_1 i_22 with ⟨hie35,hd38⟩ | ⟨hlt33,x_39,hx34,hd38⟩
   ·rw [hd38,laws_szAtomS_L1.eq_1] at hc1
    have hq37:=dlf hie35
    refine awp_seq<|sr<|s_mov (.int .i64 (i_22:Int)) rfl<|s_mov (.lst 3 (a_1.map encGAtom)) rfl<|s_dof (o_len (enc:=encGAtom) rfl) fun hl40 => s_q (.bool (decide ((i_22:Int) < (a_1.length:Int)))) rfl rfl rfl<|dk<|w_condf rfl hq37<|w_exit<|k_seqx<|k_loopx<|k_blkx<|?_;obtain rfl:=os hc1;exact k_cutn ⟨_,rfl⟩ ⟨[],[],_,_,rfl,rfl,⟨.refl _,trivial⟩,(.refl _)⟩
   ·rw [hd38,laws_szAtomS_L1.eq_2] at hc1
    have hq37:=dlt hlt33
    refine awp_seq<|sr<|s_mov (.int .i64 (i_22:Int)) rfl<|s_mov (.lst 3 (a_1.map encGAtom)) rfl<|s_dof (o_len (enc:=encGAtom) rfl) fun hl41 => s_q (.bool (decide ((i_22:Int) < (a_1.length:Int)))) rfl rfl rfl<|dk<|w_condt rfl hq37<|w_skip<|k_seq<|awp_seq<|w_blk<|sr<|?_
    obtain ⟨r_42,er43,hc1⟩:=ob hc1
    refine s_mov (.lst 3 (a_1.map encGAtom)) rfl<|s_mov (.int .i64 (i_22:Int)) rfl<|s_do (o_iaddrn (enc:=encGAtom) rfl rfl hx34)<|s_q (encGAtom x_39) rfl nle rfl<|s_mov (.int .i64 left_21) rfl<|s_do (o_call (w_laws_szAtom _ _ _ er43) rfl (.refl _) rfl)<|s_mov (.int .i64 r_42) rfl<|dk<|sr<|s_mov (.int .i64 r_42) rfl<|s_q (.bool (decide (r_42 < 0))) rfl rfl rfl<|dk<|?_
    rcases oi hc1 with ⟨c44,hc1⟩ | ⟨c44,hc1⟩
    ·refine w_condt rfl c44<|sr<|s_mov (.int .i64 (-1)) rfl<|dk<|w_ret<|?_;obtain rfl:=os hc1;obtain rfl:=os hf;exact r_flat ⟨trivial,trivial⟩ rfl (.refl _)
    ·refine w_condf rfl (bf c44)<|w_skip<|k_blk<|k_seq<|w_reg<|s_mov (.int .i64 (i_22:Int)) rfl<|s_q (.int .i64 (w64 ((i_22:Int) + 1))) rfl rfl rfl<|s_mov (.int .i64 (w64 ((i_22:Int) + 1))) rfl<|w_done<|?_;exact k_loopn ⟨(r_42,(i_22 + 1)),hc1⟩ (mul hlt33) ⟨[],[],_,_,rfl,rfl,⟨.refl _,⟨.refl _,⟨.of_eq (congrArg (AV.int _) (w64_incr hlt33 hl41)),trivial⟩⟩⟩,(.refl _)⟩
  ·rintro ⟨left_31,rfl⟩
   refine sr<|s_mov (.int .i64 left_31) rfl<|s_mov (.int .i64 left_31) rfl<|dk<|w_ret<|?_;obtain rfl:=os hf;exact r_flat ⟨trivial,trivial⟩ rfl (.refl _)

/- laws.szCond -/
def c216:ACode :=
 (.seq (.reg (tq 2 (.box 3 (.t 0)) (tm 4 (.c (.int .i64 0)) .done)))
 (.seq (.reg (tm 5 (.t 1) (tq 6 (.faddr 0 (.t 2)) (tq 7 (.load 1 false (.t 6)) (tq 8 (.lenS (.t 7)) (tq 9 (.bin .sub (.t 5) (.t 8)) (tm 1 (.t 9) .done)))))))
 (.seq (.seq (.reg (tm 10 (.t 1) (tq 11 (.bin .lss (.t 10) (.c (.int .i64 0))) .done)))
 (.cond (.t 11) (.seq (.reg (tq 4 (.mov (.c (.int .i64 (-1)))) .done))
 .ret)
 .skip))
 (.seq (.reg (tq 12 (.faddr 2 (.t 2)) (tq 13 (.load 1 false (.t 12)) (tm 14 (.t 1) (tq 15 (.call 162 [(.t 13),(.t 14)]) (tm 1 (.t 15) .done))))))
 (.seq (.seq (.reg (tm 16 (.t 1) (tq 17 (.bin .lss (.t 16) (.c (.int .i64 0))) .done)))
 (.cond (.t 17) (.seq (.reg (tq 4 (.mov (.c (.int .i64 (-1)))) .done))
 .ret)
 .skip))
 (.seq (.reg (tm 18 (.t 1) (tm 4 (.t 18) .done)))
 .ret))))))
theorem fc216:fcomp Tryz.prog Tryz.f216 = some (c216.erase,[.mov (.t 4)],19):=by kernel_rfl
def laws_szCond (a_1:GCond) (left_2:Int):Option Int :=
    if (decide (w64 (left_2 - (a_1.Column.length:Int)) < 0)) then
    some (-1)
    else
    (laws_szAtomS a_1.Value (w64 (left_2 - (a_1.Column.length:Int)))).bind fun r_5 =>
    if (decide (r_5 < 0)) then
    some (-1)
    else
    some r_5
theorem w_laws_szCond (a_1:GCond) (left_2:Int) (r:Int) (hf:laws_szCond a_1 left_2 = some r):CallOK Tryz.prog 216 .flat [(encGCond a_1),(.int .i64 left_2)] (.int .i64 r):=by
 refine CallOK.of_awp mixed Tryz.func216 fc216 nle ?_;rw [argT_eq];unfold laws_szCond at hf;unfold c216;refine (show awp Tryz.prog false 0 _ (ofL [(0,(encGCond a_1)),(1,(.int .i64 left_2))]) [] _ from ?_);refine sr<|s_do (o_box (j:=0) (c:=(.agg [(.str a_1.Column),(.int .i64 a_1.Func),(.lst 3 (a_1.Value.map encGAtom))])) rfl trivial rfl rfl)<|s_mov (.int .i64 0) rfl<|dk<|sr<|s_mov (.int .i64 left_2) rfl<|s_q (.ptr 0 0 0) rfl trivial rfl<|s_q (.str a_1.Column) rfl nle rfl<|s_dof (o_lenS rfl) fun hl3 => s_q (.int .i64 (w64 (left_2 - (a_1.Column.length:Int)))) rfl rfl rfl<|s_mov (.int .i64 (w64 (left_2 - (a_1.Column.length:Int)))) rfl<|dk<|?_
 refine awp_seq<|sr<|s_mov (.int .i64 (w64 (left_2 - (a_1.Column.length:Int)))) rfl<|s_q (.bool (decide (w64 (left_2 - (a_1.Column.length:Int)) < 0))) rfl rfl rfl<|dk<|?_
 rcases oi hf with ⟨c4,hf⟩ | ⟨c4,hf⟩
 ·refine w_condt rfl c4<|sr<|s_mov (.int .i64 (-1)) rfl<|dk<|w_ret<|?_;obtain rfl:=os hf;exact r_flat ⟨trivial,trivial⟩ rfl (.refl _)
 ·refine w_condf rfl (bf c4)<|w_skip<|k_seq<|sr<|?_
  obtain ⟨r_5,er6,hf⟩:=ob hf
  refine s_q (.ptr 0 0 2) rfl trivial rfl<|s_q (.lst 3 (a_1.Value.map encGAtom)) rfl nle rfl<|s_mov (.int .i64 (w64 (left_2 - (a_1.Column.length:Int)))) rfl<|s_do (o_call (w_laws_szAtomS _ _ _ er6) rfl (.refl _) rfl)<|s_mov (.int .i64 r_5) rfl<|dk<|awp_seq<|sr<|s_mov (.int .i64 r_5) rfl<|s_q (.bool (decide (r_5 < 0))) rfl rfl rfl<|dk<|?_
  rcases oi hf with ⟨c7,hf⟩ | ⟨c7,hf⟩
  ·refine w_condt rfl c7<|sr<|s_mov (.int .i64 (-1)) rfl<|dk<|w_ret<|?_;obtain rfl:=os hf;exact r_flat ⟨trivial,trivial⟩ rfl (.refl _)
  ·refine w_condf rfl (bf c7)<|w_skip<|k_seq<|sr<|s_mov (.int .i64 r_5) rfl<|s_mov (.int .i64 r_5) rfl<|dk<|w_ret<|?_;obtain rfl:=os hf;exact r_flat ⟨trivial,trivial⟩ rfl (.refl _)

/- laws.szCondS -/
def c150:ACode :=
 (.seq (.reg (tm 4 (.c (.int .i64 0)) .done))
 (.seq (.reg (tm 6 (.t 1) (tm 7 (.t 0) (tq 8 (.len (.t 7)) (tq 9 (.bin .sub (.t 6) (.t 8)) (tm 1 (.t 9) .done))))))
 (.seq (.seq (.reg (tm 10 (.t 1) (tq 11 (.bin .lss (.t 10) (.c (.int .i64 0))) .done)))
 (.cond (.t 11) (.seq (.reg (tq 4 (.mov (.c (.int .i64 (-1)))) .done))
 .ret)
 .skip))
 (.seq (.seq (.reg (tm 5 (.c (.int .i64 0)) .done))
 (.block 0 (.loop (.seq (.seq (.reg (tm 12 (.t 5) (tm 13 (.t 0) (tq 14 (.len (.t 13)) (tq 15 (.bin .lss (.t 12) (.t 14)) .done)))))
 (.cond (.t 15) .skip
 (.exit 0)))
 (.seq (.block 1 (.seq (.reg (tm 18 (.t 0) (tm 19 (.t 5) (tq 20 (.iaddr 3 (.t 18) (.t 19)) (tq 21 (.load 3 true (.t 20)) (tm 22 (.t 1) (tq 23 (.call 216 [(.t 21),(.t 22)]) (tm 1 (.t 23) .done))))))))
 (.seq (.reg (tm 24 (.t 1) (tq 25 (.bin .lss (.t 24) (.c (.int .i64 0))) .done)))
 (.cond (.t 25) (.seq (.reg (tq 4 (.mov (.c (.int .i64 (-1)))) .done))
 .ret)
 .skip))))
 (.reg (tm 16 (.t 5) (tq 17 (.bin .add (.t 16) (.c (.int .i64 1))) (tm 5 (.t 17) .done)))))))))
 (.cut (.seq (.reg (tm 26 (.t 1) (tm 4 (.t 26) .done)))
 .ret))))))
theorem fc150:fcomp Tryz.prog Tryz.f150 = some (c150.erase,[.mov (.t 4)],27):=by kernel_rfl
def laws_szCondS_L1 :List GCond → Int → Option (Fl Int Int)
  | [],left_21 =>
    some (.go left_21)
  | x_39 :: xs,left_21 =>
    (laws_szCond x_39 left_21).bind fun r_42 =>
    if (decide (r_42 < 0)) then
    some (.ret (-1))
    else
    laws_szCondS_L1 xs r_42 

def laws_szCondS (a_1:(List GCond)) (left_2:Int):Option Int :=
    if (decide (w64 (left_2 - (a_1.length:Int)) < 0)) then
    some (-1)
    else
    (laws_szCondS_L1 a_1 (w64 (left_2 - (a_1.length:Int)))).bind fun q => (match q with
    | .ret r => some r
    | .go left_31 =>
    some left_31)
theorem w_laws_szCondS (a_1:(List GCond)) (left_2:Int) (r:Int) (hf:laws_szCondS a_1 left_2 = some r):CallOK Tryz.prog 150 .flat [(.lst 3 (a_1.map encGCond)),(.int .i64 left_2)] (.int .i64 r):=by
 refine CallOK.of_awp mixed Tryz.func150 fc150 nle ?_;rw [argT_eq];unfold laws_szCondS at hf;unfold c150;refine (show awp Tryz.prog false 0 _ (ofL [(0,(.lst 3 (a_1.map encGCond))),(1,(.int .i64 left_2))]) [] _ from ?_);refine sr<|s_mov (.int .i64 0) rfl<|dk<|sr<|s_mov (.int .i64 left_2) rfl<|s_mov (.lst 3 (a_1.map encGCond)) rfl<|s_dof (o_len (enc:=encGCond) rfl) fun hl3 => s_q (.int .i64 (w64 (left_2 - (a_1.length:Int)))) rfl rfl rfl<|s_mov (.int .i64 (w64 (left_2 - (a_1.length:Int)))) rfl<|dk<|awp_seq<|sr<|s_mov (.int .i64 (w64 (left_2 - (a_1.length:Int)))) rfl<|s_q (.bool (decide (w64 (left_2 - (a_1.length:Int)) < 0))) rfl rfl rfl<|?_
 refine dk<|?_
 rcases oi hf with ⟨c4,hf⟩ | ⟨c4,hf⟩
 ·refine w_condt rfl c4<|sr<|s_mov (.int .i64 (-1)) rfl<|dk<|w_ret<|?_;obtain rfl:=os hf;exact r_flat ⟨trivial,trivial⟩ rfl (.refl _)
 ·refine w_condf rfl (bf c4)<|w_skip<|k_seq<|awp_seq<|sr<|s_mov (.int .i64 0) rfl<|dk<|?_
  obtain ⟨p32,hb1,hf⟩:=ob hf
  refine awp_cutx (X:={q:Int // p32 = .go q}) (fun q => ([(1,(.int .i64 q.1))],[])) ?_ ?_
  ·refine awp_loop (X:={q:(Int × Nat) // laws_szCondS_L1 (a_1.drop q.2) q.1 = some p32}) (fun q => ([(0,(.lst 3 (a_1.map encGCond))),(1,(.int .i64 q.1.1)),(5,(.int .i64 (q.1.2:Int)))],[])) (fun q => a_1.length - q.1.2) ⟨(w64 (left_2 - (a_1.length:Int)),0),hb1⟩ ⟨[],[],_,_,rfl,rfl,⟨.refl _,⟨.refl _,⟨.refl _,trivial⟩⟩⟩,(.refl _)⟩ ?_
   rintro ⟨⟨left_21,i_22⟩,hc1⟩
   have hc1:laws_szCondS_L1 (a_1.drop i_22) left_21 = some p32:=hc1
   refine (show awp Tryz.prog false 0 _ (ofL [(0,(.lst 3 (a_1.map encGCond))),(1,(.int .i64 left_21)),(5,(.int .i64 (i_22:Int)))]) [] _ from ?_)
   rcases dropc a_1 i_22 with ⟨hie35,hd38⟩ | ⟨hlt33,x_39,hx34,hd38⟩
   ·rw [hd38,laws_szCondS_L1.eq_1] at hc1
    have hq37:=dlf hie35
    refine awp_seq<|sr<|s_mov (.int .i64 (i_22:Int)) rfl<|s_mov (.lst 3 (a_1.map encGCond)) rfl<|s_dof (o_len (enc:=encGCond) rfl) fun hl40 => s_q (.bool (decide ((i_22:Int) < (a_1.length:Int)))) rfl rfl rfl<|dk<|w_condf rfl hq37<|w_exit<|k_seqx<|k_loopx<|k_blkx<|?_;obtain rfl:=os hc1;exact k_cutn ⟨_,rfl⟩ ⟨[],[],_,_,rfl,rfl,⟨.refl _,trivial⟩,(.refl _)⟩
   ·rw [hd38,laws_szCondS_L1.eq_2] at hc1
    have hq37:=dlt hlt33
    refine awp_seq<|sr<|s_mov (.int .i64 (i_22:Int)) rfl<|s_mov (.lst 3 (a_1.map encGCond)) rfl<|s_dof (o_len (enc:=encGCond) rfl) fun hl41 => s_q (.bool (decide ((i_22:Int) < (a_1.length:Int)))) rfl rfl rfl<|dk<|w_condt rfl hq37<|w_skip<|k_seq<|awp_seq<|w_blk<|sr<|?_
    obtain ⟨r_42,er43,hc1⟩:=ob hc1
    refine s_mov (.lst 3 (a_1.map encGCond)) rfl<|s_mov (.int .i64 (i_22:Int)) rfl<|s_do (o_iaddrn (enc:=encGCond) rfl rfl hx34)<|s_q (encGCond x_39) rfl nle rfl<|s_mov (.int .i64 left_21) rfl<|s_do (o_call (w_laws_szCond _ _ _ er43) rfl (.refl _) rfl)<|s_mov (.int .i64 r_42) rfl<|dk<|sr<|s_mov (.int .i64 r_42) rfl<|s_q (.bool (decide (r_42 < 0))) rfl rfl rfl<|dk<|?_
    rcases oi hc1 with ⟨c44,hc1⟩ | ⟨c44,hc1⟩
    ·refine w_condt rfl c44<|sr<|s_mov (.int .i64 (-1)) rfl<|dk<|w_ret<|?_;obtain rfl:=os hc1;obtain rfl:=os hf;exact r_flat ⟨trivial,trivial⟩ rfl (.refl _)
    ·refine w_condf rfl (bf c44)<|w_skip<|k_blk<|k_seq<|w_reg<|s_mov (.int .i64 (i_22:Int)) rfl<|s_q (.int .i64 (w64 ((i_22:Int) + 1))) rfl rfl rfl<|s_mov (.int .i64 (w64 ((i_22:Int) + 1))) rfl<|w_done<|?_;exact k_loopn ⟨(r_42,(i_22 + 1)),hc1⟩ (mul hlt33) ⟨[],[],_,_,rfl,rfl,⟨.refl _,⟨.refl _,⟨.of_eq (congrArg (AV.int _) (w64_incr hlt33 hl41)),trivial⟩⟩⟩,(.refl _)⟩
  ·rintro ⟨left_31,rfl⟩
   refine sr<|s_mov (.int .i64 left_31) rfl<|s_mov (.int .i64 left_31) rfl<|dk<|w_ret<|?_;obtain rfl:=os hf;exact r_flat ⟨trivial,trivial⟩ rfl (.refl _)

/- laws.szStringS -/
def c152:ACode :=
 (.seq (.reg (tm 4 (.c (.int .i64 0)) .done))
 (.seq (.reg (tm 6 (.t 1) (tm 7 (.t 0) (tq 8 (.len (.t 7)) (tq 9 (.bin .sub (.t 6) (.t 8)) (tm 1 (.t 9) .done))))))
 (.seq (.seq (.reg (tm 10 (.t 1) (tq 11 (.bin .lss (.t 10) (.c (.int .i64 0))) .done)))
 (.cond (.t 11) (.seq (.reg (tq 4 (.mov (.c (.int .i64 (-1)))) .done))
 .ret)
 .skip))
 (.seq (.seq (.reg (tm 5 (.c (.int .i64 0)) .done))
 (.block 0 (.loop (.seq (.seq (.reg (tm 12 (.t 5) (tm 13 (.t 0) (tq 14 (.len (.t 13)) (tq 15 (.bin .lss (.t 12) (.t 14)) .done)))))
 (.cond (.t 15) .skip
 (.exit 0)))
 (.seq (.block 1 (.seq (.reg (tm 18 (.t 1) (tm 19 (.t 0) (tm 20 (.t 5) (tq 21 (.iaddr 1 (.t 19) (.t 20)) (tq 22 (.load 1 false (.t 21)) (tq 23 (.lenS (.t 22)) (tq 24 (.bin .sub (.t 18) (.t 23)) (tm 1 (.t 24) .done)))))))))
 (.seq (.reg (tm 25 (.t 1) (tq 26 (.bin .lss (.t 25) (.c (.int .i64 0))) .done)))
 (.cond (.t 26) (.seq (.reg (tq 4 (.mov (.c (.int .i64 (-1)))) .done))
 .ret)
 .skip))))
 (.reg (tm 16 (.t 5) (tq 17 (.bin .add (.t 16) (.c (.int .i64 1))) (tm 5 (.t 17) .done)))))))))
 (.cut (.seq (.reg (tm 27 (.t 1) (tm 4 (.t 27) .done)))
 .ret))))))
theorem fc152:fcomp Tryz.prog Tryz.f152 = some (c152.erase,[.mov (.t 4)],28):=by kernel_rfl
def laws_szStringS_L1 :List Str → Int → Option (Fl Int Int)
  | [],left_19 =>
    some (.go left_19)
  | x_36 :: xs,left_19 =>
    if (decide (w64 (left_19 - (x_36.length:Int)) < 0)) then
    some (.ret (-1))
    else
    laws_szStringS_L1 xs (w64 (left_19 - (x_36.length:Int))) 

def laws_szStringS (a_1:(List Str)) (left_2:Int):Option Int :=
    if (decide (w64 (left_2 - (a_1.length:Int)) < 0)) then
    some (-1)
    else
    (laws_szStringS_L1 a_1 (w64 (left_2 - (a_1.length:Int)))).bind fun q => (match q with
    | .ret r => some r
    | .go left_28 =>
    some left_28)
theorem w_laws_szStringS (a_1:(List Str)) (left_2:Int) (r:Int) (hf:laws_szStringS a_1 left_2 = some r):CallOK Tryz.prog 152 .flat [(.lst 1 (a_1.map AV.str)),(.int .i64 left_2)] (.int .i64 r):=by
 refine CallOK.of_awp mixed Tryz.func152 fc152 nle ?_;rw [argT_eq];unfold laws_szStringS at hf;unfold c152;refine (show awp Tryz.prog false 0 _ (ofL [(0,(.lst 1 (a_1.map AV.str))),(1,(.int .i64 left_2))]) [] _ from ?_);refine sr<|s_mov (.int .i64 0) rfl<|dk<|sr<|s_mov (.int .i64 left_2) rfl<|s_mov (.lst 1 (a_1.map AV.str)) rfl<|s_dof (o_len (enc:=AV.str) rfl) fun hl3 => s_q (.int .i64 (w64 (left_2 - (a_1.length:Int)))) rfl rfl rfl<|s_mov (.int .i64 (w64 (left_2 - (a_1.length:Int)))) rfl<|dk<|awp_seq<|sr<|s_mov (.int .i64 (w64 (left_2 - (a_1.length:Int)))) rfl<|s_q (.bool (decide (w64 (left_2 - (a_1.length:Int)) < 0))) rfl rfl rfl<|?_
 refine dk<|?_
 rcases oi hf with ⟨c4,hf⟩ | ⟨c4,hf⟩
 ·refine w_condt rfl c4<|sr<|s_mov (.int .i64 (-1)) rfl<|dk<|w_ret<|?_;obtain rfl:=os hf;exact r_flat ⟨trivial,trivial⟩ rfl (.refl _)
 ·refine w_condf rfl (bf c4)<|w_skip<|k_seq<|awp_seq<|sr<|s_mov (.int .i64 0) rfl<|dk<|?_
  obtain ⟨p29,hb1,hf⟩:=ob hf
  refine awp_cutx (X:={q:Int // p29 = .go q}) (fun q => ([(1,(.int .i64 q.1))],[])) ?_ ?_
  ·refine awp_loop (X:={q:(Int × Nat) // laws_szStringS_L1 (a_1.drop q.2) q.1 = some p29}) (fun q => ([(0,(.lst 1 (a_1.map AV.str))),(1,(.int .i64 q.1.1)),(5,(.int .i64 (q.1.2:Int)))],[])) (fun q => a_1.length - q.1.2) ⟨(w64 (left_2 - (a_1.length:Int)),0),hb1⟩ ⟨[],[],_,_,rfl,rfl,⟨.refl _,⟨.refl _,⟨.refl _,trivial⟩⟩⟩,(.refl _)⟩ ?_
   rintro ⟨⟨left_19,i_20⟩,hc1⟩
   have hc1:laws_szStringS_L1 (a_1.drop i_20) left_19 = some p29:=hc1
   refine (show awp Tryz.prog false 0 _ (ofL [(0,(.lst 1 (a_1.map AV.str))),(1,(.int .i64 left_19)),(5,(.int .i64 (i_20:Int)))]) [] _ from ?_)
   rcases dropc a_1 i_20 with ⟨hie32,hd35⟩ | ⟨hlt30,x_36,hx31,hd35⟩
   ·rw [hd35,laws_szStringS_L1.eq_1] at hc1
    have hq34:=dlf hie32
    refine awp_seq<|sr<|s_mov (.int .i64 (i_20:Int)) rfl<|s_mov (.lst 1 (a_1.map AV.str)) rfl<|s_dof (o_len (enc:=AV.str) rfl) fun hl37 => s_q (.bool (decide ((i_20:Int) < (a_1.length:Int)))) rfl rfl rfl<|dk<|w_condf rfl hq34<|w_exit<|k_seqx<|k_loopx<|k_blkx<|?_;obtain rfl:=os hc1;exact k_cutn ⟨_,rfl⟩ ⟨[],[],_,_,rfl,rfl,⟨.refl _,trivial⟩,(.refl _)⟩
   ·rw [hd35,laws_szStringS_L1.eq_2] at hc1
    have hq34:=dlt hlt30
    refine awp_seq<|sr<|s_mov (.int .i64 (i_20:Int)) rfl<|s_mov (.lst 1 (a_1.map AV.str)) rfl<|s_dof (o_len (enc:=AV.str) rfl) fun hl38 => s_q (.bool (decide ((i_20:Int) < (a_1.length:Int)))) rfl rfl rfl<|dk<|w_condt rfl hq34<|w_skip<|k_seq<|awp_seq<|w_blk<|sr<|s_mov (.int .i64 left_19) rfl<|s_mov (.lst 1 (a_1.map AV.str)) rfl<|s_mov (.int .i64 (i_20:Int)) rfl<|s_do (o_iaddrn (enc:=AV.str) rfl rfl hx31)<|s_q (.str x_36) rfl ⟨rfl,rfl⟩ rfl<|s_dof (o_lenS rfl) fun hl39 => s_q (.int .i64 (w64 (left_19 - (x_36.length:Int)))) rfl rfl rfl<|s_mov (.int .i64 (w64 (left_19 - (x_36.length:Int)))) rfl<|dk<|?_
    refine sr<|s_mov (.int .i64 (w64 (left_19 - (x_36.length:Int)))) rfl<|s_q (.bool (decide (w64 (left_19 - (x_36.length:Int)) < 0))) rfl rfl rfl<|dk<|?_
    rcases oi hc1 with ⟨c40,hc1⟩ | ⟨c40,hc1⟩
    ·refine w_condt rfl c40<|sr<|s_mov (.int .i64 (-1)) rfl<|dk<|w_ret<|?_;obtain rfl:=os hc1;obtain rfl:=os hf;exact r_flat ⟨trivial,trivial⟩ rfl (.refl _)
    ·refine w_condf rfl (bf c40)<|w_skip<|k_blk<|k_seq<|w_reg<|s_mov (.int .i64 (i_20:Int)) rfl<|s_q (.int .i64 (w64 ((i_20:Int) + 1))) rfl rfl rfl<|s_mov (.int .i64 (w64 ((i_20:Int) + 1))) rfl<|w_done<|?_;exact k_loopn ⟨(w64 (left_19 - (x_36.length:Int)),(i_20 + 1)),hc1⟩ (mul hlt30) ⟨[],[],_,_,rfl,rfl,⟨.refl _,⟨.refl _,⟨.of_eq (congrArg (AV.int _) (w64_incr hlt30 hl38)),trivial⟩⟩⟩,(.refl _)⟩
  ·rintro ⟨left_28,rfl⟩
   refine sr<|s_mov (.int .i64 left_28) rfl<|s_mov (.int .i64 left_28) rfl<|dk<|w_ret<|?_;obtain rfl:=os hf;exact r_flat ⟨trivial,trivial⟩ rfl (.refl _)

/- laws.szSet -/
def c81:ACode :=
 (.seq (.reg (tq 2 (.box 3 (.t 0)) (tm 4 (.c (.int .i64 0)) .done)))
 (.seq (.reg (tm 5 (.t 1) (tq 6 (.faddr 0 (.t 2)) (tq 7 (.load 1 false (.t 6)) (tq 8 (.lenS (.t 7)) (tq 9 (.bin .sub (.t 5) (.t 8)) (tm 1 (.t 9) .done)))))))
 (.seq (.seq (.reg (tm 10 (.t 1) (tq 11 (.bin .lss (.t 10) (.c (.int .i64 0))) .done)))
 (.cond (.t 11) (.seq (.reg (tq 4 (.mov (.c (.int .i64 (-1)))) .done))
 .ret)
 .skip))
 (.seq (.reg (tq 12 (.faddr 1 (.t 2)) (tq 13 (.load 1 false (.t 12)) (tm 14 (.t 1) (tq 15 (.call 162 [(.t 13),(.t 14)]) (tm 1 (.t 15) .done))))))
 (.seq (.seq (.reg (tm 16 (.t 1) (tq 17 (.bin .lss (.t 16) (.c (.int .i64 0))) .done)))
 (.cond (.t 17) (.seq (.reg (tq 4 (.mov (.c (.int .i64 (-1)))) .done))
 .ret)
 .skip))
 (.seq (.reg (tq 18 (.faddr 2 (.t 2)) (tq 19 (.load 1 false (.t 18)) (tm 20 (.t 1) (tq 21 (.call 152 [(.t 19),(.t 20)]) (tm 1 (.t 21) .done))))))
 (.seq (.seq (.reg (tm 22 (.t 1) (tq 23 (.bin .lss (.t 22) (.c (.int .i64 0))) .done)))
 (.cond (.t 23) (.seq (.reg (tq 4 (.mov (.c (.int .i64 (-1)))) .done))
 .ret)
 .skip))
 (.seq (.reg (tm 24 (.t 1) (tm 4 (.t 24) .done)))
 .ret))))))))
theorem fc81:fcomp Tryz.prog Tryz.f81 = some (c81.erase,[.mov (.t 4)],25):=by kernel_rfl
def laws_szSet (a_1:GSet) (left_2:Int):Option Int :=
    if (decide (w64 (left_2 - (a_1.Column.length:Int)) < 0)) then
    some (-1)
    else
    (laws_szAtomS a_1.Value (w64 (left_2 - (a_1.Column.length:Int)))).bind fun r_5 =>
    if (decide (r_5 < 0)) then
    some (-1)
    else
    (laws_szStringS a_1.Names r_5).bind fun r_8 =>
    if (decide (r_8 < 0)) then
    some (-1)
    else
    some r_8
theorem w_laws_szSet (a_1:GSet) (left_2:Int) (r:Int) (hf:laws_szSet a_1 left_2 = some r):CallOK Tryz.prog 81 .flat [(encGSet a_1),(.int .i64 left_2)] (.int .i64 r):=by
 refine CallOK.of_awp mixed Tryz.func81 fc81 nle ?_;rw [argT_eq];unfold laws_szSet at hf;unfold c81;refine (show awp Tryz.prog false 0 _ (ofL [(0,(encGSet a_1)),(1,(.int .i64 left_2))]) [] _ from ?_);refine sr<|s_do (o_box (j:=0) (c:=(.agg [(.str a_1.Column),(.lst 3 (a_1.Value.map encGAtom)),(.lst 1 (a_1.Names.map AV.str))])) rfl trivial rfl rfl)<|s_mov (.int .i64 0) rfl<|dk<|sr<|s_mov (.int .i64 left_2) rfl<|s_q (.ptr 0 0 0) rfl trivial rfl<|s_q (.str a_1.Column) rfl nle rfl<|s_dof (o_lenS rfl) fun hl3 => s_q (.int .i64 (w64 (left_2 - (a_1.Column.length:Int)))) rfl rfl rfl<|s_mov (.int .i64 (w64 (left_2 - (a_1.Column.length:Int)))) rfl<|w_done<|?_
 refine k_seq<|awp_seq<|sr<|s_mov (.int .i64 (w64 (left_2 - (a_1.Column.length:Int)))) rfl<|s_q (.bool (decide (w64 (left_2 - (a_1.Column.length:Int)) < 0))) rfl rfl rfl<|dk<|?_
 rcases oi hf with ⟨c4,hf⟩ | ⟨c4,hf⟩
 ·refine w_condt rfl c4<|sr<|s_mov (.int .i64 (-1)) rfl<|dk<|w_ret<|?_;obtain rfl:=os hf;exact r_flat ⟨trivial,trivial⟩ rfl (.refl _)
 ·refine w_condf rfl (bf c4)<|w_skip<|k_seq<|sr<|?_
  obtain ⟨r_5,er6,hf⟩:=ob hf
  refine s_q (.ptr 0 0 1) rfl trivial rfl<|s_q (.lst 3 (a_1.Value.map encGAtom)) rfl nle rfl<|s_mov (.int .i64 (w64 (left_2 - (a_1.Column.length:Int)))) rfl<|s_do (o_call (w_laws_szAtomS _ _ _ er6) rfl (.refl _) rfl)<|s_mov (.int .i64 r_5) rfl<|dk<|awp_seq<|sr<|s_mov (.int .i64 r_5) rfl<|s_q (.bool (decide (r_5 < 0))) rfl rfl rfl<|dk<|?_
  rcases oi hf with ⟨c7,hf⟩ | ⟨c7,hf⟩
  ·refine w_condt rfl c7<|sr<|s_mov (.int .i64 (-1)) rfl<|dk<|w_ret<|?_;obtain rfl:=os hf;exact r_flat ⟨trivial,trivial⟩ rfl (.refl _)
  ·refine w_condf rfl (bf c7)<|w_skip<|k_seq<|sr<|?_
   obtain ⟨r_8,er9,hf⟩:=ob hf
   refine s_q (.ptr 0 0 2) rfl trivial rfl<|s_q (.lst 1 (a_1.Names.map AV.str)) rfl nle rfl<|s_mov (.int .i64 r_5) rfl<|s_do (o_call (w_laws_szStringS _ _ _ er9) rfl (.refl _) rfl)<|s_mov (.int .i64 r_8) rfl<|dk<|awp_seq<|sr<|s_mov (.int .i64 r_8) rfl<|s_q (.bool (decide (r_8 < 0))) rfl rfl rfl<|dk<|?_
   rcases oi hf with ⟨c10,hf⟩ | ⟨c10,hf⟩
   ·refine w_condt rfl c10<|sr<|s_mov (.int .i64 (-1)) rfl<|dk<|w_ret<|?_;obtain rfl:=os hf;exact r_flat ⟨trivial,trivial⟩ rfl (.refl _)
   ·refine w_condf rfl (bf c10)<|w_skip<|k_seq<|sr<|s_mov (.int .i64 r_8) rfl<|s_mov (.int .i64 r_8) rfl<|dk<|w_ret<|?_;obtain rfl:=os hf;exact r_flat ⟨trivial,trivial⟩ rfl (.refl _)

/- laws.szSetS -/
def c24:ACode :=
 (.seq (.reg (tm 4 (.c (.int .i64 0)) .done))
 (.seq (.reg (tm 6 (.t 1) (tm 7 (.t 0) (tq 8 (.len (.t 7)) (tq 9 (.bin .sub (.t 6) (.t 8)) (tm 1 (.t 9) .done))))))
 (.seq (.seq (.reg (tm 10 (.t 1) (tq 11 (.bin .lss (.t 10) (.c (.int .i64 0))) .done)))
 (.cond (.t 11) (.seq (.reg (tq 4 (.mov (.c (.int .i64 (-1)))) .done))
 .ret)
 .skip))
 (.seq (.seq (.reg (tm 5 (.c (.int .i64 0)) .done))
 (.block 0 (.loop (.seq (.seq (.reg (tm 12 (.t 5) (tm 13 (.t 0) (tq 14 (.len (.t 13)) (tq 15 (.bin .lss (.t 12) (.t 14)) .done)))))
 (.cond (.t 15) .skip
 (.exit 0)))
 (.seq (.block 1 (.seq (.reg (tm 18 (.t 0) (tm 19 (.t 5) (tq 20 (.iaddr 3 (.t 18) (.t 19)) (tq 21 (.load 3 true (.t 20)) (tm 22 (.t 1) (tq 23 (.call 81 [(.t 21),(.t 22)]) (tm 1 (.t 23) .done))))))))
 (.seq (.reg (tm 24 (.t 1) (tq 25 (.bin .lss (.t 24) (.c (.int .i64 0))) .done)))
 (.cond (.t 25) (.seq (.reg (tq 4 (.mov (.c (.int .i64 (-1)))) .done))
 .ret)
 .skip))))
 (.reg (tm 16 (.t 5) (tq 17 (.bin .add (.t 16) (.c (.int .i64 1))) (tm 5 (.t 17) .done)))))))))
 (.cut (.seq (.reg (tm 26 (.t 1) (tm 4 (.t 26) .done)))
 .ret))))))
theorem fc24:fcomp Tryz.prog Tryz.f24 = some (c24.erase,[.mov (.t 4)],27):=by kernel_rfl
def laws_szSetS_L1 :List GSet → Int → Option (Fl Int Int)
  | [],left_21 =>
    some (.go left_21)
  | x_39 :: xs,left_21 =>
    (laws_szSet x_39 left_21).bind fun r_42 =>
    if (decide (r_42 < 0)) then
    some (.ret (-1))
    else
    laws_szSetS_L1 xs r_42 

def laws_szSetS (a_1:(List GSet)) (left_2:Int):Option Int :=
    if (decide (w64 (left_2 - (a_1.length:Int)) < 0)) then
    some (-1)
    else
    (laws_szSetS_L1 a_1 (w64 (left_2 - (a_1.length:Int)))).bind fun q => (match q with
    | .ret r => some r
    | .go left_31 =>
    some left_31)
theorem w_laws_szSetS (a_1:(List GSet)) (left_2:Int) (r:Int) (hf:laws_szSetS a_1 left_2 = some r):CallOK Tryz.prog 24 .flat [(.lst 3 (a_1.map encGSet)),(.int .i64 left_2)] (.int .i64 r):=by
 refine CallOK.of_awp mixed Tryz.func24 fc24 nle ?_;rw [argT_eq];unfold laws_szSetS at hf;unfold c24;refine (show awp Tryz.prog false 0 _ (ofL [(0,(.lst 3 (a_1.map encGSet))),(1,(.int .i64 left_2))]) [] _ from ?_);refine sr<|s_mov (.int .i64 0) rfl<|dk<|sr<|s_mov (.int .i64 left_2) rfl<|s_mov (.lst 3 (a_1.map encGSet)) rfl<|s_dof (o_len (enc:=encGSet) rfl) fun hl3 => s_q (.int .i64 (w64 (left_2 - (a_1.length:Int)))) rfl rfl rfl<|s_mov (.int .i64 (w64 (left_2 - (a_1.length:Int)))) rfl<|dk<|awp_seq<|sr<|s_mov (.int .i64 (w64 (left_2 - (a_1.length:Int)))) rfl<|s_q (.bool (decide (w64 (left_2 - (a_1.length:Int)) < 0))) rfl rfl rfl<|?_
 refine dk<|?_
 rcases oi hf with ⟨c4,hf⟩ | ⟨c4,hf⟩
 ·refine w_condt rfl c4<|sr<|s_mov (.int .i64 (-1)) rfl<|dk<|w_ret<|?_;obtain rfl:=os hf;exact r_flat ⟨trivial,trivial⟩ rfl (.refl _)
 ·refine w_condf rfl (bf c4)<|w_skip<|k_seq<|awp_seq<|sr<|s_mov (.int .i64 0) rfl<|dk<|?_
  obtain ⟨p32,hb1,hf⟩:=ob hf
  refine awp_cutx (X:={q:Int // p32 = .go q}) (fun q => ([(1,(.int .i64 q.1))],[])) ?_ ?_
  ·refine awp_loop (X:={q:(Int × Nat) // laws_szSetS_L1 (a_1.drop q.2) q.1 = some p32}) (fun q => ([(0,(.lst 3 (a_1.map encGSet))),(1,(.int .i64 q.1.1)),(5,(.int .i64 (q.1.2:Int)))],[])) (fun q => a_1.length - q.1.2) ⟨(w64 (left_2 - (a_1.length:Int)),0),hb1⟩ ⟨[],[],_,_,rfl,rfl,⟨.refl _,⟨.refl _,⟨.refl _,trivial⟩⟩⟩,(.refl _)⟩ ?_
   rintro ⟨⟨left_21,i_22⟩,hc1⟩
   have hc1:laws_szSetS_L1 (a_1.drop i_22) left_21 = some p32:=hc1
   refine (show awp Tryz.prog false 0 _ (ofL [(0,(.lst 3 (a_1.map encGSet))),(1,(.int .i64 left_21)),(5,(.int .i64 (i_22:Int)))]) [] _ from ?_)
   rcases dropc a_1 i_22 with ⟨hie35,hd38⟩ | ⟨hlt33,x_39,hx34,hd38⟩
   ·rw [hd38,laws_szSetS_L1.eq_1] at hc1
    have hq37:=dlf hie35
    refine awp_seq<|sr<|s_mov (.int .i64 (i_22:Int)) rfl<|s_mov (.lst 3 (a_1.map encGSet)) rfl<|s_dof (o_len (enc:=encGSet) rfl) fun hl40 => s_q (.bool (decide ((i_22:Int) < (a_1.length:Int)))) rfl rfl rfl<|dk<|w_condf rfl hq37<|w_exit<|k_seqx<|k_loopx<|k_blkx<|?_;obtain rfl:=os hc1;exact k_cutn ⟨_,rfl⟩ ⟨[],[],_,_,rfl,rfl,⟨.refl _,trivial⟩,(.refl _)⟩
   ·rw [hd38,laws_szSetS_L1.eq_2] at hc1
    have hq37:=dlt hlt33
    refine awp_seq<|sr<|s_mov (.int .i64 (i_22:Int)) rfl<|s_mov (.lst 3 (a_1.map encGSet)) rfl<|s_dof (o_len (enc:=encGSet) rfl) fun hl41 => s_q (.bool (decide ((i_22:Int) < (a_1.length:Int)))) rfl rfl rfl<|dk<|w_condt rfl hq37<|w_skip<|k_seq<|awp_seq<|w_blk<|sr<|?_
    obtain ⟨r_42,er43,hc1⟩:=ob hc1
    refine s_mov (.lst 3 (a_1.map encGSet)) rfl<|s_mov (.int .i64 (i_22:Int)) rfl<|s_do (o_iaddrn (enc:=encGSet) rfl rfl hx34)<|s_q (encGSet x_39) rfl nle rfl<|s_mov (.int .i64 left_21) rfl<|s_do (o_call (w_laws_szSet _ _ _ er43) rfl (.refl _) rfl)<|s_mov (.int .i64 r_42) rfl<|dk<|sr<|s_mov (.int .i64 r_42) rfl<|s_q (.bool (decide (r_42 < 0))) rfl rfl rfl<|dk<|?_
    rcases oi hc1 with ⟨c44,hc1⟩ | ⟨c44,hc1⟩
    ·refine w_condt rfl c44<|sr<|s_mov (.int .i64 (-1)) rfl<|dk<|w_ret<|?_;obtain rfl:=os hc1;obtain rfl:=os hf;exact r_flat ⟨trivial,trivial⟩ rfl (.refl _)
    ·refine w_condf rfl (bf c44)<|w_skip<|k_blk<|k_seq<|w_reg<|s_mov (.int .i64 (i_22:Int)) rfl<|s_q (.int .i64 (w64 ((i_22:Int) + 1))) rfl rfl rfl<|s_mov (.int .i64 (w64 ((i_22:Int) + 1))) rfl<|w_done<|?_;exact k_loopn ⟨(r_42,(i_22 + 1)),hc1⟩ (mul hlt33) ⟨[],[],_,_,rfl,rfl,⟨.refl _,⟨.refl _,⟨.of_eq (congrArg (AV.int _) (w64_incr hlt33 hl41)),trivial⟩⟩⟩,(.refl _)⟩
  ·rintro ⟨left_31,rfl⟩
   refine sr<|s_mov (.int .i64 left_31) rfl<|s_mov (.int .i64 left_31) rfl<|dk<|w_ret<|?_;obtain rfl:=os hf;exact r_flat ⟨trivial,trivial⟩ rfl (.refl _)

/- laws.szMut -/
def c217:ACode :=
 (.seq (.reg (tq 2 (.box 3 (.t 0)) (tm 4 (.c (.int .i64 0)) .done)))
 (.seq (.reg (tm 5 (.t 1) (tq 6 (.faddr 0 (.t 2)) (tq 7 (.load 1 false (.t 6)) (tq 8 (.lenS (.t 7)) (tq 9 (.bin .sub (.t 5) (.t 8)) (tm 1 (.t 9) .done)))))))
 (.seq (.seq (.reg (tm 10 (.t 1) (tq 11 (.bin .lss (.t 10) (.c (.int .i64 0))) .done)))
 (.cond (.t 11) (.seq (.reg (tq 4 (.mov (.c (.int .i64 (-1)))) .done))
 .ret)
 .skip))
 (.seq (.reg (tq 12 (.faddr 2 (.t 2)) (tq 13 (.load 1 false (.t 12)) (tm 14 (.t 1) (tq 15 (.call 162 [(.t 13),(.t 14)]) (tm 1 (.t 15) .done))))))
 (.seq (.seq (.reg (tm 16 (.t 1) (tq 17 (.bin .lss (.t 16) (.c (.int .i64 0))) .done)))
 (.cond (.t 17) (.seq (.reg (tq 4 (.mov (.c (.int .i64 (-1)))) .done))
 .ret)
 .skip))
 (.seq (.reg (tm 18 (.t 1) (tm 4 (.t 18) .done)))
 .ret))))))
theorem fc217:fcomp Tryz.prog Tryz.f217 = some (c217.erase,[.mov (.t 4)],19):=by kernel_rfl
def laws_szMut (a_1:GMut) (left_2:Int):Option Int :=
    if (decide (w64 (left_2 - (a_1.Column.length:Int)) < 0)) then
    some (-1)
    else
    (laws_szAtomS a_1.Value (w64 (left_2 - (a_1.Column.length:Int)))).bind fun r_5 =>
    if (decide (r_5 < 0)) then
    some (-1)
    else
    some r_5
theorem w_laws_szMut (a_1:GMut) (left_2:Int) (r:Int) (hf:laws_szMut a_1 left_2 = some r):CallOK Tryz.prog 217 .flat [(encGMut a_1),(.int .i64 left_2)] (.int .i64 r):=by
 refine CallOK.of_awp mixed Tryz.func217 fc217 nle ?_;rw [argT_eq];unfold laws_szMut at hf;unfold c217;refine (show awp Tryz.prog false 0 _ (ofL [(0,(encGMut a_1)),(1,(.int .i64 left_2))]) [] _ from ?_);refine sr<|s_do (o_box (j:=0) (c:=(.agg [(.str a_1.Column),(.int .i64 a_1.Func),(.lst 3 (a_1.Value.map encGAtom))])) rfl trivial rfl rfl)<|s_mov (.int .i64 0) rfl<|dk<|sr<|s_mov (.int .i64 left_2) rfl<|s_q (.ptr 0 0 0) rfl trivial rfl<|s_q (.str a_1.Column) rfl nle rfl<|s_dof (o_lenS rfl) fun hl3 => s_q (.int .i64 (w64 (left_2 - (a_1.Column.length:Int)))) rfl rfl rfl<|s_mov (.int .i64 (w64 (left_2 - (a_1.Column.length:Int)))) rfl<|dk<|?_
 refine awp_seq<|sr<|s_mov (.int .i64 (w64 (left_2 - (a_1.Column.length:Int)))) rfl<|s_q (.bool (decide (w64 (left_2 - (a_1.Column.length:Int)) < 0))) rfl rfl rfl<|dk<|?_
 rcases oi hf with ⟨c4,hf⟩ | ⟨c4,hf⟩
 ·refine w_condt rfl c4<|sr<|s_mov (.int .i64 (-1)) rfl<|dk<|w_ret<|?_;obtain rfl:=os hf;exact r_flat ⟨trivial,trivial⟩ rfl (.refl _)
 ·refine w_condf rfl (bf c4)<|w_skip<|k_seq<|sr<|?_
  obtain ⟨r_5,er6,hf⟩:=ob hf
  refine s_q (.ptr 0 0 2) rfl trivial rfl<|s_q (.lst 3 (a_1.Value.map encGAtom)) rfl nle rfl<|s_mov (.int .i64 (w64 (left_2 - (a_1.Column.length:Int)))) rfl<|s_do (o_call (w_laws_szAtomS _ _ _ er6) rfl (.refl _) rfl)<|s_mov (.int .i64 r_5) rfl<|dk<|awp_seq<|sr<|s_mov (.int .i64 r_5) rfl<|s_q (.bool (decide (r_5 < 0))) rfl rfl rfl<|dk<|?_
  rcases oi hf with ⟨c7,hf⟩ | ⟨c7,hf⟩
  ·refine w_condt rfl c7<|sr<|s_mov (.int .i64 (-1)) rfl<|dk<|w_ret<|?_;obtain rfl:=os hf;exact r_flat ⟨trivial,trivial⟩ rfl (.refl _)
  ·refine w_condf rfl (bf c7)<|w_skip<|k_seq<|sr<|s_mov (.int .i64 r_5) rfl<|s_mov (.int .i64 r_5) rfl<|dk<|w_ret<|?_;obtain rfl:=os hf;exact r_flat ⟨trivial,trivial⟩ rfl (.refl _)

/- laws.szMutS -/
def c151:ACode :=
 (.seq (.reg (tm 4 (.c (.int .i64 0)) .done))
 (.seq (.reg (tm 6 (.t 1) (tm 7 (.t 0) (tq 8 (.len (.t 7)) (tq 9 (.bin .sub (.t 6) (.t 8)) (tm 1 (.t 9) .done))))))
 (.seq (.seq (.reg (tm 10 (.t 1) (tq 11 (.bin .lss (.t 10) (.c (.int .i64 0))) .done)))
 (.cond (.t 11) (.seq (.reg (tq 4 (.mov (.c (.int .i64 (-1)))) .done))
 .ret)
 .skip))
 (.seq (.seq (.reg (tm 5 (.c (.int .i64 0)) .done))
 (.block 0 (.loop (.seq (.seq (.reg (tm 12 (.t 5) (tm 13 (.t 0) (tq 14 (.len (.t 13)) (tq 15 (.bin .lss (.t 12) (.t 14)) .done)))))
 (.cond (.t 15) .skip
 (.exit 0)))
 (.seq (.block 1 (.seq (.reg (tm 18 (.t 0) (tm 19 (.t 5) (tq 20 (.iaddr 3 (.t 18) (.t 19)) (tq 21 (.load 3 true (.t 20)) (tm 22 (.t 1) (tq 23 (.call 217 [(.t 21),(.t 22)]) (tm 1 (.t 23) .done))))))))
 (.seq (.reg (tm 24 (.t 1) (tq 25 (.bin .lss (.t 24) (.c (.int .i64 0))) .done)))
 (.cond (.t 25) (.seq (.reg (tq 4 (.mov (.c (.int .i64 (-1)))) .done))
 .ret)
 .skip))))
 (.reg (tm 16 (.t 5) (tq 17 (.bin .add (.t 16) (.c (.int .i64 1))) (tm 5 (.t 17) .done)))))))))
 (.cut (.seq (.reg (tm 26 (.t 1) (tm 4 (.t 26) .done)))
 .ret))))))
theorem fc151:fcomp Tryz.prog Tryz.f151 = some (c151.erase,[.mov (.t 4)],27):=by kernel_rfl
def laws_szMutS_L1 :List GMut → Int → Option (Fl Int Int)
  | [],left_21 =>
    some (.go left_21)
  | x_39 :: xs,left_21 =>
    (laws_szMut x_39 left_21).bind fun r_42 =>
    if (decide (r_42 < 0)) then
    some (.ret (-1))
    else
    laws_szMutS_L1 xs r_42 

def laws_szMutS (a_1:(List GMut)) (left_2:Int):Option Int :=
    if (decide (w64 (left_2 - (a_1.length:Int)) < 0)) then
    some (-1)
    else
    (laws_szMutS_L1 a_1 (w64 (left_2 - (a_1.length:Int)))).bind fun q => (match q with
    | .ret r => some r
    | .go left_31 =>
    some left_31)
theorem w_laws_szMutS (a_1:(List GMut)) (left_2:Int) (r:Int) (hf:laws_szMutS a_1 left_2 = some r):CallOK Tryz.prog 151 .flat [(.lst 3 (a_1.map encGMut)),(.int .i64 left_2)] (.int .i64 r):=by
 refine CallOK.of_awp mixed Tryz.func151 fc151 nle ?_;rw [argT_eq];unfold laws_szMutS at hf;unfold c151;refine (show awp Tryz.prog false 0 _ (ofL [(0,(.lst 3 (a_1.map encGMut))),(1,(.int .i64 left_2))]) [] _ from ?_);refine sr<|s_mov (.int .i64 0) rfl<|dk<|sr<|s_mov (.int .i64 left_2) rfl<|s_mov (.lst 3 (a_1.map encGMut)) rfl<|s_dof (o_len (enc:=encGMut) rfl) fun hl3 => s_q (.int .i64 (w64 (left_2 - (a_1.length:Int)))) rfl rfl rfl<|s_mov (.int .i64 (w64 (left_2 - (a_1.length:Int)))) rfl<|dk<|awp_seq<|sr<|s_mov (.int .i64 (w64 (left_2 - (a_1.length:Int)))) rfl<|s_q (.bool (decide (w64 (left_2 - (a_1.length:Int)) < 0))) rfl rfl rfl<|?_
 refine dk<|?_
 rcases oi hf with ⟨c4,hf⟩ | ⟨c4,hf⟩
 ·refine w_condt rfl c4<|sr<|s_mov (.int .i64 (-1)) rfl<|dk<|w_ret<|?_;obtain rfl:=os hf;exact r_flat ⟨trivial,trivial⟩ rfl (.refl _)
 ·refine w_condf rfl (bf c4)<|w_skip<|k_seq<|awp_seq<|sr<|s_mov (.int .i64 0) rfl<|dk<|?_
  obtain ⟨p32,hb1,hf⟩:=ob hf
  refine awp_cutx (X:={q:Int // p32 = .go q}) (fun q => ([(1,(.int .i64 q.1))],[])) ?_ ?_
  ·refine awp_loop (X:={q:(Int × Nat) // laws_szMutS_L1 (a_1.drop q.2) q.1 = some p32}) (fun q => ([(0,(.lst 3 (a_1.map encGMut))),(1,(.int .i64 q.1.1)),(5,(.int .i64 (q.1.2:Int)))],[])) (fun q => a_1.length - q.1.2) ⟨(w64 (left_2 - (a_1.length:Int)),0),hb1⟩ ⟨[],[],_,_,rfl,rfl,⟨.refl _,⟨.refl _,⟨.refl _,trivial⟩⟩⟩,(.refl _)⟩ ?_
   rintro ⟨⟨left_21,i_22⟩,hc1⟩
   have hc1:laws_szMutS_L1 (a_1.drop i_22) left_21 = some p32:=hc1
   refine (show awp Tryz.prog false 0 _ (ofL [(0,(.lst 3 (a_1.map encGMut))),(1,(.int .i64 left_21)),(5,(.int .i64 (i_22:Int)))]) [] _ from ?_)
   rcases dropc a_1 i_22 with ⟨hie35,hd38⟩ | ⟨hlt33,x_39,hx34,hd38⟩
   ·rw [hd38,laws_szMutS_L1.eq_1] at hc1
    have hq37:=dlf hie35
    refine awp_seq<|sr<|s_mov (.int .i64 (i_22:Int)) rfl<|s_mov (.lst 3 (a_1.map encGMut)) rfl<|s_dof (o_len (enc:=encGMut) rfl) fun hl40 => s_q (.bool (decide ((i_22:Int) < (a_1.length:Int)))) rfl rfl rfl<|dk<|w_condf rfl hq37<|w_exit<|k_seqx<|k_loopx<|k_blkx<|?_;obtain rfl:=os hc1;exact k_cutn ⟨_,rfl⟩ ⟨[],[],_,_,rfl,rfl,⟨.refl _,trivial⟩,(.refl _)⟩
   ·rw [hd38,laws_szMutS_L1.eq_2] at hc1
    have hq37:=dlt hlt33
    refine awp_seq<|sr<|s_mov (.int .i64 (i_22:Int)) rfl<|s_mov (.lst 3 (a_1.map encGMut)) rfl<|s_dof (o_len (enc:=encGMut) rfl) fun hl41 => s_q (.bool (decide ((i_22:Int) < (a_1.length:Int)))) rfl rfl rfl<|dk<|w_condt rfl hq37<|w_skip<|k_seq<|awp_seq<|w_blk<|sr<|?_
    obtain ⟨r_42,er43,hc1⟩:=ob hc1
    refine s_mov (.lst 3 (a_1.map encGMut)) rfl<|s_mov (.int .i64 (i_22:Int)) rfl<|s_do (o_iaddrn (enc:=encGMut) rfl rfl hx34)<|s_q (encGMut x_39) rfl nle rfl<|s_mov (.int .i64 left_21) rfl<|s_do (o_call (w_laws_szMut _ _ _ er43) rfl (.refl _) rfl)<|s_mov (.int .i64 r_42) rfl<|dk<|sr<|s_mov (.int .i64 r_42) rfl<|s_q (.bool (decide (r_42 < 0))) rfl rfl rfl<|dk<|?_
    rcases oi hc1 with ⟨c44,hc1⟩ | ⟨c44,hc1⟩
    ·refine w_condt rfl c44<|sr<|s_mov (.int .i64 (-1)) rfl<|dk<|w_ret<|?_;obtain rfl:=os hc1;obtain rfl:=os hf;exact r_flat ⟨trivial,trivial⟩ rfl (.refl _)
    ·refine w_condf rfl (bf c44)<|w_skip<|k_blk<|k_seq<|w_reg<|s_mov (.int .i64 (i_22:Int)) rfl<|s_q (.int .i64 (w64 ((i_22:Int) + 1))) rfl rfl rfl<|s_mov (.int .i64 (w64 ((i_22:Int) + 1))) rfl<|w_done<|?_;exact k_loopn ⟨(r_42,(i_22 + 1)),hc1⟩ (mul hlt33) ⟨[],[],_,_,rfl,rfl,⟨.refl _,⟨.refl _,⟨.of_eq (congrArg (AV.int _) (w64_incr hlt33 hl41)),trivial⟩⟩⟩,(.refl _)⟩
  ·rintro ⟨left_31,rfl⟩
   refine sr<|s_mov (.int .i64 left_31) rfl<|s_mov (.int .i64 left_31) rfl<|dk<|w_ret<|?_;obtain rfl:=os hf;exact r_flat ⟨trivial,trivial⟩ rfl (.refl _)

/- laws.szOp -/
def c64:ACode :=
 (.seq (.reg (tq 2 (.box 8 (.t 0)) (tm 4 (.c (.int .i64 0)) .done)))
 (.seq (.reg (tm 5 (.t 1) (tq 6 (.faddr 1 (.t 2)) (tq 7 (.load 1 false (.t 6)) (tq 8 (.lenS (.t 7)) (tq 9 (.bin .sub (.t 5) (.t 8)) (tm 1 (.t 9) .done)))))))
 (.seq (.seq (.reg (tm 10 (.t 1) (tq 11 (.bin .lss (.t 10) (.c (.int .i64 0))) .done)))
 (.cond (.t 11) (.seq (.reg (tq 4 (.mov (.c (.int .i64 (-1)))) .done))
 .ret)
 .skip))
 (.seq (.reg (tm 12 (.t 1) (tq 13 (.faddr 2 (.t 2)) (tq 14 (.load 1 false (.t 13)) (tq 15 (.lenS (.t 14)) (tq 16 (.bin .sub (.t 12) (.t 15)) (tm 1 (.t 16) .done)))))))
 (.seq (.seq (.reg (tm 17 (.t 1) (tq 18 (.bin .lss (.t 17) (.c (.int .i64 0))) .done)))
 (.cond (.t 18) (.seq (.reg (tq 4 (.mov (.c (.int .i64 (-1)))) .done))
 .ret)
 .skip))
 (.seq (.reg (tq 19 (.faddr 3 (.t 2)) (tq 20 (.load 1 false (.t 19)) (tm 21 (.t 1) (tq 22 (.call 150 [(.t 20),(.t 21)]) (tm 1 (.t 22) .done))))))
 (.seq (.seq (.reg (tm 23 (.t 1) (tq 24 (.bin .lss (.t 23) (.c (.int .i64 0))) .done)))
 (.cond (.t 24) (.seq (.reg (tq 4 (.mov (.c (.int .i64 (-1)))) .done))
 .ret)
 .skip))
 (.seq (.reg (tq 25 (.faddr 4 (.t 2)) (tq 26 (.load 1 false (.t 25)) (tm 27 (.t 1) (tq 28 (.call 24 [(.t 26),(.t 27)]) (tm 1 (.t 28) .done))))))
 (.seq (.seq (.reg (tm 29 (.t 1) (tq 30 (.bin .lss (.t 29) (.c (.int .i64 0))) .done)))
 (.cond (.t 30) (.seq (.reg (tq 4 (.mov (.c (.int .i64 (-1)))) .done))
 .ret)
 .skip))
 (.seq (.reg (tq 31 (.faddr 5 (.t 2)) (tq 32 (.load 1 false (.t 31)) (tm 33 (.t 1) (tq 34 (.call 151 [(.t 32),(.t 33)]) (tm 1 (.t 34) .done))))))
 (.seq (.seq (.reg (tm 35 (.t 1) (tq 36 (.bin .lss (.t 35) (.c (.int .i64 0))) .done)))
 (.cond (.t 36) (.seq (.reg (tq 4 (.mov (.c (.int .i64 (-1)))) .done))
 .ret)
 .skip))
 (.seq (.reg (tq 37 (.faddr 6 (.t 2)) (tq 38 (.load 1 false (.t 37)) (tm 39 (.t 1) (tq 40 (.call 152 [(.t 38),(.t 39)]) (tm 1 (.t 40) .done))))))
 (.seq (.seq (.reg (tm 41 (.t 1) (tq 42 (.bin .lss (.t 41) (.c (.int .i64 0))) .done)))
 (.cond (.t 42) (.seq (.reg (tq 4 (.mov (.c (.int .i64 (-1)))) .done))
 .ret)
 .skip))
 (.seq (.reg (tm 43 (.t 1) (tm 4 (.t 43) .done)))
 .ret))))))))))))))
theorem fc64:fcomp Tryz.prog Tryz.f64 = some (c64.erase,[.mov (.t 4)],44):=by kernel_rfl
def laws_szOp (a_1:GOp) (left_2:Int):Option Int :=
    if (decide (w64 (left_2 - (a_1.Table.length:Int)) < 0)) then
    some (-1)
    else
    if (decide (w64 ((w64 (left_2 - (a_1.Table.length:Int))) - (a_1.Name.length:Int)) < 0)) then
    some (-1)
    else
    (laws_szCondS a_1.Where (w64 ((w64 (left_2 - (a_1.Table.length:Int))) - (a_1.Name.length:Int)))).bind fun r_7 =>
    if (decide (r_7 < 0)) then
    some (-1)
    else
    (laws_szSetS a_1.Row r_7).bind fun r_10 =>
    if (decide (r_10 < 0)) then
    some (-1)
    else
    (laws_szMutS a_1.Muts r_10).bind fun r_13 =>
    if (decide (r_13 < 0)) then
    some (-1)
    else
    (laws_szStringS a_1.Columns r_13).bind fun r_16 =>
    if (decide (r_16 < 0)) then
    some (-1)
    else
    some r_16
theorem w_laws_szOp (a_1:GOp) (left_2:Int) (r:Int) (hf:laws_szOp a_1 left_2 = some r):CallOK Tryz.prog 64 .flat [(encGOp a_1),(.int .i64 left_2)] (.int .i64 r):=by
 refine CallOK.of_awp mixed Tryz.func64 fc64 nle ?_;rw [argT_eq];unfold laws_szOp at hf;unfold c64;refine (show awp Tryz.prog false 0 _ (ofL [(0,(encGOp a_1)),(1,(.int .i64 left_2))]) [] _ from ?_);refine sr<|s_do (o_box (j:=0) (c:=(.agg [(.int .i64 a_1.Kind),(.str a_1.Table),(.str a_1.Name),(.lst 3 (a_1.Where.map encGCond)),(.lst 3 (a_1.Row.map encGSet)),(.lst 3 (a_1.Muts.map encGMut)),(.lst 1 (a_1.Columns.map AV.str)),(.bool a_1.Until)])) rfl trivial rfl rfl)<|s_mov (.int .i64 0) rfl<|dk<|sr<|s_mov (.int .i64 left_2) rfl<|s_q (.ptr 0 0 1) rfl trivial rfl<|s_q (.str a_1.Table) rfl nle rfl<|s_dof (o_lenS rfl) fun hl3 => s_q (.int .i64 (w64 (left_2 - (a_1.Table.length:Int)))) rfl rfl rfl<|?_
 refine s_mov (.int .i64 (w64 (left_2 - (a_1.Table.length:Int)))) rfl<|dk<|awp_seq<|sr<|s_mov (.int .i64 (w64 (left_2 - (a_1.Table.length:Int)))) rfl<|s_q (.bool (decide (w64 (left_2 - (a_1.Table.length:Int)) < 0))) rfl rfl rfl<|dk<|?_
 rcases oi hf with ⟨c4,hf⟩ | ⟨c4,hf⟩
 ·refine w_condt rfl c4<|sr<|s_mov (.int .i64 (-1)) rfl<|dk<|w_ret<|?_;obtain rfl:=os hf;exact r_flat ⟨trivial,trivial⟩ rfl (.refl _)
 ·refine w_condf rfl (bf c4)<|w_skip<|k_seq<|sr<|s_mov (.int .i64 (w64 (left_2 - (a_1.Table.length:Int)))) rfl<|s_q (.ptr 0 0 2) rfl trivial rfl<|s_q (.str a_1.Name) rfl nle rfl<|s_dof (o_lenS rfl) fun hl5 => s_q (.int .i64 (w64 ((w64 (left_2 - (a_1.Table.length:Int))) - (a_1.Name.length:Int)))) rfl rfl rfl<|s_mov (.int .i64 (w64 ((w64 (left_2 - (a_1.Table.length:Int))) - (a_1.Name.length:Int)))) rfl<|dk<|awp_seq<|sr<|s_mov (.int .i64 (w64 ((w64 (left_2 - (a_1.Table.length:Int))) - (a_1.Name.length:Int)))) rfl<|s_q (.bool (decide (w64 ((w64 (left_2 - (a_1.Table.length:Int))) - (a_1.Name.length:Int)) < 0))) rfl rfl rfl<|?_
  refine dk<|?_
  rcases oi hf with ⟨c6,hf⟩ | ⟨c6,hf⟩
  ·refine w_condt rfl c6<|sr<|s_mov (.int .i64 (-1)) rfl<|dk<|w_ret<|?_;obtain rfl:=os hf;exact r_flat ⟨trivial,trivial⟩ rfl (.refl _)
  ·refine w_condf rfl (bf c6)<|w_skip<|k_seq<|sr<|?_
   obtain ⟨r_7,er8,hf⟩:=ob hf
   refine s_q (.ptr 0 0 3) rfl trivial rfl<|s_q (.lst 3 (a_1.Where.map encGCond)) rfl nle rfl<|s_mov (.int .i64 (w64 ((w64 (left_2 - (a_1.Table.length:Int))) - (a_1.Name.length:Int)))) rfl<|s_do (o_call (w_laws_szCondS _ _ _ er8) rfl (.refl _) rfl)<|s_mov (.int .i64 r_7) rfl<|dk<|awp_seq<|sr<|s_mov (.int .i64 r_7) rfl<|s_q (.bool (decide (r_7 < 0))) rfl rfl rfl<|dk<|?_
   rcases oi hf with ⟨c9,hf⟩ | ⟨c9,hf⟩
   ·refine w_condt rfl c9<|sr<|s_mov (.int .i64 (-1)) rfl<|dk<|w_ret<|?_;obtain rfl:=os hf;exact r_flat ⟨trivial,trivial⟩ rfl (.refl _)
   ·refine w_condf rfl (bf c9)<|w_skip<|k_seq<|sr<|?_
    obtain ⟨r_10,er11,hf⟩:=ob hf
    refine s_q (.ptr 0 0 4) rfl trivial rfl<|s_q (.lst 3 (a_1.Row.map encGSet)) rfl nle rfl<|s_mov (.int .i64 r_7) rfl<|s_do (o_call (w_laws_szSetS _ _ _ er11) rfl (.refl _) rfl)<|s_mov (.int .i64 r_10) rfl<|dk<|awp_seq<|sr<|s_mov (.int .i64 r_10) rfl<|s_q (.bool (decide (r_10 < 0))) rfl rfl rfl<|dk<|?_
    rcases oi hf with ⟨c12,hf⟩ | ⟨c12,hf⟩
    ·refine w_condt rfl c12<|sr<|s_mov (.int .i64 (-1)) rfl<|dk<|w_ret<|?_;obtain rfl:=os hf;exact r_flat ⟨trivial,trivial⟩ rfl (.refl _)
    ·refine w_condf rfl (bf c12)<|w_skip<|k_seq<|sr<|?_
     obtain ⟨r_13,er14,hf⟩:=ob hf
     refine s_q (.ptr 0 0 5) rfl trivial rfl<|s_q (.lst 3 (a_1.Muts.map encGMut)) rfl nle rfl<|s_mov (.int .i64 r_10) rfl<|s_do (o_call (w_laws_szMutS _ _ _ er14) rfl (.refl _) rfl)<|s_mov (.int .i64 r_13) rfl<|dk<|awp_seq<|sr<|s_mov (.int .i64 r_13) rfl<|s_q (.bool (decide (r_13 < 0))) rfl rfl rfl<|dk<|?_
     rcases oi hf with ⟨c15,hf⟩ | ⟨c15,hf⟩
     ·refine w_condt rfl c15<|sr<|s_mov (.int .i64 (-1)) rfl<|dk<|w_ret<|?_;obtain rfl:=os hf;exact r_flat ⟨trivial,trivial⟩ rfl (.refl _)
     ·refine w_condf rfl (bf c15)<|w_skip<|k_seq<|sr<|?_
      obtain ⟨r_16,er17,hf⟩:=ob hf
      refine s_q (.ptr 0 0 6) rfl trivial rfl<|s_q (.lst 1 (a_1.Columns.map AV.str)) rfl nle rfl<|s_mov (.int .i64 r_13) rfl<|s_do (o_call (w_laws_szStringS _ _ _ er17) rfl (.refl _) rfl)<|s_mov (.int .i64 r_16) rfl<|dk<|awp_seq<|sr<|s_mov (.int .i64 r_16) rfl<|s_q (.bool (decide (r_16 < 0))) rfl rfl rfl<|dk<|?_
      rcases oi hf with ⟨c18,hf⟩ | ⟨c18,hf⟩
      ·refine w_condt rfl c18<|sr<|s_mov (.int .i64 (-1)) rfl<|dk<|w_ret<|?_;obtain rfl:=os hf;exact r_flat ⟨trivial,trivial⟩ rfl (.refl _)
      ·refine w_condf rfl (bf c18)<|w_skip<|k_seq<|sr<|s_mov (.int .i64 r_16) rfl<|s_mov (.int .i64 r_16) rfl<|dk<|w_ret<|?_;obtain rfl:=os hf;exact r_flat ⟨trivial,trivial⟩ rfl (.refl _)

/- laws.szOpS -/
def c13:ACode :=
 (.seq (.reg (tm 4 (.c (.int .i64 0)) .done))
 (.seq (.reg (tm 6 (.t 1) (tm 7 (.t 0) (tq 8 (.len (.t 7)) (tq 9 (.bin .sub (.t 6) (.t 8)) (tm 1 (.t 9) .done))))))
 (.seq (.seq (.reg (tm 10 (.t 1) (tq 11 (.bin .lss (.t 10) (.c (.int .i64 0))) .done)))
 (.cond (.t 11) (.seq (.reg (tq 4 (.mov (.c (.int .i64 (-1)))) .done))
 .ret)
 .skip))
 (.seq (.seq (.reg (tm 5 (.c (.int .i64 0)) .done))
 (.block 0 (.loop (.seq (.seq (.reg (tm 12 (.t 5) (tm 13 (.t 0) (tq 14 (.len (.t 13)) (tq 15 (.bin .lss (.t 12) (.t 14)) .done)))))
 (.cond (.t 15) .skip
 (.exit 0)))
 (.seq (.block 1 (.seq (.reg (tm 18 (.t 0) (tm 19 (.t 5) (tq 20 (.iaddr 8 (.t 18) (.t 19)) (tq 21 (.load 8 true (.t 20)) (tm 22 (.t 1) (tq 23 (.call 64 [(.t 21),(.t 22)]) (tm 1 (.t 23) .done))))))))
 (.seq (.reg (tm 24 (.t 1) (tq 25 (.bin .lss (.t 24) (.c (.int .i64 0))) .done)))
 (.cond (.t 25) (.seq (.reg (tq 4 (.mov (.c (.int .i64 (-1)))) .done))
 .ret)
 .skip))))
 (.reg (tm 16 (.t 5) (tq 17 (.bin .add (.t 16) (.c (.int .i64 1))) (tm 5 (.t 17) .done)))))))))
 (.cut (.seq (.reg (tm 26 (.t 1) (tm 4 (.t 26) .done)))
 .ret))))))
theorem fc13:fcomp Tryz.prog Tryz.f13 = some (c13.erase,[.mov (.t 4)],27):=by kernel_rfl
def laws_szOpS_L1 :List GOp → Int → Option (Fl Int Int)
  | [],left_21 =>
    some (.go left_21)
  | x_39 :: xs,left_21 =>
    (laws_szOp x_39 left_21).bind fun r_42 =>
    if (decide (r_42 < 0)) then
    some (.ret (-1))
    else
    laws_szOpS_L1 xs r_42 

def laws_szOpS (a_1:(List GOp)) (left_2:Int):Option Int :=
    if (decide (w64 (left_2 - (a_1.length:Int)) < 0)) then
    some (-1)
    else
    (laws_szOpS_L1 a_1 (w64 (left_2 - (a_1.length:Int)))).bind fun q => (match q with
    | .ret r => some r
    | .go left_31 =>
    some left_31)
theorem w_laws_szOpS (a_1:(List GOp)) (left_2:Int) (r:Int) (hf:laws_szOpS a_1 left_2 = some r):CallOK Tryz.prog 13 .flat [(.lst 8 (a_1.map encGOp)),(.int .i64 left_2)] (.int .i64 r):=by
 refine CallOK.of_awp mixed Tryz.func13 fc13 nle ?_;rw [argT_eq];unfold laws_szOpS at hf;unfold c13;refine (show awp Tryz.prog false 0 _ (ofL [(0,(.lst 8 (a_1.map encGOp))),(1,(.int .i64 left_2))]) [] _ from ?_);refine sr<|s_mov (.int .i64 0) rfl<|dk<|sr<|s_mov (.int .i64 left_2) rfl<|s_mov (.lst 8 (a_1.map encGOp)) rfl<|s_dof (o_len (enc:=encGOp) rfl) fun hl3 => s_q (.int .i64 (w64 (left_2 - (a_1.length:Int)))) rfl rfl rfl<|s_mov (.int .i64 (w64 (left_2 - (a_1.length:Int)))) rfl<|dk<|awp_seq<|sr<|s_mov (.int .i64 (w64 (left_2 - (a_1.length:Int)))) rfl<|s_q (.bool (decide (w64 (left_2 - (a_1.length:Int)) < 0))) rfl rfl rfl<|?_
 refine dk<|?_
 rcases oi hf with ⟨c4,hf⟩ | ⟨c4,hf⟩
 ·refine w_condt rfl c4<|sr<|s_mov (.int .i64 (-1)) rfl<|dk<|w_ret<|?_;obtain rfl:=os hf;exact r_flat ⟨trivial,trivial⟩ rfl (.refl _)
 ·refine w_condf rfl (bf c4)<|w_skip<|k_seq<|awp_seq<|sr<|s_mov (.int .i64 0) rfl<|dk<|?_
  obtain ⟨p32,hb1,hf⟩:=ob hf
  refine awp_cutx (X:={q:Int // p32 = .go q}) (fun q => ([(1,(.int .i64 q.1))],[])) ?_ ?_
  ·refine awp_loop (X:={q:(Int × Nat) // laws_szOpS_L1 (a_1.drop q.2) q.1 = some p32}) (fun q => ([(0,(.lst 8 (a_1.map encGOp))),(1,(.int .i64 q.1.1)),(5,(.int .i64 (q.1.2:Int)))],[])) (fun q => a_1.length - q.1.2) ⟨(w64 (left_2 - (a_1.length:Int)),0),hb1⟩ ⟨[],[],_,_,rfl,rfl,⟨.refl _,⟨.refl _,⟨.refl _,trivial⟩⟩⟩,(.refl _)⟩ ?_
   rintro ⟨⟨left_21,i_22⟩,hc1⟩
   have hc1:laws_szOpS_L1 (a_1.drop i_22) left_21 = some p32:=hc1
   refine (show awp Tryz.prog false 0 _ (ofL [(0,(.lst 8 (a_1.map encGOp))),(1,(.int .i64 left_21)),(5,(.int .i64 (i_22:Int)))]) [] _ from ?_)
   rcases dropc a_1 i_22 with ⟨hie35,hd38⟩ | ⟨hlt33,x_39,hx34,hd38⟩
   ·rw [hd38,laws_szOpS_L1.eq_1] at hc1
    have hq37:=dlf hie35
    refine awp_seq<|sr<|s_mov (.int .i64 (i_22:Int)) rfl<|s_mov (.lst 8 (a_1.map encGOp)) rfl<|s_dof (o_len (enc:=encGOp) rfl) fun hl40 => s_q (.bool (decide ((i_22:Int) < (a_1.length:Int)))) rfl rfl rfl<|dk<|w_condf rfl hq37<|w_exit<|k_seqx<|k_loopx<|k_blkx<|?_;obtain rfl:=os hc1;exact k_cutn ⟨_,rfl⟩ ⟨[],[],_,_,rfl,rfl,⟨.refl _,trivial⟩,(.refl _)⟩
   ·rw [hd38,laws_szOpS_L1.eq_2] at hc1
    have hq37:=dlt hlt33
    refine awp_seq<|sr<|s_mov (.int .i64 (i_22:Int)) rfl<|s_mov (.lst 8 (a_1.map encGOp)) rfl<|s_dof (o_len (enc:=encGOp) rfl) fun hl41 => s_q (.bool (decide ((i_22:Int) < (a_1.length:Int)))) rfl rfl rfl<|dk<|w_condt rfl hq37<|w_skip<|k_seq<|awp_seq<|w_blk<|sr<|?_
    obtain ⟨r_42,er43,hc1⟩:=ob hc1
    refine s_mov (.lst 8 (a_1.map encGOp)) rfl<|s_mov (.int .i64 (i_22:Int)) rfl<|s_do (o_iaddrn (enc:=encGOp) rfl rfl hx34)<|s_q (encGOp x_39) rfl nle rfl<|s_mov (.int .i64 left_21) rfl<|s_do (o_call (w_laws_szOp _ _ _ er43) rfl (.refl _) rfl)<|s_mov (.int .i64 r_42) rfl<|dk<|sr<|s_mov (.int .i64 r_42) rfl<|s_q (.bool (decide (r_42 < 0))) rfl rfl rfl<|dk<|?_
    rcases oi hc1 with ⟨c44,hc1⟩ | ⟨c44,hc1⟩
    ·refine w_condt rfl c44<|sr<|s_mov (.int .i64 (-1)) rfl<|dk<|w_ret<|?_;obtain rfl:=os hc1;obtain rfl:=os hf;exact r_flat ⟨trivial,trivial⟩ rfl (.refl _)
    ·refine w_condf rfl (bf c44)<|w_skip<|k_blk<|k_seq<|w_reg<|s_mov (.int .i64 (i_22:Int)) rfl<|s_q (.int .i64 (w64 ((i_22:Int) + 1))) rfl rfl rfl<|s_mov (.int .i64 (w64 ((i_22:Int) + 1))) rfl<|w_done<|?_;exact k_loopn ⟨(r_42,(i_22 + 1)),hc1⟩ (mul hlt33) ⟨[],[],_,_,rfl,rfl,⟨.refl _,⟨.refl _,⟨.of_eq (congrArg (AV.int _) (w64_incr hlt33 hl41)),trivial⟩⟩⟩,(.refl _)⟩
  ·rintro ⟨left_31,rfl⟩
   refine sr<|s_mov (.int .i64 left_31) rfl<|s_mov (.int .i64 left_31) rfl<|dk<|w_ret<|?_;obtain rfl:=os hf;exact r_flat ⟨trivial,trivial⟩ rfl (.refl _)

/- laws.toAtom -/
def c226:ACode :=
 (.seq (.reg (tq 1 (.box 3 (.t 0)) (tq 2 (.box 3 (.c (.agg [(.int .i64 0),(.int .i64 0),(.str [])]))) .done)))
 (.seq (.reg (tq 3 (.box 3 (.c (.agg [(.int .i64 0),(.int .i64 0),(.str [])]))) .done))
 (.seq (.reg (tq 4 (.faddr 0 (.t 1)) (tq 5 (.load 1 false (.t 4)) (tq 6 (.faddr 0 (.t 3)) (.q ⟨none,none,.store 1 (.t 6) (.t 5)⟩
 .done)))))
 (.seq (.reg (tq 7 (.faddr 1 (.t 1)) (tq 8 (.load 1 false (.t 7)) (tq 9 (.faddr 1 (.t 3)) (.q ⟨none,none,.store 1 (.t 9) (.t 8)⟩
 .done)))))
 (.seq (.reg (tq 10 (.faddr 2 (.t 1)) (tq 11 (.load 1 false (.t 10)) (tq 12 (.faddr 2 (.t 3)) (.q ⟨none,none,.store 1 (.t 12) (.t 11)⟩
 .done)))))
 (.seq (.reg (tq 13 (.load 3 true (.t 3)) (.q ⟨none,none,.store 3 (.t 2) (.t 13)⟩
 .done)))
 .ret))))))
theorem fc226:fcomp Tryz.prog Tryz.f226 = some (c226.erase,[.load 3 true (.t 2)],14):=by kernel_rfl
def laws_toAtom (a_1:GAtom):Option GAtom :=
    some a_1
theorem w_laws_toAtom (a_1:GAtom) (r:GAtom) (hf:laws_toAtom a_1 = some r):CallOK Tryz.prog 226 .flat [(encGAtom a_1)] (encGAtom r):=by
 refine CallOK.of_awp mixed Tryz.func226 fc226 nle ?_;rw [argT_eq];unfold laws_toAtom at hf;unfold c226;refine (show awp Tryz.prog false 0 _ (ofL [(0,(encGAtom a_1))]) [] _ from ?_);refine sr<|s_do (o_box (j:=0) (c:=(.agg [(.int .i64 a_1.Kind),(.int .i64 a_1.N),(.str a_1.T)])) rfl trivial rfl rfl)<|s_do (o_box (j:=1) (c:=(.agg [(.int .i64 0),(.int .i64 0),(.str [])])) rfl trivial rfl rfl)<|dk<|sr<|s_do (o_box (j:=2) (c:=(.agg [(.int .i64 0),(.int .i64 0),(.str [])])) rfl trivial rfl rfl)<|dk<|sr<|s_q (.ptr 0 0 0) rfl trivial rfl<|s_q (.int .i64 a_1.Kind) rfl nle rfl<|s_q (.ptr 2 0 0) rfl trivial rfl<|s_do0 (o_storebox (v:=(.int .i64 a_1.Kind)) (y':=(.agg [(.int .i64 a_1.Kind),(.int .i64 0),(.str [])])) rfl rfl rfl trivial ⟨rfl,nle⟩ ⟨⟨rfl,trivial⟩,trivial⟩ rfl)<|?_
 refine dk<|sr<|s_q (.ptr 0 0 1) rfl trivial rfl<|s_q (.int .i64 a_1.N) rfl nle rfl<|s_q (.ptr 2 0 1) rfl trivial rfl<|s_do0 (o_storebox (v:=(.int .i64 a_1.N)) (y':=(.agg [(.int .i64 a_1.Kind),(.int .i64 a_1.N),(.str [])])) rfl rfl rfl trivial ⟨rfl,nle⟩ ⟨⟨rfl,trivial⟩,trivial⟩ rfl)<|dk<|sr<|s_q (.ptr 0 0 2) rfl trivial rfl<|s_q (.str a_1.T) rfl nle rfl<|s_q (.ptr 2 0 2) rfl trivial rfl<|s_do0 (o_storebox (v:=(.str a_1.T)) (y':=(.agg [(.int .i64 a_1.Kind),(.int .i64 a_1.N),(.str a_1.T)])) rfl rfl rfl trivial ⟨rfl,nle⟩ ⟨⟨rfl,trivial⟩,trivial⟩ rfl)<|dk<|sr<|s_q (.agg [(.int .i64 a_1.Kind),(.int .i64 a_1.N),(.str a_1.T)]) rfl nle rfl<|?_
 refine s_do0 (o_storebox (v:=(.agg [(.int .i64 a_1.Kind),(.int .i64 a_1.N),(.str a_1.T)])) (y':=(.agg [(.int .i64 a_1.Kind),(.int .i64 a_1.N),(.str a_1.T)])) rfl rfl rfl trivial ⟨rfl,nle⟩ ⟨⟨rfl,trivial⟩,⟨⟨rfl,trivial⟩,⟨⟨rfl,trivial⟩,trivial⟩⟩⟩ rfl)<|dk<|w_ret<|?_;obtain rfl:=os hf;exact r_flat ⟨nle,trivial⟩ rfl (.refl _)

/- laws.toAtomS -/
def c169:ACode :=
 (.seq (.reg (tm 2 (.c .nil) .done))
 (.seq (.reg (tm 5 (.t 0) (tq 6 (.len (.t 5)) (tq 7 (.mkslice 3 32 (.agg [(.int .i64 0),(.int .i64 0),(.str [])]) (.t 6) (.t 6)) (tm 3 (.t 7) .done)))))
 (.seq (.seq (.reg (tm 4 (.c (.int .i64 0)) .done))
 (.block 0 (.loop (.seq (.seq (.reg (tm 8 (.t 4) (tm 9 (.t 0) (tq 10 (.len (.t 9)) (tq 11 (.bin .lss (.t 8) (.t 10)) .done)))))
 (.cond (.t 11) .skip
 (.exit 0)))
 (.seq (.block 1 (.reg (tm 14 (.t 3) (tm 15 (.t 4) (tm 16 (.t 0) (tm 17 (.t 4) (tq 18 (.iaddr 3 (.t 16) (.t 17)) (tq 19 (.load 3 true (.t 18)) (tq 20 (.call 226 [(.t 19)]) (tq 21 (.iaddr 3 (.t 14) (.t 15)) (.q ⟨none,none,.store 3 (.t 21) (.t 20)⟩
 .done)))))))))))
 (.reg (tm 12 (.t 4) (tq 13 (.bin .add (.t 12) (.c (.int .i64 1))) (tm 4 (.t 13) .done)))))))))
 (.cut (.seq (.reg (tm 22 (.t 3) (tm 2 (.t 22) .done)))
 .ret)))))
theorem fc169:fcomp Tryz.prog Tryz.f169 = some (c169.erase,[.mov (.t 2)],23):=by kernel_rfl
def laws_toAtomS_L1 :List GAtom → Nat → (List GAtom) → Option (List GAtom)
  | [],i_24,out_25 =>
    some out_25
  | x_44 :: xs,i_24,out_25 =>
    (laws_toAtom x_44).bind fun r_47 =>
    if i_24 < out_25.length then
    (out_25[i_24]?).bind fun x_50 =>
    laws_toAtomS_L1 xs (i_24 + 1) (out_25.set i_24 r_47)
    else none

def laws_toAtomS (a_1:(List GAtom)):Option (List GAtom) :=
    if (a_1.length:Int) ≤ 2 ^ 30 then
    (laws_toAtomS_L1 a_1 0 (List.replicate a_1.length (⟨0,0,[]⟩:GAtom))).bind fun out_36 =>
    some out_36
    else none
theorem w_laws_toAtomS (a_1:(List GAtom)) (r:(List GAtom)) (hf:laws_toAtomS a_1 = some r):CallOK Tryz.prog 169 .fresh [(.lst 3 (a_1.map encGAtom))] (.lst 3 (r.map encGAtom)):=by
 refine CallOK.of_awp mixed Tryz.func169 fc169 nle ?_;rw [argT_eq];unfold laws_toAtomS at hf;unfold c169;refine (show awp Tryz.prog true 0 _ (ofL [(0,(.lst 3 (a_1.map encGAtom)))]) [] _ from ?_);refine sr<|s_mov .nil rfl<|dk<|sr<|?_
 obtain ⟨g3,hf⟩:=og hf
 refine s_mov (.lst 3 (a_1.map encGAtom)) rfl<|s_dof (o_len (enc:=encGAtom) rfl) fun hl2 => s_do (o_mkslice (j:=0) (enc:=encGAtom) (m:=a_1.length) (⟨0,0,[]⟩:GAtom) (.refl _) rfl rfl (Int.le_refl _) g3 rfl)<|s_mov (.own 0 0 a_1.length) rfl<|dk<|awp_seq<|sr<|s_mov (.int .i64 0) rfl<|dk<|?_
 obtain ⟨out_36,hb1,hf⟩:=ob hf
 refine awp_cut ([(3,(.own 0 0 out_36.length))],[.row 3 (out_36.map encGAtom)]) ?_ ?_
 ·refine awp_loop (X:={q:(Nat × (List GAtom)) // laws_toAtomS_L1 (a_1.drop q.1) q.1 q.2 = some out_36}) (fun q => ([(0,(.lst 3 (a_1.map encGAtom))),(3,(.own 0 0 q.1.2.length)),(4,(.int .i64 (q.1.1:Int)))],[.row 3 (q.1.2.map encGAtom)])) (fun q => a_1.length - q.1.1) ⟨(0,List.replicate a_1.length (⟨0,0,[]⟩:GAtom)),hb1⟩ ⟨[],[0],_,_,rfl,rfl,⟨.refl _,⟨.of_eq (congrArg (AV.own _ 0) (by simp)),⟨.refl _,trivial⟩⟩⟩,(.refl _)⟩ ?_
  rintro ⟨⟨i_24,out_25⟩,hc1⟩
  have hc1:laws_toAtomS_L1 (a_1.drop i_24) i_24 out_25 = some out_36:=hc1
  refine (show awp Tryz.prog true 0 _ (ofL [(0,(.lst 3 (a_1.map encGAtom))),(3,(.own 0 0 out_25.length)),(4,(.int .i64 (i_24:Int)))]) [.row 3 (out_25.map encGAtom)] _ from ?_)
  rcases dropc a_1 i_24 with ⟨hie40,hd43⟩ | ⟨hlt38,x_44,hx39,hd43⟩
  ·rw [hd43,laws_toAtomS_L1.eq_1] at hc1
   have hq42:=dlf hie40
   refine awp_seq<|sr<|s_mov (.int .i64 (i_24:Int)) rfl<|s_mov (.lst 3 (a_1.map encGAtom)) rfl<|s_dof (o_len (enc:=encGAtom) rfl) fun hl45 => s_q (.bool (decide ((i_24:Int) < (a_1.length:Int)))) rfl rfl rfl<|dk<|w_condf rfl hq42<|w_exit<|k_seqx<|k_loopx<|k_blkx<|?_;obtain rfl:=os hc1;exact ⟨[],[0],_,_,rfl,rfl,⟨.refl _,trivial⟩,(.refl _)⟩
  ·rw [hd43,laws_toAtomS_L1.eq_2] at hc1
   have hq42:=dlt hlt38
   refine awp_seq<|sr<|s_mov (.int .i64 (i_24:Int)) rfl<|s_mov (.lst 3 (a_1.map encGAtom)) rfl<|s_dof (o_len (enc:=encGAtom) rfl) fun hl46 => s_q (.bool (decide ((i_24:Int) < (a_1.length:Int)))) rfl rfl rfl<|dk<|w_condt rfl hq42<|w_skip<|k_seq<|awp_seq<|w_blk<|w_reg<|?_
   obtain ⟨r_47,er48,hc1⟩:=ob hc1
   obtain ⟨g49,hc1⟩:=og hc1
   obtain ⟨x_50,ex51,hc1⟩:=ob hc1
   refine s_mov (.own 0 0 out_25.length) rfl<|s_mov (.int .i64 (i_24:Int)) rfl<|s_mov (.lst 3 (a_1.map encGAtom)) rfl<|s_mov (.int .i64 (i_24:Int)) rfl<|s_do (o_iaddrn (enc:=encGAtom) rfl rfl hx39)<|s_q (encGAtom x_44) rfl nle rfl<|s_do (o_call (w_laws_toAtom _ _ er48) rfl (.refl _) rfl)<|s_do (o_iaddrownn rfl rfl g49 rfl rfl)<|?_;refine s_do0 (o_storerow (v':=(encGAtom r_47)) (e':=r_47) rfl rfl ex51 rfl rfl rfl (by decide) (fun _ => by decide) ⟨rfl,nle⟩ (.refl _) rfl) ?_;refine w_done<|k_blk<|k_seq<|w_reg<|s_mov (.int .i64 (i_24:Int)) rfl<|s_q (.int .i64 (w64 ((i_24:Int) + 1))) rfl rfl rfl<|s_mov (.int .i64 (w64 ((i_24:Int) + 1))) rfl<|w_done<|?_;exact k_loopn ⟨((i_24 + 1),out_25.set i_24 r_47),hc1⟩ (mul hlt38) ⟨[],[0],_,_,rfl,rfl,⟨.refl _,⟨.of_eq (congrArg (AV.own _ 0) (by simp)),⟨.of_eq (congrArg (AV.int _) (w64_incr hlt38 hl46)),trivial⟩⟩⟩,(.refl _)⟩
 ·refine sr<|s_mov (.own 0 0 out_36.length) rfl<|s_mov (.own 0 0 out_36.length) rfl<|dk<|w_ret<|?_;obtain rfl:=os hf;exact r_fresh ⟨trivial,trivial⟩ rfl (by decide) (.of_eq (congrArg (AV.lst _) (tk (enc:=encGAtom) out_36)))

/- laws.toCond -/
def c218:ACode :=
 (.seq (.reg (tq 1 (.box 3 (.t 0)) (tq 2 (.box 3 (.c (.agg [(.str []),(.int .i64 0),.nil]))) .done)))
 (.seq (.reg (tq 3 (.box 3 (.c (.agg [(.str []),(.int .i64 0),.nil]))) .done))
 (.seq (.reg (tq 4 (.faddr 0 (.t 1)) (tq 5 (.load 1 false (.t 4)) (tq 6 (.faddr 0 (.t 3)) (.q ⟨none,none,.store 1 (.t 6) (.t 5)⟩
 .done)))))
 (.seq (.reg (tq 7 (.faddr 1 (.t 1)) (tq 8 (.load 1 false (.t 7)) (tq 9 (.faddr 1 (.t 3)) (.q ⟨none,none,.store 1 (.t 9) (.t 8)⟩
 .done)))))
 (.seq (.reg (tq 10 (.faddr 2 (.t 1)) (tq 11 (.load 1 false (.t 10)) (tq 12 (.call 169 [(.t 11)]) (tq 13 (.faddr 2 (.t 3)) (.q ⟨none,none,.store 1 (.t 13) (.t 12)⟩
 .done))))))
 (.seq (.reg (tq 14 (.load 3 true (.t 3)) (.q ⟨none,none,.store 3 (.t 2) (.t 14)⟩
 .done)))
 .ret))))))
theorem fc218:fcomp Tryz.prog Tryz.f218 = some (c218.erase,[.load 3 true (.t 2)],15):=by kernel_rfl
def laws_toCond (a_1:GCond):Option GCond :=
    (laws_toAtomS a_1.Value).bind fun r_2 =>
    some (⟨a_1.Column,a_1.Func,r_2⟩:GCond)
theorem w_laws_toCond (a_1:GCond) (r:GCond) (hf:laws_toCond a_1 = some r):CallOK Tryz.prog 218 .fresh [(encGCond a_1)] (encGCond r):=by
 refine CallOK.of_awp mixed Tryz.func218 fc218 nle ?_;rw [argT_eq];unfold laws_toCond at hf;unfold c218;refine (show awp Tryz.prog true 0 _ (ofL [(0,(encGCond a_1))]) [] _ from ?_);refine sr<|s_do (o_box (j:=0) (c:=(.agg [(.str a_1.Column),(.int .i64 a_1.Func),(.lst 3 (a_1.Value.map encGAtom))])) rfl trivial rfl rfl)<|s_do (o_box (j:=1) (c:=(.agg [(.str []),(.int .i64 0),.nil])) rfl trivial rfl rfl)<|dk<|sr<|s_do (o_box (j:=2) (c:=(.agg [(.str []),(.int .i64 0),.nil])) rfl trivial rfl rfl)<|dk<|sr<|s_q (.ptr 0 0 0) rfl trivial rfl<|s_q (.str a_1.Column) rfl nle rfl<|s_q (.ptr 2 0 0) rfl trivial rfl<|s_do0 (o_storebox (v:=(.str a_1.Column)) (y':=(.agg [(.str a_1.Column),(.int .i64 0),.nil])) rfl rfl rfl trivial ⟨rfl,nle⟩ ⟨⟨rfl,trivial⟩,trivial⟩ rfl)<|?_
 refine dk<|sr<|s_q (.ptr 0 0 1) rfl trivial rfl<|s_q (.int .i64 a_1.Func) rfl nle rfl<|s_q (.ptr 2 0 1) rfl trivial rfl<|s_do0 (o_storebox (v:=(.int .i64 a_1.Func)) (y':=(.agg [(.str a_1.Column),(.int .i64 a_1.Func),.nil])) rfl rfl rfl trivial ⟨rfl,nle⟩ ⟨⟨rfl,trivial⟩,trivial⟩ rfl)<|dk<|sr<|?_
 obtain ⟨r_2,er3,hf⟩:=ob hf
 refine s_q (.ptr 0 0 2) rfl trivial rfl<|s_q (.lst 3 (a_1.Value.map encGAtom)) rfl nle rfl<|s_do (o_callf (v:=(.own 3 0 r_2.length)) (h':=[.row 3 (r_2.map encGAtom)]) (w_laws_toAtomS _ _ er3) rfl (.refl _) (by simp only [openV,openVs,List.length_map,List.nil_append,List.append_nil,List.cons_append];rfl))<|s_q (.ptr 2 0 2) rfl trivial rfl<|s_do0 (o_storebox (v:=(.own 3 0 r_2.length)) (y':=(.agg [(.str a_1.Column),(.int .i64 a_1.Func),(.own 3 0 r_2.length)])) rfl rfl rfl trivial ⟨rfl,nle⟩ ⟨⟨rfl,trivial⟩,trivial⟩ rfl)<|dk<|sr<|s_q (.agg [(.str a_1.Column),(.int .i64 a_1.Func),(.own 3 0 r_2.length)]) rfl nle rfl<|s_do0 (o_storebox (v:=(.agg [(.str a_1.Column),(.int .i64 a_1.Func),(.own 3 0 r_2.length)])) (y':=(.agg [(.str a_1.Column),(.int .i64 a_1.Func),(.own 3 0 r_2.length)])) rfl rfl rfl trivial ⟨rfl,nle⟩ ⟨⟨rfl,trivial⟩,⟨⟨rfl,trivial⟩,⟨⟨rfl,trivial⟩,trivial⟩⟩⟩ rfl)<|?_
 refine dk<|w_ret<|?_;obtain rfl:=os hf;exact r_fresh ⟨nle,trivial⟩ rfl (by decide) (.agg (.cons (.refl _) (.cons (.refl _) (.cons (.of_eq (congrArg (AV.lst _) (tk (enc:=encGAtom) r_2))) .nil))))

/- laws.toCondS -/
def c153:ACode :=
 (.seq (.reg (tm 2 (.c .nil) .done))
 (.seq (.reg (tm 5 (.t 0) (tq 6 (.len (.t 5)) (tq 7 (.mkslice 3 48 (.agg [(.str []),(.int .i64 0),.nil]) (.t 6) (.t 6)) (tm 3 (.t 7) .done)))))
 (.seq (.seq (.reg (tm 4 (.c (.int .i64 0)) .done))
 (.block 0 (.loop (.seq (.seq (.reg (tm 8 (.t 4) (tm 9 (.t 0) (tq 10 (.len (.t 9)) (tq 11 (.bin .lss (.t 8) (.t 10)) .done)))))
 (.cond (.t 11) .skip
 (.exit 0)))
 (.seq (.block 1 (.reg (tm 14 (.t 3) (tm 15 (.t 4) (tm 16 (.t 0) (tm 17 (.t 4) (tq 18 (.iaddr 3 (.t 16) (.t 17)) (tq 19 (.load 3 true (.t 18)) (tq 20 (.call 218 [(.t 19)]) (tq 21 (.iaddr 3 (.t 14) (.t 15)) (.q ⟨none,none,.store 3 (.t 21) (.t 20)⟩
 .done)))))))))))
 (.reg (tm 12 (.t 4) (tq 13 (.bin .add (.t 12) (.c (.int .i64 1))) (tm 4 (.t 13) .done)))))))))
 (.cut (.seq (.reg (tm 22 (.t 3) (tm 2 (.t 22) .done)))
 .ret)))))
theorem fc153:fcomp Tryz.prog Tryz.f153 = some (c153.erase,[.mov (.t 2)],23):=by kernel_rfl
def laws_toCondS_L1 :List GCond → Nat → (List GCond) → Option (List GCond)
  | [],i_24,out_25 =>
    some out_25
  | x_44 :: xs,i_24,out_25 =>
    (laws_toCond x_44).bind fun r_47 =>
    if i_24 < out_25.length then
    (out_25[i_24]?).bind fun x_50 =>
    laws_toCondS_L1 xs (i_24 + 1) (out_25.set i_24 r_47)
    else none

def laws_toCondS (a_1:(List GCond)):Option (List GCond) :=
    if (a_1.length:Int) ≤ 2 ^ 30 then
    (laws_toCondS_L1 a_1 0 (List.replicate a_1.length (⟨[],0,[]⟩:GCond))).bind fun out_36 =>
    some out_36
    else none
theorem w_laws_toCondS (a_1:(List GCond)) (r:(List GCond)) (hf:laws_toCondS a_1 = some r):CallOK Tryz.prog 153 .fresh [(.lst 3 (a_1.map encGCond))] (.lst 3 (r.map encGCond)):=by
 refine CallOK.of_awp mixed Tryz.func153 fc153 nle ?_;rw [argT_eq];unfold laws_toCondS at hf;unfold c153;refine (show awp Tryz.prog true 0 _ (ofL [(0,(.lst 3 (a_1.map encGCond)))]) [] _ from ?_);refine sr<|s_mov .nil rfl<|dk<|sr<|?_
 obtain ⟨g3,hf⟩:=og hf
 refine s_mov (.lst 3 (a_1.map encGCond)) rfl<|s_dof (o_len (enc:=encGCond) rfl) fun hl2 => s_do (o_mkslice (j:=0) (enc:=encGCond) (m:=a_1.length) (⟨[],0,[]⟩:GCond) (.agg (.cons (.refl _) (.cons (.refl _) (.cons (.nil _) .nil)))) rfl rfl (Int.le_refl _) g3 rfl)<|s_mov (.own 0 0 a_1.length) rfl<|dk<|awp_seq<|sr<|s_mov (.int .i64 0) rfl<|dk<|?_
 obtain ⟨out_36,hb1,hf⟩:=ob hf
 refine awp_cut ([(3,(.own 0 0 out_36.length))],[.row 3 (out_36.map encGCond)]) ?_ ?_
 ·refine awp_loop (X:={q:(Nat × (List GCond)) // laws_toCondS_L1 (a_1.drop q.1) q.1 q.2 = some out_36}) (fun q => ([(0,(.lst 3 (a_1.map encGCond))),(3,(.own 0 0 q.1.2.length)),(4,(.int .i64 (q.1.1:Int)))],[.row 3 (q.1.2.map encGCond)])) (fun q => a_1.length - q.1.1) ⟨(0,List.replicate a_1.length (⟨[],0,[]⟩:GCond)),hb1⟩ ⟨[],[0],_,_,rfl,rfl,⟨.refl _,⟨.of_eq (congrArg (AV.own _ 0) (by simp)),⟨.refl _,trivial⟩⟩⟩,(.refl _)⟩ ?_
  rintro ⟨⟨i_24,out_25⟩,hc1⟩
  have hc1:laws_toCondS_L1 (a_1.drop i_24) i_24 out_25 = some out_36:=hc1
  refine (show awp Tryz.prog true 0 _ (ofL [(0,(.lst 3 (a_1.map encGCond))),(3,(.own 0 0 out_25.length)),(4,(.int .i64 (i_24:Int)))]) [.row 3 (out_25.map encGCond)] _ from ?_)
  rcases dropc a_1 i_24 with ⟨hie40,hd43⟩ | ⟨hlt38,x_44,hx39,hd43⟩
  ·rw [hd43,laws_toCondS_L1.eq_1] at hc1
   have hq42:=dlf hie40
   refine awp_seq<|sr<|s_mov (.int .i64 (i_24:Int)) rfl<|s_mov (.lst 3 (a_1.map encGCond)) rfl<|s_dof (o_len (enc:=encGCond) rfl) fun hl45 => s_q (.bool (decide ((i_24:Int) < (a_1.length:Int)))) rfl rfl rfl<|dk<|w_condf rfl hq42<|w_exit<|k_seqx<|k_loopx<|k_blkx<|?_;obtain rfl:=os hc1;exact ⟨[],[0],_,_,rfl,rfl,⟨.refl _,trivial⟩,(.refl _)⟩
  ·rw [hd43,laws_toCondS_L1.eq_2] at hc1
   have hq42:=dlt hlt38
   refine awp_seq<|sr<|s_mov (.int .i64 (i_24:Int)) rfl<|s_mov (.lst 3 (a_1.map encGCond)) rfl<|s_dof (o_len (enc:=encGCond) rfl) fun hl46 => s_q (.bool (decide ((i_24:Int) < (a_1.length:Int)))) rfl rfl rfl<|dk<|w_condt rfl hq42<|w_skip<|k_seq<|awp_seq<|w_blk<|w_reg<|?_
   obtain ⟨r_47,er48,hc1⟩:=ob hc1
   obtain ⟨g49,hc1⟩:=og hc1
   obtain ⟨x_50,ex51,hc1⟩:=ob hc1
   refine s_mov (.own 0 0 out_25.length) rfl<|s_mov (.int .i64 (i_24:Int)) rfl<|s_mov (.lst 3 (a_1.map encGCond)) rfl<|s_mov (.int .i64 (i_24:Int)) rfl<|s_do (o_iaddrn (enc:=encGCond) rfl rfl hx39)<|s_q (encGCond x_44) rfl nle rfl<|s_do (o_callf (v:=(.agg [(.str r_47.Column),(.int .i64 r_47.Func),(.own 1 0 r_47.Value.length)])) (h':=[.row 3 (r_47.Value.map encGAtom)]) (w_laws_toCond _ _ er48) rfl (.refl _) (by simp only [openV,openVs,List.length_map,encGCond_eq,List.nil_append,List.append_nil,List.cons_append];rfl))<|s_do (o_iaddrownn rfl rfl g49 rfl rfl)<|?_;refine s_do0 (o_storerow (v':=(.agg [(.str r_47.Column),(.int .i64 r_47.Func),(.lst 3 (r_47.Value.map encGAtom))])) (e':=r_47) rfl rfl ex51 rfl rfl (by simp only [tk,tko,List.take_length]) (by decide) (fun _ => by decide) ⟨rfl,nle⟩ (.refl _) rfl) ?_
   refine w_done<|k_blk<|k_seq<|w_reg<|s_mov (.int .i64 (i_24:Int)) rfl<|s_q (.int .i64 (w64 ((i_24:Int) + 1))) rfl rfl rfl<|s_mov (.int .i64 (w64 ((i_24:Int) + 1))) rfl<|w_done<|?_;exact k_loopn ⟨((i_24 + 1),out_25.set i_24 r_47),hc1⟩ (mul hlt38) ⟨[],[0],_,_,rfl,rfl,⟨.refl _,⟨.of_eq (congrArg (AV.own _ 0) (by simp)),⟨.of_eq (congrArg (AV.int _) (w64_incr hlt38 hl46)),trivial⟩⟩⟩,(.refl _)⟩
 ·refine sr<|s_mov (.own 0 0 out_36.length) rfl<|s_mov (.own 0 0 out_36.length) rfl<|dk<|w_ret<|?_;obtain rfl:=os hf;exact r_fresh ⟨trivial,trivial⟩ rfl (by decide) (.of_eq (congrArg (AV.lst _) (tk (enc:=encGCond) out_36)))

/- laws.toStringS -/
def c155:ACode :=
 (.seq (.reg (tm 2 (.c .nil) .done))
 (.seq (.reg (tm 5 (.t 0) (tq 6 (.len (.t 5)) (tq 7 (.mkslice 1 16 (.str []) (.t 6) (.t 6)) (tm 3 (.t 7) .done)))))
 (.seq (.seq (.reg (tm 4 (.c (.int .i64 0)) .done))
 (.block 0 (.loop (.seq (.seq (.reg (tm 8 (.t 4) (tm 9 (.t 0) (tq 10 (.len (.t 9)) (tq 11 (.bin .lss (.t 8) (.t 10)) .done)))))
 (.cond (.t 11) .skip
 (.exit 0)))
 (.seq (.block 1 (.reg (tm 14 (.t 3) (tm 15 (.t 4) (tm 16 (.t 0) (tm 17 (.t 4) (tq 18 (.iaddr 1 (.t 16) (.t 17)) (tq 19 (.load 1 false (.t 18)) (tq 20 (.iaddr 1 (.t 14) (.t 15)) (.q ⟨none,none,.store 1 (.t 20) (.t 19)⟩
 .done))))))))))
 (.reg (tm 12 (.t 4) (tq 13 (.bin .add (.t 12) (.c (.int .i64 1))) (tm 4 (.t 13) .done)))))))))
 (.cut (.seq (.reg (tm 21 (.t 3) (tm 2 (.t 21) .done)))
 .ret)))))
theorem fc155:fcomp Tryz.prog Tryz.f155 = some (c155.erase,[.mov (.t 2)],22):=by kernel_rfl
def laws_toStringS_L1 :List Str → Nat → (List Str) → Option (List Str)
  | [],i_20,out_21 =>
    some out_21
  | x_38 :: xs,i_20,out_21 =>
    if i_20 < out_21.length then
    (out_21[i_20]?).bind fun x_42 =>
    laws_toStringS_L1 xs (i_20 + 1) (out_21.set i_20 x_38)
    else none

def laws_toStringS (a_1:(List Str)):Option (List Str) :=
    if (a_1.length:Int) ≤ 2 ^ 30 then
    (laws_toStringS_L1 a_1 0 (List.replicate a_1.length [])).bind fun out_30 =>
    some out_30
    else none
theorem w_laws_toStringS (a_1:(List Str)) (r:(List Str)) (hf:laws_toStringS a_1 = some r):CallOK Tryz.prog 155 .fresh [(.lst 1 (a_1.map AV.str))] (.lst 1 (r.map AV.str)):=by
 refine CallOK.of_awp mixed Tryz.func155 fc155 nle ?_;rw [argT_eq];unfold laws_toStringS at hf;unfold c155;refine (show awp Tryz.prog true 0 _ (ofL [(0,(.lst 1 (a_1.map AV.str)))]) [] _ from ?_);refine sr<|s_mov .nil rfl<|dk<|sr<|?_
 obtain ⟨g3,hf⟩:=og hf
 refine s_mov (.lst 1 (a_1.map AV.str)) rfl<|s_dof (o_len (enc:=AV.str) rfl) fun hl2 => s_do (o_mkslice (j:=0) (enc:=AV.str) (m:=a_1.length) [] (.refl _) rfl rfl (Int.le_refl _) g3 rfl)<|s_mov (.own 0 0 a_1.length) rfl<|dk<|awp_seq<|sr<|s_mov (.int .i64 0) rfl<|dk<|?_
 obtain ⟨out_30,hb1,hf⟩:=ob hf
 refine awp_cut ([(3,(.own 0 0 out_30.length))],[.row 1 (out_30.map AV.str)]) ?_ ?_
 ·refine awp_loop (X:={q:(Nat × (List Str)) // laws_toStringS_L1 (a_1.drop q.1) q.1 q.2 = some out_30}) (fun q => ([(0,(.lst 1 (a_1.map AV.str))),(3,(.own 0 0 q.1.2.length)),(4,(.int .i64 (q.1.1:Int)))],[.row 1 (q.1.2.map AV.str)])) (fun q => a_1.length - q.1.1) ⟨(0,List.replicate a_1.length []),hb1⟩ ⟨[],[0],_,_,rfl,rfl,⟨.refl _,⟨.of_eq (congrArg (AV.own _ 0) (by simp)),⟨.refl _,trivial⟩⟩⟩,(.refl _)⟩ ?_
  rintro ⟨⟨i_20,out_21⟩,hc1⟩
  have hc1:laws_toStringS_L1 (a_1.drop i_20) i_20 out_21 = some out_30:=hc1
  refine (show awp Tryz.prog true 0 _ (ofL [(0,(.lst 1 (a_1.map AV.str))),(3,(.own 0 0 out_21.length)),(4,(.int .i64 (i_20:Int)))]) [.row 1 (out_21.map AV.str)] _ from ?_)
  rcases dropc a_1 i_20 with ⟨hie34,hd37⟩ | ⟨hlt32,x_38,hx33,hd37⟩
  ·rw [hd37,laws_toStringS_L1.eq_1] at hc1
   have hq36:=dlf hie34
   refine awp_seq<|sr<|s_mov (.int .i64 (i_20:Int)) rfl<|s_mov (.lst 1 (a_1.map AV.str)) rfl<|s_dof (o_len (enc:=AV.str) rfl) fun hl39 => s_q (.bool (decide ((i_20:Int) < (a_1.length:Int)))) rfl rfl rfl<|dk<|w_condf rfl hq36<|w_exit<|k_seqx<|k_loopx<|k_blkx<|?_;obtain rfl:=os hc1;exact ⟨[],[0],_,_,rfl,rfl,⟨.refl _,trivial⟩,(.refl _)⟩
  ·rw [hd37,laws_toStringS_L1.eq_2] at hc1
   have hq36:=dlt hlt32
   refine awp_seq<|sr<|s_mov (.int .i64 (i_20:Int)) rfl<|s_mov (.lst 1 (a_1.map AV.str)) rfl<|s_dof (o_len (enc:=AV.str) rfl) fun hl40 => s_q (.bool (decide ((i_20:Int) < (a_1.length:Int)))) rfl rfl rfl<|dk<|w_condt rfl hq36<|w_skip<|k_seq<|awp_seq<|w_blk<|w_reg<|?_
   obtain ⟨g41,hc1⟩:=og hc1
   obtain ⟨x_42,ex43,hc1⟩:=ob hc1
   refine s_mov (.own 0 0 out_21.length) rfl<|s_mov (.int .i64 (i_20:Int)) rfl<|s_mov (.lst 1 (a_1.map AV.str)) rfl<|s_mov (.int .i64 (i_20:Int)) rfl<|s_do (o_iaddrn (enc:=AV.str) rfl rfl hx33)<|s_q (.str x_38) rfl ⟨rfl,rfl⟩ rfl<|s_do (o_iaddrownn rfl rfl g41 rfl rfl)<|?_;refine s_do0 (o_storerow (v':=(.str x_38)) (e':=x_38) rfl rfl ex43 rfl rfl rfl (by decide) (fun _ => by decide) ⟨rfl,rfl,rfl⟩ (.refl _) rfl) ?_;refine w_done<|k_blk<|k_seq<|w_reg<|s_mov (.int .i64 (i_20:Int)) rfl<|s_q (.int .i64 (w64 ((i_20:Int) + 1))) rfl rfl rfl<|s_mov (.int .i64 (w64 ((i_20:Int) + 1))) rfl<|w_done<|?_;exact k_loopn ⟨((i_20 + 1),out_21.set i_20 x_38),hc1⟩ (mul hlt32) ⟨[],[0],_,_,rfl,rfl,⟨.refl _,⟨.of_eq (congrArg (AV.own _ 0) (by simp)),⟨.of_eq (congrArg (AV.int _) (w64_incr hlt32 hl40)),trivial⟩⟩⟩,(.refl _)⟩
 ·refine sr<|s_mov (.own 0 0 out_30.length) rfl<|s_mov (.own 0 0 out_30.length) rfl<|dk<|w_ret<|?_;obtain rfl:=os hf;exact r_fresh ⟨trivial,trivial⟩ rfl (by decide) (.of_eq (congrArg (AV.lst _) (tk (enc:=AV.str) out_30)))

/- laws.toSet -/
def c89:ACode :=
 (.seq (.reg (tq 1 (.box 3 (.t 0)) (tq 2 (.box 3 (.c (.agg [(.str []),.nil,.nil]))) .done)))
 (.seq (.reg (tq 3 (.box 3 (.c (.agg [(.str []),.nil,.nil]))) .done))
 (.seq (.reg (tq 4 (.faddr 0 (.t 1)) (tq 5 (.load 1 false (.t 4)) (tq 6 (.faddr 0 (.t 3)) (.q ⟨none,none,.store 1 (.t 6) (.t 5)⟩
 .done)))))
 (.seq (.reg (tq 7 (.faddr 1 (.t 1)) (tq 8 (.load 1 false (.t 7)) (tq 9 (.call 169 [(.t 8)]) (tq 10 (.faddr 1 (.t 3)) (.q ⟨none,none,.store 1 (.t 10) (.t 9)⟩
 .done))))))
 (.seq (.reg (tq 11 (.faddr 2 (.t 1)) (tq 12 (.load 1 false (.t 11)) (tq 13 (.call 155 [(.t 12)]) (tq 14 (.faddr 2 (.t 3)) (.q ⟨none,none,.store 1 (.t 14) (.t 13)⟩
 .done))))))
 (.seq (.reg (tq 15 (.load 3 true (.t 3)) (.q ⟨none,none,.store 3 (.t 2) (.t 15)⟩
 .done)))
 .ret))))))
theorem fc89:fcomp Tryz.prog Tryz.f89 = some (c89.erase,[.load 3 true (.t 2)],16):=by kernel_rfl
def laws_toSet (a_1:GSet):Option GSet :=
    (laws_toAtomS a_1.Value).bind fun r_2 =>
    (laws_toStringS a_1.Names).bind fun r_4 =>
    some (⟨a_1.Column,r_2,r_4⟩:GSet)
theorem w_laws_toSet (a_1:GSet) (r:GSet) (hf:laws_toSet a_1 = some r):CallOK Tryz.prog 89 .fresh [(encGSet a_1)] (encGSet r):=by
 refine CallOK.of_awp mixed Tryz.func89 fc89 nle ?_;rw [argT_eq];unfold laws_toSet at hf;unfold c89;refine (show awp Tryz.prog true 0 _ (ofL [(0,(encGSet a_1))]) [] _ from ?_);refine sr<|s_do (o_box (j:=0) (c:=(.agg [(.str a_1.Column),(.lst 3 (a_1.Value.map encGAtom)),(.lst 1 (a_1.Names.map AV.str))])) rfl trivial rfl rfl)<|s_do (o_box (j:=1) (c:=(.agg [(.str []),.nil,.nil])) rfl trivial rfl rfl)<|dk<|sr<|s_do (o_box (j:=2) (c:=(.agg [(.str []),.nil,.nil])) rfl trivial rfl rfl)<|dk<|sr<|s_q (.ptr 0 0 0) rfl trivial rfl<|s_q (.str a_1.Column) rfl nle rfl<|s_q (.ptr 2 0 0) rfl trivial rfl<|s_do0 (o_storebox (v:=(.str a_1.Column)) (y':=(.agg [(.str a_1.Column),.nil,.nil])) rfl rfl rfl trivial ⟨rfl,nle⟩ ⟨⟨rfl,trivial⟩,trivial⟩ rfl)<|?_
 refine dk<|sr<|?_
 obtain ⟨r_2,er3,hf⟩:=ob hf
 refine s_q (.ptr 0 0 1) rfl trivial rfl<|s_q (.lst 3 (a_1.Value.map encGAtom)) rfl nle rfl<|s_do (o_callf (v:=(.own 3 0 r_2.length)) (h':=[.row 3 (r_2.map encGAtom)]) (w_laws_toAtomS _ _ er3) rfl (.refl _) (by simp only [openV,openVs,List.length_map,List.nil_append,List.append_nil,List.cons_append];rfl))<|s_q (.ptr 2 0 1) rfl trivial rfl<|s_do0 (o_storebox (v:=(.own 3 0 r_2.length)) (y':=(.agg [(.str a_1.Column),(.own 3 0 r_2.length),.nil])) rfl rfl rfl trivial ⟨rfl,nle⟩ ⟨⟨rfl,trivial⟩,trivial⟩ rfl)<|dk<|sr<|?_
 obtain ⟨r_4,er5,hf⟩:=ob hf
 refine s_q (.ptr 0 0 2) rfl trivial rfl<|s_q (.lst 1 (a_1.Names.map AV.str)) rfl nle rfl<|s_do (o_callf (v:=(.own 4 0 r_4.length)) (h':=[.row 1 (r_4.map AV.str)]) (w_laws_toStringS _ _ er5) rfl (.refl _) (by simp only [openV,openVs,List.length_map,List.nil_append,List.append_nil,List.cons_append];rfl))<|s_q (.ptr 2 0 2) rfl trivial rfl<|s_do0 (o_storebox (v:=(.own 4 0 r_4.length)) (y':=(.agg [(.str a_1.Column),(.own 3 0 r_2.length),(.own 4 0 r_4.length)])) rfl rfl rfl trivial ⟨rfl,nle⟩ ⟨⟨rfl,trivial⟩,trivial⟩ rfl)<|dk<|sr<|s_q (.agg [(.str a_1.Column),(.own 3 0 r_2.length),(.own 4 0 r_4.length)]) rfl nle rfl<|s_do0 (o_storebox (v:=(.agg [(.str a_1.Column),(.own 3 0 r_2.length),(.own 4 0 r_4.length)])) (y':=(.agg [(.str a_1.Column),(.own 3 0 r_2.length),(.own 4 0 r_4.length)])) rfl rfl rfl trivial ⟨rfl,nle⟩ ⟨⟨rfl,trivial⟩,⟨⟨rfl,trivial⟩,⟨⟨rfl,trivial⟩,trivial⟩⟩⟩ rfl)<|?_
 refine dk<|w_ret<|?_;obtain rfl:=os hf;exact r_fresh ⟨nle,trivial⟩ rfl (by decide) (.agg (.cons (.refl _) (.cons (.of_eq (congrArg (AV.lst _) (tk (enc:=encGAtom) r_2))) (.cons (.of_eq (congrArg (AV.lst _) (tk (enc:=AV.str) r_4))) .nil))))

/- laws.toSetS -/
def c28:ACode :=
 (.seq (.reg (tm 2 (.c .nil) .done))
 (.seq (.reg (tm 5 (.t 0) (tq 6 (.len (.t 5)) (tq 7 (.mkslice 3 64 (.agg [(.str []),.nil,.nil]) (.t 6) (.t 6)) (tm 3 (.t 7) .done)))))
 (.seq (.seq (.reg (tm 4 (.c (.int .i64 0)) .done))
 (.block 0 (.loop (.seq (.seq (.reg (tm 8 (.t 4) (tm 9 (.t 0) (tq 10 (.len (.t 9)) (tq 11 (.bin .lss (.t 8) (.t 10)) .done)))))
 (.cond (.t 11) .skip
 (.exit 0)))
 (.seq (.block 1 (.reg (tm 14 (.t 3) (tm 15 (.t 4) (tm 16 (.t 0) (tm 17 (.t 4) (tq 18 (.iaddr 3 (.t 16) (.t 17)) (tq 19 (.load 3 true (.t 18)) (tq 20 (.call 89 [(.t 19)]) (tq 21 (.iaddr 3 (.t 14) (.t 15)) (.q ⟨none,none,.store 3 (.t 21) (.t 20)⟩
 .done)))))))))))
 (.reg (tm 12 (.t 4) (tq 13 (.bin .add (.t 12) (.c (.int .i64 1))) (tm 4 (.t 13) .done)))))))))
 (.cut (.seq (.reg (tm 22 (.t 3) (tm 2 (.t 22) .done)))
 .ret)))))
theorem fc28:fcomp Tryz.prog Tryz.f28 = some (c28.erase,[.mov (.t 2)],23):=by kernel_rfl
def laws_toSetS_L1 :List GSet → Nat → (List GSet) → Option (List GSet)
  | [],i_24,out_25 =>
    some out_25
  | x_44 :: xs,i_24,out_25 =>
    (laws_toSet x_44).bind fun r_47 =>
    if i_24 < out_25.length then
    (out_25[i_24]?).bind fun x_50 =>
    laws_toSetS_L1 xs (i_24 + 1) (out_25.set i_24 r_47)
    else none

def laws_toSetS (a_1:(List GSet)):Option (List GSet) :=
    if (a_1.length:Int) ≤ 2 ^ 30 then
    (laws_toSetS_L1 a_1 0 (List.replicate a_1.length (⟨[],[],[]⟩:GSet))).bind fun out_36 =>
    some out_36
    else none
theorem w_laws_toSetS (a_1:(List GSet)) (r:(List GSet)) (hf:laws_toSetS a_1 = some r):CallOK Tryz.prog 28 .fresh [(.lst 3 (a_1.map encGSet))] (.lst 3 (r.map encGSet)):=by
 refine CallOK.of_awp mixed Tryz.func28 fc28 nle ?_;rw [argT_eq];unfold laws_toSetS at hf;unfold c28;refine (show awp Tryz.prog true 0 _ (ofL [(0,(.lst 3 (a_1.map encGSet)))]) [] _ from ?_);refine sr<|s_mov .nil rfl<|dk<|sr<|?_
 obtain ⟨g3,hf⟩:=og hf
 refine s_mov (.lst 3 (a_1.map encGSet)) rfl<|s_dof (o_len (enc:=encGSet) rfl) fun hl2 => s_do (o_mkslice (j:=0) (enc:=encGSet) (m:=a_1.length) (⟨[],[],[]⟩:GSet) (.agg (.cons (.refl _) (.cons (.nil _) (.cons (.nil _) .nil)))) rfl rfl (Int.le_refl _) g3 rfl)<|s_mov (.own 0 0 a_1.length) rfl<|dk<|awp_seq<|sr<|s_mov (.int .i64 0) rfl<|dk<|?_
 obtain ⟨out_36,hb1,hf⟩:=ob hf
 refine awp_cut ([(3,(.own 0 0 out_36.length))],[.row 3 (out_36.map encGSet)]) ?_ ?_
 ·refine awp_loop (X:={q:(Nat × (List GSet)) // laws_toSetS_L1 (a_1.drop q.1) q.1 q.2 = some out_36}) (fun q => ([(0,(.lst 3 (a_1.map encGSet))),(3,(.own 0 0 q.1.2.length)),(4,(.int .i64 (q.1.1:Int)))],[.row 3 (q.1.2.map encGSet)])) (fun q => a_1.length - q.1.1) ⟨(0,List.replicate a_1.length (⟨[],[],[]⟩:GSet)),hb1⟩ ⟨[],[0],_,_,rfl,rfl,⟨.refl _,⟨.of_eq (congrArg (AV.own _ 0) (by simp)),⟨.refl _,trivial⟩⟩⟩,(.refl _)⟩ ?_
  rintro ⟨⟨i_24,out_25⟩,hc1⟩
  have hc1:laws_toSetS_L1 (a_1.drop i_24) i_24 out_25 = some out_36:=hc1
  refine (show awp Tryz.prog true 0 _ (ofL [(0,(.lst 3 (a_1.map encGSet))),(3,(.own 0 0 out_25.length)),(4,(.int .i64 (i_24:Int)))]) [.row 3 (out_25.map encGSet)] _ from ?_)
  rcases dropc a_1 i_24 with ⟨hie40,hd43⟩ | ⟨hlt38,x_44,hx39,hd43⟩
  ·rw [hd43,laws_toSetS_L1.eq_1] at hc1
   have hq42:=dlf hie40
   refine awp_seq<|sr<|s_mov (.int .i64 (i_24:Int)) rfl<|s_mov (.lst 3 (a_1.map encGSet)) rfl<|s_dof (o_len (enc:=encGSet) rfl) fun hl45 => s_q (.bool (decide ((i_24:Int) < (a_1.length:Int)))) rfl rfl rfl<|dk<|w_condf rfl hq42<|w_exit<|k_seqx<|k_loopx<|k_blkx<|?_;obtain rfl:=os hc1;exact ⟨[],[0],_,_,rfl,rfl,⟨.refl _,trivial⟩,(.refl _)⟩
  ·rw [hd43,laws_toSetS_L1.eq_2] at hc1
   have hq42:=dlt hlt38
   refine awp_seq<|sr<|s_mov (.int .i64 (i_24:Int)) rfl<|s_mov (.lst 3 (a_1.map encGSet)) rfl<|s_dof (o_len (enc:=encGSet) rfl) fun hl46 => s_q (.bool (decide ((i_24:Int) < (a_1.length:Int)))) rfl rfl rfl<|dk<|w_condt rfl hq42<|w_skip<|k_seq<|awp_seq<|w_blk<|w_reg<|?_
   obtain ⟨r_47,er48,hc1⟩:=ob hc1
   obtain ⟨g49,hc1⟩:=og hc1
   obtain ⟨x_50,ex51,hc1⟩:=ob hc1
   refine s_mov (.own 0 0 out_25.length) rfl<|s_mov (.int .i64 (i_24:Int)) rfl<|s_mov (.lst 3 (a_1.map encGSet)) rfl<|s_mov (.int .i64 (i_24:Int)) rfl<|s_do (o_iaddrn (enc:=encGSet) rfl rfl hx39)<|s_q (encGSet x_44) rfl nle rfl<|s_do (o_callf (v:=(.agg [(.str r_47.Column),(.own 1 0 r_47.Value.length),(.own 2 0 r_47.Names.length)])) (h':=[.row 3 (r_47.Value.map encGAtom),.row 1 (r_47.Names.map AV.str)]) (w_laws_toSet _ _ er48) rfl (.refl _) (by simp only [openV,openVs,List.length_map,encGSet_eq,List.nil_append,List.append_nil,List.cons_append];rfl))<|s_do (o_iaddrownn rfl rfl g49 rfl rfl)<|?_;refine s_do0 (o_storerow (v':=(.agg [(.str r_47.Column),(.lst 3 (r_47.Value.map encGAtom)),(.lst 1 (r_47.Names.map AV.str))])) (e':=r_47) rfl rfl ex51 rfl rfl (by simp only [tk,tko,List.take_length]) (by decide) (fun _ => by decide) ⟨rfl,nle⟩ (.refl _) rfl) ?_
   refine w_done<|k_blk<|k_seq<|w_reg<|s_mov (.int .i64 (i_24:Int)) rfl<|s_q (.int .i64 (w64 ((i_24:Int) + 1))) rfl rfl rfl<|s_mov (.int .i64 (w64 ((i_24:Int) + 1))) rfl<|w_done<|?_;exact k_loopn ⟨((i_24 + 1),out_25.set i_24 r_47),hc1⟩ (mul hlt38) ⟨[],[0],_,_,rfl,rfl,⟨.refl _,⟨.of_eq (congrArg (AV.own _ 0) (by simp)),⟨.of_eq (congrArg (AV.int _) (w64_incr hlt38 hl46)),trivial⟩⟩⟩,(.refl _)⟩
 ·refine sr<|s_mov (.own 0 0 out_36.length) rfl<|s_mov (.own 0 0 out_36.length) rfl<|dk<|w_ret<|?_;obtain rfl:=os hf;exact r_fresh ⟨trivial,trivial⟩ rfl (by decide) (.of_eq (congrArg (AV.lst _) (tk (enc:=encGSet) out_36)))

/- laws.toMut -/
def c219:ACode :=
 (.seq (.reg (tq 1 (.box 3 (.t 0)) (tq 2 (.box 3 (.c (.agg [(.str []),(.int .i64 0),.nil]))) .done)))
 (.seq (.reg (tq 3 (.box 3 (.c (.agg [(.str []),(.int .i64 0),.nil]))) .done))
 (.seq (.reg (tq 4 (.faddr 0 (.t 1)) (tq 5 (.load 1 false (.t 4)) (tq 6 (.faddr 0 (.t 3)) (.q ⟨none,none,.store 1 (.t 6) (.t 5)⟩
 .done)))))
 (.seq (.reg (tq 7 (.faddr 1 (.t 1)) (tq 8 (.load 1 false (.t 7)) (tq 9 (.faddr 1 (.t 3)) (.q ⟨none,none,.store 1 (.t 9) (.t 8)⟩
 .done)))))
 (.seq (.reg (tq 10 (.faddr 2 (.t 1)) (tq 11 (.load 1 false (.t 10)) (tq 12 (.call 169 [(.t 11)]) (tq 13 (.faddr 2 (.t 3)) (.q ⟨none,none,.store 1 (.t 13) (.t 12)⟩
 .done))))))
 (.seq (.reg (tq 14 (.load 3 true (.t 3)) (.q ⟨none,none,.store 3 (.t 2) (.t 14)⟩
 .done)))
 .ret))))))
theorem fc219:fcomp Tryz.prog Tryz.f219 = some (c219.erase,[.load 3 true (.t 2)],15):=by kernel_rfl
def laws_toMut (a_1:GMut):Option GMut :=
    (laws_toAtomS a_1.Value).bind fun r_2 =>
    some (⟨a_1.Column,a_1.Func,r_2⟩:GMut)
theorem w_laws_toMut (a_1:GMut) (r:GMut) (hf:laws_toMut a_1 = some r):CallOK Tryz.prog 219 .fresh [(encGMut a_1)] (encGMut r):=by
 refine CallOK.of_awp mixed Tryz.func219 fc219 nle ?_;rw [argT_eq];unfold laws_toMut at hf;unfold c219;refine (show awp Tryz.prog true 0 _ (ofL [(0,(encGMut a_1))]) [] _ from ?_);refine sr<|s_do (o_box (j:=0) (c:=(.agg [(.str a_1.Column),(.int .i64 a_1.Func),(.lst 3 (a_1.Value.map encGAtom))])) rfl trivial rfl rfl)<|s_do (o_box (j:=1) (c:=(.agg [(.str []),(.int .i64 0),.nil])) rfl trivial rfl rfl)<|dk<|sr<|s_do (o_box (j:=2) (c:=(.agg [(.str []),(.int .i64 0),.nil])) rfl trivial rfl rfl)<|dk<|sr<|s_q (.ptr 0 0 0) rfl trivial rfl<|s_q (.str a_1.Column) rfl nle rfl<|s_q (.ptr 2 0 0) rfl trivial rfl<|s_do0 (o_storebox (v:=(.str a_1.Column)) (y':=(.agg [(.str a_1.Column),(.int .i64 0),.nil])) rfl rfl rfl trivial ⟨rfl,nle⟩ ⟨⟨rfl,trivial⟩,trivial⟩ rfl)<|?_
 refine dk<|sr<|s_q (.ptr 0 0 1) rfl trivial rfl<|s_q (.int .i64 a_1.Func) rfl nle rfl<|s_q (.ptr 2 0 1) rfl trivial rfl<|s_do0 (o_storebox (v:=(.int .i64 a_1.Func)) (y':=(.agg [(.str a_1.Column),(.int .i64 a_1.Func),.nil])) rfl rfl rfl trivial ⟨rfl,nle⟩ ⟨⟨rfl,trivial⟩,trivial⟩ rfl)<|dk<|sr<|?_
 obtain ⟨r_2,er3,hf⟩:=ob hf
 refine s_q (.ptr 0 0 2) rfl trivial rfl<|s_q (.lst 3 (a_1.Value.map encGAtom)) rfl nle rfl<|s_do (o_callf (v:=(.own 3 0 r_2.length)) (h':=[.row 3 (r_2.map encGAtom)]) (w_laws_toAtomS _ _ er3) rfl (.refl _) (by simp only [openV,openVs,List.length_map,List.nil_append,List.append_nil,List.cons_append];rfl))<|s_q (.ptr 2 0 2) rfl trivial rfl<|s_do0 (o_storebox (v:=(.own 3 0 r_2.length)) (y':=(.agg [(.str a_1.Column),(.int .i64 a_1.Func),(.own 3 0 r_2.length)])) rfl rfl rfl trivial ⟨rfl,nle⟩ ⟨⟨rfl,trivial⟩,trivial⟩ rfl)<|dk<|sr<|s_q (.agg [(.str a_1.Column),(.int .i64 a_1.Func),(.own 3 0 r_2.length)]) rfl nle rfl<|s_do0 (o_storebox (v:=(.agg [(.str a_1.Column),(.int .i64 a_1.Func),(.own 3 0 r_2.length)])) (y':=(.agg [(.str a_1.Column),(.int .i64 a_1.Func),(.own 3 0 r_2.length)])) rfl rfl rfl trivial ⟨rfl,nle⟩ ⟨⟨rfl,trivial⟩,⟨⟨rfl,trivial⟩,⟨⟨rfl,trivial⟩,trivial⟩⟩⟩ rfl)<|?_
 refine dk<|w_ret<|?_;obtain rfl:=os hf;exact r_fresh ⟨nle,trivial⟩ rfl (by decide) (.agg (.cons (.refl _) (.cons (.refl _) (.cons (.of_eq (congrArg (AV.lst _) (tk (enc:=encGAtom) r_2))) .nil))))

/- laws.toMutS -/
def c154:ACode :=
 (.seq (.reg (tm 2 (.c .nil) .done))
 (.seq (.reg (tm 5 (.t 0) (tq 6 (.len (.t 5)) (tq 7 (.mkslice 3 48 (.agg [(.str []),(.int .i64 0),.nil]) (.t 6) (.t 6)) (tm 3 (.t 7) .done)))))
 (.seq (.seq (.reg (tm 4 (.c (.int .i64 0)) .done))
 (.block 0 (.loop (.seq (.seq (.reg (tm 8 (.t 4) (tm 9 (.t 0) (tq 10 (.len (.t 9)) (tq 11 (.bin .lss (.t 8) (.t 10)) .done)))))
 (.cond (.t 11) .skip
 (.exit 0)))
 (.seq (.block 1 (.reg (tm 14 (.t 3) (tm 15 (.t 4) (tm 16 (.t 0) (tm 17 (.t 4) (tq 18 (.iaddr 3 (.t 16) (.t 17)) (tq 19 (.load 3 true (.t 18)) (tq 20 (.call 219 [(.t 19)]) (tq 21 (.iaddr 3 (.t 14) (.t 15)) (.q ⟨none,none,.store 3 (.t 21) (.t 20)⟩
 .done)))))))))))
 (.reg (tm 12 (.t 4) (tq 13 (.bin .add (.t 12) (.c (.int .i64 1))) (tm 4 (.t 13) .done)))))))))
 (.cut (.seq (.reg (tm 22 (.t 3) (tm 2 (.t 22) .done)))
 .ret)))))
theorem fc154:fcomp Tryz.prog Tryz.f154 = some (c154.erase,[.mov (.t 2)],23):=by kernel_rfl
def laws_toMutS_L1 :List GMut → Nat → (List GMut) → Option (List GMut)
  | [],i_24,out_25 =>
    some out_25
  | x_44 :: xs,i_24,out_25 =>
    (laws_toMut x_44).bind fun r_47 =>
    if i_24 < out_25.length then
    (out_25[i_24]?).bind fun x_50 =>
    laws_toMutS_L1 xs (i_24 + 1) (out_25.set i_24 r_47)
    else none

def laws_toMutS (a_1:(List GMut)):Option (List GMut) :=
    if (a_1.length:Int) ≤ 2 ^ 30 then
    (laws_toMutS_L1 a_1 0 (List.replicate a_1.length (⟨[],0,[]⟩:GMut))).bind fun out_36 =>
    some out_36
    else none
theorem w_laws_toMutS (a_1:(List GMut)) (r:(List GMut)) (hf:laws_toMutS a_1 = some r):CallOK Tryz.prog 154 .fresh [(.lst 3 (a_1.map encGMut))] (.lst 3 (r.map encGMut)):=by
 refine CallOK.of_awp mixed Tryz.func154 fc154 nle ?_;rw [argT_eq];unfold laws_toMutS at hf;unfold c154;refine (show awp Tryz.prog true 0 _ (ofL [(0,(.lst 3 (a_1.map encGMut)))]) [] _ from ?_);refine sr<|s_mov .nil rfl<|dk<|sr<|?_
 obtain ⟨g3,hf⟩:=og hf
 refine s_mov (.lst 3 (a_1.map encGMut)) rfl<|s_dof (o_len (enc:=encGMut) rfl) fun hl2 => s_do (o_mkslice (j:=0) (enc:=encGMut) (m:=a_1.length) (⟨[],0,[]⟩:GMut) (.agg (.cons (.refl _) (.cons (.refl _) (.cons (.nil _) .nil)))) rfl rfl (Int.le_refl _) g3 rfl)<|s_mov (.own 0 0 a_1.length) rfl<|dk<|awp_seq<|sr<|s_mov (.int .i64 0) rfl<|dk<|?_
 obtain ⟨out_36,hb1,hf⟩:=ob hf
 refine awp_cut ([(3,(.own 0 0 out_36.length))],[.row 3 (out_36.map encGMut)]) ?_ ?_
 ·refine awp_loop (X:={q:(Nat × (List GMut)) // laws_toMutS_L1 (a_1.drop q.1) q.1 q.2 = some out_36}) (fun q => ([(0,(.lst 3 (a_1.map encGMut))),(3,(.own 0 0 q.1.2.length)),(4,(.int .i64 (q.1.1:Int)))],[.row 3 (q.1.2.map encGMut)])) (fun q => a_1.length - q.1.1) ⟨(0,List.replicate a_1.length (⟨[],0,[]⟩:GMut)),hb1⟩ ⟨[],[0],_,_,rfl,rfl,⟨.refl _,⟨.of_eq (congrArg (AV.own _ 0) (by simp)),⟨.refl _,trivial⟩⟩⟩,(.refl _)⟩ ?_
  rintro ⟨⟨i_24,out_25⟩,hc1⟩
  have hc1:laws_toMutS_L1 (a_1.drop i_24) i_24 out_25 = some out_36:=hc1
  refine (show awp Tryz.prog true 0 _ (ofL [(0,(.lst 3 (a_1.map encGMut))),(3,(.own 0 0 out_25.length)),(4,(.int .i64 (i_24:Int)))]) [.row 3 (out_25.map encGMut)] _ from ?_)
  rcases dropc a_1 i_24 with ⟨hie40,hd43⟩ | ⟨hlt38,x_44,hx39,hd43⟩
  ·rw [hd43,laws_toMutS_L1.eq_1] at hc1
   have hq42:=dlf hie40
   refine awp_seq<|sr<|s_mov (.int .i64 (i_24:Int)) rfl<|s_mov (.lst 3 (a_1.map encGMut)) rfl<|s_dof (o_len (enc:=encGMut) rfl) fun hl45 => s_q (.bool (decide ((i_24:Int) < (a_1.length:Int)))) rfl rfl rfl<|dk<|w_condf rfl hq42<|w_exit<|k_seqx<|k_loopx<|k_blkx<|?_;obtain rfl:=os hc1;exact ⟨[],[0],_,_,rfl,rfl,⟨.refl _,trivial⟩,(.refl _)⟩
  ·rw [hd43,laws_toMutS_L1.eq_2] at hc1
   have hq42:=dlt hlt38
   refine awp_seq<|sr<|s_mov (.int .i64 (i_24:Int)) rfl<|s_mov (.lst 3 (a_1.map encGMut)) rfl<|s_dof (o_len (enc:=encGMut) rfl) fun hl46 => s_q (.bool (decide ((i_24:Int) < (a_1.length:Int)))) rfl rfl rfl<|dk<|w_condt rfl hq42<|w_skip<|k_seq<|awp_seq<|w_blk<|w_reg<|?_
   obtain ⟨r_47,er48,hc1⟩:=ob hc1
   obtain ⟨g49,hc1⟩:=og hc1
   obtain ⟨x_50,ex51,hc1⟩:=ob hc1
   refine s_mov (.own 0 0 out_25.length) rfl<|s_mov (.int .i64 (i_24:Int)) rfl<|s_mov (.lst 3 (a_1.map encGMut)) rfl<|s_mov (.int .i64 (i_24:Int)) rfl<|s_do (o_iaddrn (enc:=encGMut) rfl rfl hx39)<|s_q (encGMut x_44) rfl nle rfl<|s_do (o_callf (v:=(.agg [(.str r_47.Column),(.int .i64 r_47.Func),(.own 1 0 r_47.Value.length)])) (h':=[.row 3 (r_47.Value.map encGAtom)]) (w_laws_toMut _ _ er48) rfl (.refl _) (by simp only [openV,openVs,List.length_map,encGMut_eq,List.nil_append,List.append_nil,List.cons_append];rfl))<|s_do (o_iaddrownn rfl rfl g49 rfl rfl)<|?_;refine s_do0 (o_storerow (v':=(.agg [(.str r_47.Column),(.int .i64 r_47.Func),(.lst 3 (r_47.Value.map encGAtom))])) (e':=r_47) rfl rfl ex51 rfl rfl (by simp only [tk,tko,List.take_length]) (by decide) (fun _ => by decide) ⟨rfl,nle⟩ (.refl _) rfl) ?_
   refine w_done<|k_blk<|k_seq<|w_reg<|s_mov (.int .i64 (i_24:Int)) rfl<|s_q (.int .i64 (w64 ((i_24:Int) + 1))) rfl rfl rfl<|s_mov (.int .i64 (w64 ((i_24:Int) + 1))) rfl<|w_done<|?_;exact k_loopn ⟨((i_24 + 1),out_25.set i_24 r_47),hc1⟩ (mul hlt38) ⟨[],[0],_,_,rfl,rfl,⟨.refl _,⟨.of_eq (congrArg (AV.own _ 0) (by simp)),⟨.of_eq (congrArg (AV.int _) (w64_incr hlt38 hl46)),trivial⟩⟩⟩,(.refl _)⟩
 ·refine sr<|s_mov (.own 0 0 out_36.length) rfl<|s_mov (.own 0 0 out_36.length) rfl<|dk<|w_ret<|?_;obtain rfl:=os hf;exact r_fresh ⟨trivial,trivial⟩ rfl (by decide) (.of_eq (congrArg (AV.lst _) (tk (enc:=encGMut) out_36)))

/- laws.toOp -/
def c68:ACode :=
 (.seq (.reg (tq 1 (.box 8 (.t 0)) (tq 2 (.box 8 (.c (.agg [(.int .i64 0),(.str []),(.str []),.nil,.nil,.nil,.nil,(.bool false)]))) .done)))
 (.seq (.reg (tq 3 (.box 8 (.c (.agg [(.int .i64 0),(.str []),(.str []),.nil,.nil,.nil,.nil,(.bool false)]))) .done))
 (.seq (.reg (tq 4 (.faddr 0 (.t 1)) (tq 5 (.load 1 false (.t 4)) (tq 6 (.faddr 0 (.t 3)) (.q ⟨none,none,.store 1 (.t 6) (.t 5)⟩
 .done)))))
 (.seq (.reg (tq 7 (.faddr 1 (.t 1)) (tq 8 (.load 1 false (.t 7)) (tq 9 (.faddr 1 (.t 3)) (.q ⟨none,none,.store 1 (.t 9) (.t 8)⟩
 .done)))))
 (.seq (.reg (tq 10 (.faddr 2 (.t 1)) (tq 11 (.load 1 false (.t 10)) (tq 12 (.faddr 2 (.t 3)) (.q ⟨none,none,.store 1 (.t 12) (.t 11)⟩
 .done)))))
 (.seq (.reg (tq 13 (.faddr 3 (.t 1)) (tq 14 (.load 1 false (.t 13)) (tq 15 (.call 153 [(.t 14)]) (tq 16 (.faddr 3 (.t 3)) (.q ⟨none,none,.store 1 (.t 16) (.t 15)⟩
 .done))))))
 (.seq (.reg (tq 17 (.faddr 4 (.t 1)) (tq 18 (.load 1 false (.t 17)) (tq 19 (.call 28 [(.t 18)]) (tq 20 (.faddr 4 (.t 3)) (.q ⟨none,none,.store 1 (.t 20) (.t 19)⟩
 .done))))))
 (.seq (.reg (tq 21 (.faddr 5 (.t 1)) (tq 22 (.load 1 false (.t 21)) (tq 23 (.call 154 [(.t 22)]) (tq 24 (.faddr 5 (.t 3)) (.q ⟨none,none,.store 1 (.t 24) (.t 23)⟩
 .done))))))
 (.seq (.reg (tq 25 (.faddr 6 (.t 1)) (tq 26 (.load 1 false (.t 25)) (tq 27 (.call 155 [(.t 26)]) (tq 28 (.faddr 6 (.t 3)) (.q ⟨none,none,.store 1 (.t 28) (.t 27)⟩
 .done))))))
 (.seq (.reg (tq 29 (.faddr 7 (.t 1)) (tq 30 (.load 1 false (.t 29)) (tq 31 (.faddr 7 (.t 3)) (.q ⟨none,none,.store 1 (.t 31) (.t 30)⟩
 .done)))))
 (.seq (.reg (tq 32 (.load 8 true (.t 3)) (.q ⟨none,none,.store 8 (.t 2) (.t 32)⟩
 .done)))
 .ret)))))))))))
theorem fc68:fcomp Tryz.prog Tryz.f68 = some (c68.erase,[.load 8 true (.t 2)],33):=by kernel_rfl
def laws_toOp (a_1:GOp):Option GOp :=
    (laws_toCondS a_1.Where).bind fun r_2 =>
    (laws_toSetS a_1.Row).bind fun r_4 =>
    (laws_toMutS a_1.Muts).bind fun r_6 =>
    (laws_toStringS a_1.Columns).bind fun r_8 =>
    some (⟨a_1.Kind,a_1.Table,a_1.Name,r_2,r_4,r_6,r_8,a_1.Until⟩:GOp)
theorem w_laws_toOp (a_1:GOp) (r:GOp) (hf:laws_toOp a_1 = some r):CallOK Tryz.prog 68 .fresh [(encGOp a_1)] (encGOp r):=by
 refine CallOK.of_awp mixed Tryz.func68 fc68 nle ?_;rw [argT_eq];unfold laws_toOp at hf;unfold c68;refine (show awp Tryz.prog true 0 _ (ofL [(0,(encGOp a_1))]) [] _ from ?_);refine sr<|s_do (o_box (j:=0) (c:=(.agg [(.int .i64 a_1.Kind),(.str a_1.Table),(.str a_1.Name),(.lst 3 (a_1.Where.map encGCond)),(.lst 3 (a_1.Row.map encGSet)),(.lst 3 (a_1.Muts.map encGMut)),(.lst 1 (a_1.Columns.map AV.str)),(.bool a_1.Until)])) rfl trivial rfl rfl)<|s_do (o_box (j:=1) (c:=(.agg [(.int .i64 0),(.str []),(.str []),.nil,.nil,.nil,.nil,(.bool false)])) rfl trivial rfl rfl)<|dk<|sr<|s_do (o_box (j:=2) (c:=(.agg [(.int .i64 0),(.str []),(.str []),.nil,.nil,.nil,.nil,(.bool false)])) rfl trivial rfl rfl)<|?_
 refine dk<|sr<|s_q (.ptr 0 0 0) rfl trivial rfl<|s_q (.int .i64 a_1.Kind) rfl nle rfl<|s_q (.ptr 2 0 0) rfl trivial rfl<|s_do0 (o_storebox (v:=(.int .i64 a_1.Kind)) (y':=(.agg [(.int .i64 a_1.Kind),(.str []),(.str []),.nil,.nil,.nil,.nil,(.bool false)])) rfl rfl rfl trivial ⟨rfl,nle⟩ ⟨⟨rfl,trivial⟩,trivial⟩ rfl)<|dk<|sr<|s_q (.ptr 0 0 1) rfl trivial rfl<|s_q (.str a_1.Table) rfl nle rfl<|s_q (.ptr 2 0 1) rfl trivial rfl<|s_do0 (o_storebox (v:=(.str a_1.Table)) (y':=(.agg [(.int .i64 a_1.Kind),(.str a_1.Table),(.str []),.nil,.nil,.nil,.nil,(.bool false)])) rfl rfl rfl trivial ⟨rfl,nle⟩ ⟨⟨rfl,trivial⟩,trivial⟩ rfl)<|?_
 refine dk<|sr<|s_q (.ptr 0 0 2) rfl trivial rfl<|s_q (.str a_1.Name) rfl nle rfl<|s_q (.ptr 2 0 2) rfl trivial rfl<|s_do0 (o_storebox (v:=(.str a_1.Name)) (y':=(.agg [(.int .i64 a_1.Kind),(.str a_1.Table),(.str a_1.Name),.nil,.nil,.nil,.nil,(.bool false)])) rfl rfl rfl trivial ⟨rfl,nle⟩ ⟨⟨rfl,trivial⟩,trivial⟩ rfl)<|dk<|sr<|?_
 obtain ⟨r_2,er3,hf⟩:=ob hf
 refine s_q (.ptr 0 0 3) rfl trivial rfl<|s_q (.lst 3 (a_1.Where.map encGCond)) rfl nle rfl<|s_do (o_callf (v:=(.own 3 0 r_2.length)) (h':=[.row 3 (r_2.map encGCond)]) (w_laws_toCondS _ _ er3) rfl (.refl _) (by simp only [openV,openVs,List.length_map,List.nil_append,List.append_nil,List.cons_append];rfl))<|s_q (.ptr 2 0 3) rfl trivial rfl<|s_do0 (o_storebox (v:=(.own 3 0 r_2.length)) (y':=(.agg [(.int .i64 a_1.Kind),(.str a_1.Table),(.str a_1.Name),(.own 3 0 r_2.length),.nil,.nil,.nil,(.bool false)])) rfl rfl rfl trivial ⟨rfl,nle⟩ ⟨⟨rfl,trivial⟩,trivial⟩ rfl)<|dk<|sr<|?_
 obtain ⟨r_4,er5,hf⟩:=ob hf
 refine s_q (.ptr 0 0 4) rfl trivial rfl<|s_q (.lst 3 (a_1.Row.map encGSet)) rfl nle rfl<|s_do (o_callf (v:=(.own 4 0 r_4.length)) (h':=[.row 3 (r_4.map encGSet)]) (w_laws_toSetS _ _ er5) rfl (.refl _) (by simp only [openV,openVs,List.length_map,List.nil_append,List.append_nil,List.cons_append];rfl))<|s_q (.ptr 2 0 4) rfl trivial rfl<|s_do0 (o_storebox (v:=(.own 4 0 r_4.length)) (y':=(.agg [(.int .i64 a_1.Kind),(.str a_1.Table),(.str a_1.Name),(.own 3 0 r_2.length),(.own 4 0 r_4.length),.nil,.nil,(.bool false)])) rfl rfl rfl trivial ⟨rfl,nle⟩ ⟨⟨rfl,trivial⟩,trivial⟩ rfl)<|dk<|sr<|?_
 obtain ⟨r_6,er7,hf⟩:=ob hf
 refine s_q (.ptr 0 0 5) rfl trivial rfl<|s_q (.lst 3 (a_1.Muts.map encGMut)) rfl nle rfl<|s_do (o_callf (v:=(.own 5 0 r_6.length)) (h':=[.row 3 (r_6.map encGMut)]) (w_laws_toMutS _ _ er7) rfl (.refl _) (by simp only [openV,openVs,List.length_map,List.nil_append,List.append_nil,List.cons_append];rfl))<|s_q (.ptr 2 0 5) rfl trivial rfl<|s_do0 (o_storebox (v:=(.own 5 0 r_6.length)) (y':=(.agg [(.int .i64 a_1.Kind),(.str a_1.Table),(.str a_1.Name),(.own 3 0 r_2.length),(.own 4 0 r_4.length),(.own 5 0 r_6.length),.nil,(.bool false)])) rfl rfl rfl trivial ⟨rfl,nle⟩ ⟨⟨rfl,trivial⟩,trivial⟩ rfl)<|dk<|sr<|?_
 obtain ⟨r_8,er9,hf⟩:=ob hf
 refine s_q (.ptr 0 0 6) rfl trivial rfl<|s_q (.lst 1 (a_1.Columns.map AV.str)) rfl nle rfl<|s_do (o_callf (v:=(.own 6 0 r_8.length)) (h':=[.row 1 (r_8.map AV.str)]) (w_laws_toStringS _ _ er9) rfl (.refl _) (by simp only [openV,openVs,List.length_map,List.nil_append,List.append_nil,List.cons_append];rfl))<|s_q (.ptr 2 0 6) rfl trivial rfl<|s_do0 (o_storebox (v:=(.own 6 0 r_8.length)) (y':=(.agg [(.int .i64 a_1.Kind),(.str a_1.Table),(.str a_1.Name),(.own 3 0 r_2.length),(.own 4 0 r_4.length),(.own 5 0 r_6.length),(.own 6 0 r_8.length),(.bool false)])) rfl rfl rfl trivial ⟨rfl,nle⟩ ⟨⟨rfl,trivial⟩,trivial⟩ rfl)<|dk<|sr<|s_q (.ptr 0 0 7) rfl trivial rfl<|?_
 refine s_q (.bool a_1.Until) rfl nle rfl<|s_q (.ptr 2 0 7) rfl trivial rfl<|s_do0 (o_storebox (v:=(.bool a_1.Until)) (y':=(.agg [(.int .i64 a_1.Kind),(.str a_1.Table),(.str a_1.Name),(.own 3 0 r_2.length),(.own 4 0 r_4.length),(.own 5 0 r_6.length),(.own 6 0 r_8.length),(.bool a_1.Until)])) rfl rfl rfl trivial ⟨rfl,nle⟩ ⟨⟨rfl,trivial⟩,trivial⟩ rfl)<|dk<|sr<|s_q (.agg [(.int .i64 a_1.Kind),(.str a_1.Table),(.str a_1.Name),(.own 3 0 r_2.length),(.own 4 0 r_4.length),(.own 5 0 r_6.length),(.own 6 0 r_8.length),(.bool a_1.Until)]) rfl nle rfl<|s_do0 (o_storebox (v:=(.agg [(.int .i64 a_1.Kind),(.str a_1.Table),(.str a_1.Name),(.own 3 0 r_2.length),(.own 4 0 r_4.length),(.own 5 0 r_6.length),(.own 6 0 r_8.length),(.bool a_1.Until)])) (y':=(.agg [(.int .i64 a_1.Kind),(.str a_1.Table),(.str a_1.Name),(.own 3 0 r_2.length),(.own 4 0 r_4.length),(.own 5 0 r_6.length),(.own 6 0 r_8.length),(.bool a_1.Until)])) rfl rfl rfl trivial ⟨rfl,nle⟩ ⟨⟨rfl,trivial⟩,⟨⟨rfl,trivial⟩,⟨⟨rfl,trivial⟩,⟨⟨rfl,trivial⟩,⟨⟨rfl,trivial⟩,⟨⟨rfl,trivial⟩,⟨⟨rfl,trivial⟩,⟨⟨rfl,trivial⟩,trivial⟩⟩⟩⟩⟩⟩⟩⟩ rfl)<|?_
 refine dk<|w_ret<|?_;obtain rfl:=os hf;exact r_fresh ⟨nle,trivial⟩ rfl (by decide) (.agg (.cons (.refl _) (.cons (.refl _) (.cons (.refl _) (.cons (.of_eq (congrArg (AV.lst _) (tk (enc:=encGCond) r_2))) (.cons (.of_eq (congrArg (AV.lst _) (tk (enc:=encGSet) r_4))) (.cons (.of_eq (congrArg (AV.lst _) (tk (enc:=encGMut) r_6))) (.cons (.of_eq (congrArg (AV.lst _) (tk (enc:=AV.str) r_8))) (.cons (.refl _) .nil)))))))))

/- laws.toOpS -/
def c15:ACode :=
 (.seq (.reg (tm 2 (.c .nil) .done))
 (.seq (.reg (tm 5 (.t 0) (tq 6 (.len (.t 5)) (tq 7 (.mkslice 8 144 (.agg [(.int .i64 0),(.str []),(.str []),.nil,.nil,.nil,.nil,(.bool false)]) (.t 6) (.t 6)) (tm 3 (.t 7) .done)))))
 (.seq (.seq (.reg (tm 4 (.c (.int .i64 0)) .done))
 (.block 0 (.loop (.seq (.seq (.reg (tm 8 (.t 4) (tm 9 (.t 0) (tq 10 (.len (.t 9)) (tq 11 (.bin .lss (.t 8) (.t 10)) .done)))))
 (.cond (.t 11) .skip
 (.exit 0)))
 (.seq (.block 1 (.reg (tm 14 (.t 3) (tm 15 (.t 4) (tm 16 (.t 0) (tm 17 (.t 4) (tq 18 (.iaddr 8 (.t 16) (.t 17)) (tq 19 (.load 8 true (.t 18)) (tq 20 (.call 68 [(.t 19)]) (tq 21 (.iaddr 8 (.t 14) (.t 15)) (.q ⟨none,none,.store 8 (.t 21) (.t 20)⟩
 .done)))))))))))
 (.reg (tm 12 (.t 4) (tq 13 (.bin .add (.t 12) (.c (.int .i64 1))) (tm 4 (.t 13) .done)))))))))
 (.cut (.seq (.reg (tm 22 (.t 3) (tm 2 (.t 22) .done)))
 .ret)))))
theorem fc15:fcomp Tryz.prog Tryz.f15 = some (c15.erase,[.mov (.t 2)],23):=by kernel_rfl
def laws_toOpS_L1 :List GOp → Nat → (List GOp) → Option (List GOp)
  | [],i_24,out_25 =>
    some out_25
  | x_44 :: xs,i_24,out_25 =>
    (laws_toOp x_44).bind fun r_47 =>
    if i_24 < out_25.length then
    (out_25[i_24]?).bind fun x_50 =>
    laws_toOpS_L1 xs (i_24 + 1) (out_25.set i_24 r_47)
    else none

def laws_toOpS (a_1:(List GOp)):Option (List GOp) :=
    if (a_1.length:Int) ≤ 2 ^ 30 then
    (laws_toOpS_L1 a_1 0 (List.replicate a_1.length (⟨0,[],[],[],[],[],[],false⟩:GOp))).bind fun out_36 =>
    some out_36
    else none
theorem w_laws_toOpS (a_1:(List GOp)) (r:(List GOp)) (hf:laws_toOpS a_1 = some r):CallOK Tryz.prog 15 .fresh [(.lst 8 (a_1.map encGOp))] (.lst 8 (r.map encGOp)):=by
 refine CallOK.of_awp mixed Tryz.func15 fc15 nle ?_;rw [argT_eq];unfold laws_toOpS at hf;unfold c15;refine (show awp Tryz.prog true 0 _ (ofL [(0,(.lst 8 (a_1.map encGOp)))]) [] _ from ?_);refine sr<|s_mov .nil rfl<|dk<|sr<|?_
 obtain ⟨g3,hf⟩:=og hf
 refine s_mov (.lst 8 (a_1.map encGOp)) rfl<|s_dof (o_len (enc:=encGOp) rfl) fun hl2 => s_do (o_mkslice (j:=0) (enc:=encGOp) (m:=a_1.length) (⟨0,[],[],[],[],[],[],false⟩:GOp) (.agg (.cons (.refl _) (.cons (.refl _) (.cons (.refl _) (.cons (.nil _) (.cons (.nil _) (.cons (.nil _) (.cons (.nil _) (.cons (.refl _) .nil))))))))) rfl rfl (Int.le_refl _) g3 rfl)<|s_mov (.own 0 0 a_1.length) rfl<|dk<|awp_seq<|sr<|s_mov (.int .i64 0) rfl<|dk<|?_
 obtain ⟨out_36,hb1,hf⟩:=ob hf
 refine awp_cut ([(3,(.own 0 0 out_36.length))],[.row 8 (out_36.map encGOp)]) ?_ ?_
 ·refine awp_loop (X:={q:(Nat × (List GOp)) // laws_toOpS_L1 (a_1.drop q.1) q.1 q.2 = some out_36}) (fun q => ([(0,(.lst 8 (a_1.map encGOp))),(3,(.own 0 0 q.1.2.length)),(4,(.int .i64 (q.1.1:Int)))],[.row 8 (q.1.2.map encGOp)])) (fun q => a_1.length - q.1.1) ⟨(0,List.replicate a_1.length (⟨0,[],[],[],[],[],[],false⟩:GOp)),hb1⟩ ⟨[],[0],_,_,rfl,rfl,⟨.refl _,⟨.of_eq (congrArg (AV.own _ 0) (by simp)),⟨.refl _,trivial⟩⟩⟩,(.refl _)⟩ ?_
  rintro ⟨⟨i_24,out_25⟩,hc1⟩
  have hc1:laws_toOpS_L1 (a_1.drop i_24) i_24 out_25 = some out_36:=hc1
  refine (show awp Tryz.prog true 0 _ (ofL [(0,(.lst 8 (a_1.map encGOp))),(3,(.own 0 0 out_25.length)),(4,(.int .i64 (i_24:Int)))]) [.row 8 (out_25.map encGOp)] _ from ?_)
  rcases dropc a_1 i_24 with ⟨hie40,hd43⟩ | ⟨hlt38,x_44,hx39,hd43⟩
  ·rw [hd43,laws_toOpS_L1.eq_1] at hc1
   have hq42:=dlf hie40
   refine awp_seq<|sr<|s_mov (.int .i64 (i_24:Int)) rfl<|s_mov (.lst 8 (a_1.map encGOp)) rfl<|s_dof (o_len (enc:=encGOp) rfl) fun hl45 => s_q (.bool (decide ((i_24:Int) < (a_1.length:Int)))) rfl rfl rfl<|dk<|w_condf rfl hq42<|w_exit<|k_seqx<|k_loopx<|k_blkx<|?_;obtain rfl:=os hc1;exact ⟨[],[0],_,_,rfl,rfl,⟨.refl _,trivial⟩,(.refl _)⟩
  ·rw [hd43,laws_toOpS_L1.eq_2] at hc1
   have hq42:=dlt hlt38
   refine awp_seq<|sr<|s_mov (.int .i64 (i_24:Int)) rfl<|s_mov (.lst 8 (a_1.map encGOp)) rfl<|s_dof (o_len (enc:=encGOp) rfl) fun hl46 => s_q (.bool (decide ((i_24:Int) < (a_1.length:Int)))) rfl rfl rfl<|dk<|w_condt rfl hq42<|w_skip<|k_seq<|awp_seq<|w_blk<|w_reg<|?_
   obtain ⟨r_47,er48,hc1⟩:=ob hc1
   obtain ⟨g49,hc1⟩:=og hc1
   obtain ⟨x_50,ex51,hc1⟩:=ob hc1
   refine s_mov (.own 0 0 out_25.length) rfl<|s_mov (.int .i64 (i_24:Int)) rfl<|s_mov (.lst 8 (a_1.map encGOp)) rfl<|s_mov (.int .i64 (i_24:Int)) rfl<|s_do (o_iaddrn (enc:=encGOp) rfl rfl hx39)<|s_q (encGOp x_44) rfl nle rfl<|s_do (o_callf (v:=(.agg [(.int .i64 r_47.Kind),(.str r_47.Table),(.str r_47.Name),(.own 1 0 r_47.Where.length),(.own 2 0 r_47.Row.length),(.own 3 0 r_47.Muts.length),(.own 4 0 r_47.Columns.length),(.bool r_47.Until)])) (h':=[.row 3 (r_47.Where.map encGCond),.row 3 (r_47.Row.map encGSet),.row 3 (r_47.Muts.map encGMut),.row 1 (r_47.Columns.map AV.str)]) (w_laws_toOp _ _ er48) rfl (.refl _) (by simp only [openV,openVs,List.length_map,encGOp_eq,List.nil_append,List.append_nil,List.cons_append];rfl))<|?_
   refine s_do (o_iaddrownn rfl rfl g49 rfl rfl) ?_;refine s_do0 (o_storerow (v':=(.agg [(.int .i64 r_47.Kind),(.str r_47.Table),(.str r_47.Name),(.lst 3 (r_47.Where.map encGCond)),(.lst 3 (r_47.Row.map encGSet)),(.lst 3 (r_47.Muts.map encGMut)),(.lst 1 (r_47.Columns.map AV.str)),(.bool r_47.Until)])) (e':=r_47) rfl rfl ex51 rfl rfl (by simp only [tk,tko,List.take_length]) (by decide) (fun _ => by decide) ⟨rfl,nle⟩ (.refl _) rfl) ?_;refine w_done<|k_blk<|k_seq<|w_reg<|s_mov (.int .i64 (i_24:Int)) rfl<|s_q (.int .i64 (w64 ((i_24:Int) + 1))) rfl rfl rfl<|s_mov (.int .i64 (w64 ((i_24:Int) + 1))) rfl<|w_done<|?_;exact k_loopn ⟨((i_24 + 1),out_25.set i_24 r_47),hc1⟩ (mul hlt38) ⟨[],[0],_,_,rfl,rfl,⟨.refl _,⟨.of_eq (congrArg (AV.own _ 0) (by simp)),⟨.of_eq (congrArg (AV.int _) (w64_incr hlt38 hl46)),trivial⟩⟩⟩,(.refl _)⟩
 ·refine sr<|s_mov (.own 0 0 out_36.length) rfl<|s_mov (.own 0 0 out_36.length) rfl<|dk<|w_ret<|?_;obtain rfl:=os hf;exact r_fresh ⟨trivial,trivial⟩ rfl (by decide) (.of_eq (congrArg (AV.lst _) (tk (enc:=encGOp) out_36)))

/- spec.l01In -/
def c66:ACode :=
 (.seq (.reg (tm 6 (.c (.bool false)) .done))
 (.seq (.reg (tm 7 (.t 1) (tm 8 (.t 0) (tq 9 (.bin .leq (.t 7) (.t 8)) (tm 10 (.t 9) (tg 11 10 true (.mov (.t 0)) (tg 12 10 true (.mov (.t 2)) (tg 13 10 true (.bin .leq (.t 11) (.t 12)) (tq 14 (.pick (.t 10) (.t 13) (.c (.bool false))) (tm 6 (.t 14) .done))))))))))
 .ret))
theorem fc66:fcomp Tryz.prog Tryz.f66 = some (c66.erase,[.mov (.t 6)],15):=by kernel_rfl
def spec_l01In (n_1:Int) (low_2:Int) (high_3:Int):Option Bool :=
    if (decide (low_2 ≤ n_1)) then
    some (decide (n_1 ≤ high_3))
    else
    some false
theorem w_spec_l01In (n_1:Int) (low_2:Int) (high_3:Int) (r:Bool) (hf:spec_l01In n_1 low_2 high_3 = some r):CallOK Tryz.prog 66 .flat [(.int .i64 n_1),(.int .i64 low_2),(.int .i64 high_3)] (.bool r):=by
 refine CallOK.of_awp mixed Tryz.func66 fc66 nle ?_;rw [argT_eq];unfold spec_l01In at hf;unfold c66;refine (show awp Tryz.prog false 0 _ (ofL [(0,(.int .i64 n_1)),(1,(.int .i64 low_2)),(2,(.int .i64 high_3))]) [] _ from ?_);refine sr<|s_mov (.bool false) rfl<|dk<|sr<|?_
 rcases oi hf with ⟨c4,hf⟩ | ⟨c4,hf⟩
 ·refine s_mov (.int .i64 low_2) rfl<|s_mov (.int .i64 n_1) rfl<|s_q (.bool (decide (low_2 ≤ n_1))) rfl rfl rfl<|s_mov (.bool (decide (low_2 ≤ n_1))) rfl<|s_lit (s:=10) (b:=true) rfl c4<|s_on rfl<|s_mov (.int .i64 n_1) rfl<|s_on rfl<|s_mov (.int .i64 high_3) rfl<|s_on rfl<|s_q (.bool (decide (n_1 ≤ high_3))) rfl rfl rfl<|s_q (.bool (decide (n_1 ≤ high_3))) rfl trivial rfl<|s_mov (.bool (decide (n_1 ≤ high_3))) rfl<|dk<|w_ret<|?_;obtain rfl:=os hf;exact r_flat ⟨trivial,trivial⟩ rfl (.refl _)
 ·refine s_mov (.int .i64 low_2) rfl<|s_mov (.int .i64 n_1) rfl<|s_q (.bool (decide (low_2 ≤ n_1))) rfl rfl rfl<|s_mov (.bool (decide (low_2 ≤ n_1))) rfl<|s_lit (s:=10) (b:=false) rfl (bf c4)<|s_off rfl rfl<|s_off rfl rfl<|s_off rfl rfl<|s_q (.bool false) rfl trivial rfl<|s_mov (.bool false) rfl<|dk<|w_ret<|?_;obtain rfl:=os hf;exact r_flat ⟨trivial,trivial⟩ rfl (.refl _)

/- spec.l01Text -/
def c248:ACode :=
 (.seq (.reg (tm 2 (.c (.bool false)) .done))
 (.seq (.seq (.reg (tm 3 (.c (.int .i64 0)) .done))
 (.block 0 (.loop (.seq (.seq (.reg (tm 4 (.t 3) (tm 5 (.t 0) (tq 6 (.lenS (.t 5)) (tq 7 (.bin .lss (.t 4) (.t 6)) .done)))))
 (.cond (.t 7) .skip
 (.exit 0)))
 (.seq (.block 1 (.seq (.reg (tm 10 (.t 0) (tm 11 (.t 3) (tq 12 (.idxs (.t 10) (.t 11)) (tq 13 (.bin .lss (.t 12) (.c (.int .u8 32))) (tm 14 (.t 13) (tg 15 14 false (.mov (.t 0)) (tg 16 14 false (.mov (.t 3)) (tg 17 14 false (.idxs (.t 15) (.t 16)) (tg 18 14 false (.bin .gtr (.t 17) (.c (.int .u8 126))) (tq 19 (.pick (.t 14) (.c (.bool true)) (.t 18)) .done)))))))))))
 (.cut (.cond (.t 19) (.seq (.reg (tm 2 (.c (.bool false)) .done))
 .ret)
 .skip))))
 (.reg (tm 8 (.t 3) (tq 9 (.bin .add (.t 8) (.c (.int .i64 1))) (tm 3 (.t 9) .done)))))))))
 (.cut (.seq (.reg (tm 20 (.t 0) (tq 21 (.lenS (.t 20)) (tq 22 (.bin .leq (.t 21) (.c (.int .i64 200))) (tm 2 (.t 22) .done)))))
 .ret))))
theorem fc248:fcomp Tryz.prog Tryz.f248 = some (c248.erase,[.mov (.t 2)],23):=by kernel_rfl
def spec_l01Text_L1 :List UInt8 → Option (Fl Bool Unit)
  | [] =>
    some (.go ())
  | x_57 :: xs =>
    ((if (decide ((x_57.toNat:Int) < 32)) then
    some true
    else
    some (decide ((x_57.toNat:Int) > 126)):Option Bool)).bind fun s19_61 =>
    if s19_61 then
    some (.ret false)
    else
    spec_l01Text_L1 xs 

def spec_l01Text (t_1:Str):Option Bool :=
    (spec_l01Text_L1 t_1 ).bind fun q => (match q with
    | .ret r => some r
    | .go _ =>
    some (decide ((t_1.length:Int) ≤ 200)))
theorem w_spec_l01Text (t_1:Str) (r:Bool) (hf:spec_l01Text t_1 = some r):CallOK Tryz.prog 248 .flat [(.str t_1)] (.bool r):=by
 refine CallOK.of_awp mixed Tryz.func248 fc248 nle ?_;rw [argT_eq];unfold spec_l01Text at hf;unfold c248;refine (show awp Tryz.prog false 0 _ (ofL [(0,(.str t_1))]) [] _ from ?_);refine sr<|s_mov (.bool false) rfl<|dk<|awp_seq<|sr<|s_mov (.int .i64 0) rfl<|dk<|?_
 obtain ⟨p50,hb1,hf⟩:=ob hf
 refine awp_cutx (X:={q:Unit // p50 = .go q}) (fun q => ([(0,(.str t_1))],[])) ?_ ?_
 ·refine awp_loop (X:={q:Nat // spec_l01Text_L1 (t_1.drop q)  = some p50}) (fun q => ([(0,(.str t_1)),(3,(.int .i64 (q.1:Int)))],[])) (fun q => t_1.length - q.1) ⟨0,hb1⟩ ⟨[],[],_,_,rfl,rfl,⟨.refl _,⟨.refl _,trivial⟩⟩,(.refl _)⟩ ?_
  rintro ⟨i_33,hc1⟩
  have hc1:spec_l01Text_L1 (t_1.drop i_33)  = some p50:=hc1
  refine (show awp Tryz.prog false 0 _ (ofL [(0,(.str t_1)),(3,(.int .i64 (i_33:Int)))]) [] _ from ?_)
  rcases dropc t_1 i_33 with ⟨hie53,hd56⟩ | ⟨hlt51,x_57,hx52,hd56⟩
  ·rw [hd56,spec_l01Text_L1.eq_1] at hc1
   have hq55:=dlf hie53
   refine awp_seq<|sr<|s_mov (.int .i64 (i_33:Int)) rfl<|s_mov (.str t_1) rfl<|s_dof (o_lenS rfl) fun hl58 => s_q (.bool (decide ((i_33:Int) < (t_1.length:Int)))) rfl rfl rfl<|dk<|w_condf rfl hq55<|w_exit<|k_seqx<|k_loopx<|k_blkx<|?_;obtain rfl:=os hc1;exact k_cutn ⟨_,rfl⟩ ⟨[],[],_,_,rfl,rfl,⟨.refl _,trivial⟩,(.refl _)⟩
  ·rw [hd56,spec_l01Text_L1.eq_2] at hc1
   have hq55:=dlt hlt51
   refine awp_seq<|sr<|s_mov (.int .i64 (i_33:Int)) rfl<|s_mov (.str t_1) rfl<|s_dof (o_lenS rfl) fun hl59 => s_q (.bool (decide ((i_33:Int) < (t_1.length:Int)))) rfl rfl rfl<|dk<|w_condt rfl hq55<|w_skip<|k_seq<|awp_seq<|w_blk<|awp_seq<|?_
   obtain ⟨s19_61,hb2,hc1⟩:=ob hc1
   refine awp_cut ([(0,(.str t_1)),(3,(.int .i64 (i_33:Int))),(19,(.bool s19_61))],[]) ?_ ?_
   ·refine w_reg ?_
    rcases oi hb2 with ⟨c63,hb2⟩ | ⟨c63,hb2⟩
    ·refine s_mov (.str t_1) rfl<|s_mov (.int .i64 (i_33:Int)) rfl<|s_do (o_idxsn rfl rfl hx52)<|s_q (.bool (decide ((x_57.toNat:Int) < 32))) rfl rfl rfl<|s_mov (.bool (decide ((x_57.toNat:Int) < 32))) rfl<|s_lit (s:=14) (b:=true) rfl c63<|s_off rfl rfl<|s_off rfl rfl<|s_off rfl rfl<|s_off rfl rfl<|s_q (.bool true) rfl trivial rfl<|w_done<|?_;obtain rfl:=os hb2;exact ⟨[],[],_,_,rfl,rfl,⟨.refl _,⟨.refl _,⟨.refl _,trivial⟩⟩⟩,(.refl _)⟩
    ·refine s_mov (.str t_1) rfl<|s_mov (.int .i64 (i_33:Int)) rfl<|s_do (o_idxsn rfl rfl hx52)<|s_q (.bool (decide ((x_57.toNat:Int) < 32))) rfl rfl rfl<|s_mov (.bool (decide ((x_57.toNat:Int) < 32))) rfl<|s_lit (s:=14) (b:=false) rfl (bf c63)<|s_on rfl<|s_mov (.str t_1) rfl<|s_on rfl<|s_mov (.int .i64 (i_33:Int)) rfl<|s_on rfl<|s_do (o_idxsn rfl rfl hx52)<|s_on rfl<|s_q (.bool (decide ((x_57.toNat:Int) > 126))) rfl rfl rfl<|s_q (.bool (decide ((x_57.toNat:Int) > 126))) rfl trivial rfl<|w_done<|?_;obtain rfl:=os hb2;exact ⟨[],[],_,_,rfl,rfl,⟨.refl _,⟨.refl _,⟨.refl _,trivial⟩⟩⟩,(.refl _)⟩
   ·rcases oi hc1 with ⟨c64,hc1⟩ | ⟨c64,hc1⟩
    ·refine w_condt rfl c64<|sr<|s_mov (.bool false) rfl<|dk<|w_ret<|?_;obtain rfl:=os hc1;obtain rfl:=os hf;exact r_flat ⟨trivial,trivial⟩ rfl (.refl _)
    ·refine w_condf rfl (bf c64)<|w_skip<|k_blk<|k_seq<|w_reg<|s_mov (.int .i64 (i_33:Int)) rfl<|s_q (.int .i64 (w64 ((i_33:Int) + 1))) rfl rfl rfl<|s_mov (.int .i64 (w64 ((i_33:Int) + 1))) rfl<|w_done<|?_;exact k_loopn ⟨(i_33 + 1),hc1⟩ (mul hlt51) ⟨[],[],_,_,rfl,rfl,⟨.refl _,⟨.of_eq (congrArg (AV.int _) (w64_incr hlt51 hl59)),trivial⟩⟩,(.refl _)⟩
 ·rintro ⟨_,rfl⟩
  refine sr<|s_mov (.str t_1) rfl<|s_dof (o_lenS rfl) fun hl65 => s_q (.bool (decide ((t_1.length:Int) ≤ 200))) rfl rfl rfl<|s_mov (.bool (decide ((t_1.length:Int) ≤ 200))) rfl<|dk<|w_ret<|?_;obtain rfl:=os hf;exact r_flat ⟨trivial,trivial⟩ rfl (.refl _)

/- spec.AtomOK -/
def c224:ACode :=
 (.seq (.reg (tq 1 (.box 3 (.t 0)) (tm 2 (.c (.bool false)) .done)))
 (.seq (.seq (.reg (tq 3 (.faddr 0 (.t 1)) (tq 4 (.load 1 false (.t 3)) .done)))
 (.block 0 (.seq (.reg (tq 6 (.bin .eql (.t 4) (.c (.int .i64 1))) (tm 5 (.t 6) .done)))
 (.cond (.t 5) (.seq (.reg (tq 7 (.faddr 1 (.t 1)) (tq 8 (.load 1 false (.t 7)) (tq 9 (.call 66 [(.t 8),(.c (.int .i64 (-1000000000))),(.c (.int .i64 1000000000))]) (tm 10 (.t 9) (tg 11 10 true (.faddr 2 (.t 1)) (tg 12 10 true (.load 1 false (.t 11)) (tg 13 10 true (.bin .eql (.t 12) (.c (.str []))) (tq 14 (.pick (.t 10) (.t 13) (.c (.bool false))) (tm 2 (.t 14) .done))))))))))
 .ret)
 (.seq (.reg (tq 16 (.bin .eql (.t 4) (.c (.int .i64 2))) (tm 15 (.t 16) .done)))
 (.cond (.t 15) (.seq (.reg (tq 17 (.faddr 1 (.t 1)) (tq 18 (.load 1 false (.t 17)) (tq 19 (.bin .eql (.t 18) (.c (.int .i64 0))) (tm 20 (.t 19) (tg 21 20 true (.faddr 2 (.t 1)) (tg 22 20 true (.load 1 false (.t 21)) (tg 23 20 true (.call 248 [(.t 22)]) (tq 24 (.pick (.t 20) (.t 23) (.c (.bool false))) (tm 2 (.t 24) .done))))))))))
 .ret)
 (.seq (.reg (tq 26 (.bin .eql (.t 4) (.c (.int .i64 3))) (tm 25 (.t 26) .done)))
 (.cond (.t 25) (.seq (.reg (tq 27 (.faddr 1 (.t 1)) (tq 28 (.load 1 false (.t 27)) (tq 29 (.call 66 [(.t 28),(.c (.int .i64 0)),(.c (.int .i64 1))]) (tm 30 (.t 29) (tg 31 30 true (.faddr 2 (.t 1)) (tg 32 30 true (.load 1 false (.t 31)) (tg 33 30 true (.bin .eql (.t 32) (.c (.str []))) (tq 34 (.pick (.t 30) (.t 33) (.c (.bool false))) (tm 2 (.t 34) .done))))))))))
 .ret)
 (.seq (.reg (tq 36 (.bin .eql (.t 4) (.c (.int .i64 4))) (tm 35 (.t 36) .done)))
 (.cond (.t 35) (.seq (.reg (tq 37 (.faddr 1 (.t 1)) (tq 38 (.load 1 false (.t 37)) (tq 39 (.call 66 [(.t 38),(.c (.int .i64 1)),(.c (.int .i64 1000000))]) (tm 40 (.t 39) (tg 41 40 true (.faddr 2 (.t 1)) (tg 42 40 true (.load 1 false (.t 41)) (tg 43 40 true (.bin .eql (.t 42) (.c (.str []))) (tq 44 (.pick (.t 40) (.t 43) (.c (.bool false))) (tm 2 (.t 44) .done))))))))))
 .ret)
 .skip))))))))))
 (.seq (.reg (tm 2 (.c (.bool false)) .done))
 .ret)))
theorem fc224:fcomp Tryz.prog Tryz.f224 = some (c224.erase,[.mov (.t 2)],45):=by kernel_rfl
def spec_AtomOK (a_1:GAtom):Option Bool :=
    if (a_1.Kind == 1) then
    (spec_l01In a_1.N (-1000000000) 1000000000).bind fun r_3 =>
    if r_3 then
    some (a_1.T == [])
    else
    some false
    else
    if (a_1.Kind == 2) then
    if (a_1.N == 0) then
    (spec_l01Text a_1.T).bind fun r_8 =>
    some r_8
    else
    some false
    else
    if (a_1.Kind == 3) then
    (spec_l01In a_1.N 0 1).bind fun r_11 =>
    if r_11 then
    some (a_1.T == [])
    else
    some false
    else
    if (a_1.Kind == 4) then
    (spec_l01In a_1.N 1 1000000).bind fun r_15 =>
    if r_15 then
    some (a_1.T == [])
    else
    some false
    else
    some false
theorem w_spec_AtomOK (a_1:GAtom) (r:Bool) (hf:spec_AtomOK a_1 = some r):CallOK Tryz.prog 224 .flat [(encGAtom a_1)] (.bool r):=by
 refine CallOK.of_awp mixed Tryz.func224 fc224 nle ?_;rw [argT_eq];unfold spec_AtomOK at hf;unfold c224;refine (show awp Tryz.prog false 0 _ (ofL [(0,(encGAtom a_1))]) [] _ from ?_);refine sr<|s_do (o_box (j:=0) (c:=(.agg [(.int .i64 a_1.Kind),(.int .i64 a_1.N),(.str a_1.T)])) rfl trivial rfl rfl)<|s_mov (.bool false) rfl<|dk<|awp_seq<|sr<|s_q (.ptr 0 0 0) rfl trivial rfl<|s_q (.int .i64 a_1.Kind) rfl nle rfl<|dk<|w_blk<|sr<|s_q (.bool (a_1.Kind == 1)) rfl rfl rfl<|s_mov (.bool (a_1.Kind == 1)) rfl<|dk<|?_
 rcases oi hf with ⟨c2,hf⟩ | ⟨c2,hf⟩
 ·refine w_condt rfl c2<|sr<|?_
  obtain ⟨r_3,er4,hf⟩:=ob hf
  rcases oi hf with ⟨c5,hf⟩ | ⟨c5,hf⟩
  ·refine s_q (.ptr 0 0 1) rfl trivial rfl<|s_q (.int .i64 a_1.N) rfl nle rfl<|s_do (o_call (w_spec_l01In _ _ _ _ er4) rfl (.refl _) rfl)<|s_mov (.bool r_3) rfl<|s_lit (s:=10) (b:=true) rfl c5<|s_on rfl<|s_q (.ptr 0 0 2) rfl trivial rfl<|s_on rfl<|s_q (.str a_1.T) rfl nle rfl<|s_on rfl<|s_q (.bool (a_1.T == [])) rfl trivial rfl<|s_q (.bool (a_1.T == [])) rfl trivial rfl<|s_mov (.bool (a_1.T == [])) rfl<|dk<|w_ret<|?_;obtain rfl:=os hf;exact r_flat ⟨trivial,trivial⟩ rfl (.refl _)
  ·refine s_q (.ptr 0 0 1) rfl trivial rfl<|s_q (.int .i64 a_1.N) rfl nle rfl<|s_do (o_call (w_spec_l01In _ _ _ _ er4) rfl (.refl _) rfl)<|s_mov (.bool r_3) rfl<|s_lit (s:=10) (b:=false) rfl (bf c5)<|s_off rfl rfl<|s_off rfl rfl<|s_off rfl rfl<|s_q (.bool false) rfl trivial rfl<|s_mov (.bool false) rfl<|dk<|w_ret<|?_;obtain rfl:=os hf;exact r_flat ⟨trivial,trivial⟩ rfl (.refl _)
 ·refine w_condf rfl (bf c2)<|sr<|s_q (.bool (a_1.Kind == 2)) rfl rfl rfl<|s_mov (.bool (a_1.Kind == 2)) rfl<|dk<|?_
  rcases oi hf with ⟨c6,hf⟩ | ⟨c6,hf⟩
  ·refine w_condt rfl c6<|sr<|?_
   rcases oi hf with ⟨c7,hf⟩ | ⟨c7,hf⟩
   ·obtain ⟨r_8,er9,hf⟩:=ob hf
    refine s_q (.ptr 0 0 1) rfl trivial rfl<|s_q (.int .i64 a_1.N) rfl nle rfl<|s_q (.bool (a_1.N == 0)) rfl rfl rfl<|s_mov (.bool (a_1.N == 0)) rfl<|s_lit (s:=20) (b:=true) rfl c7<|s_on rfl<|s_q (.ptr 0 0 2) rfl trivial rfl<|s_on rfl<|s_q (.str a_1.T) rfl nle rfl<|s_on rfl<|s_do (o_call (w_spec_l01Text _ _ er9) rfl (.refl _) rfl)<|s_q (.bool r_8) rfl trivial rfl<|s_mov (.bool r_8) rfl<|dk<|w_ret<|?_;obtain rfl:=os hf;exact r_flat ⟨trivial,trivial⟩ rfl (.refl _)
   ·refine s_q (.ptr 0 0 1) rfl trivial rfl<|s_q (.int .i64 a_1.N) rfl nle rfl<|s_q (.bool (a_1.N == 0)) rfl rfl rfl<|s_mov (.bool (a_1.N == 0)) rfl<|s_lit (s:=20) (b:=false) rfl (bf c7)<|s_off rfl rfl<|s_off rfl rfl<|s_off rfl rfl<|s_q (.bool false) rfl trivial rfl<|s_mov (.bool false) rfl<|dk<|w_ret<|?_;obtain rfl:=os hf;exact r_flat ⟨trivial,trivial⟩ rfl (.refl _)
  ·refine w_condf rfl (bf c6)<|sr<|s_q (.bool (a_1.Kind == 3)) rfl rfl rfl<|s_mov (.bool (a_1.Kind == 3)) rfl<|dk<|?_
   rcases oi hf with ⟨c10,hf⟩ | ⟨c10,hf⟩
   ·refine w_condt rfl c10<|sr<|?_
    obtain ⟨r_11,er12,hf⟩:=ob hf
    rcases oi hf with ⟨c13,hf⟩ | ⟨c13,hf⟩
    ·refine s_q (.ptr 0 0 1) rfl trivial rfl<|s_q (.int .i64 a_1.N) rfl nle rfl<|s_do (o_call (w_spec_l01In _ _ _ _ er12) rfl (.refl _) rfl)<|s_mov (.bool r_11) rfl<|s_lit (s:=30) (b:=true) rfl c13<|s_on rfl<|s_q (.ptr 0 0 2) rfl trivial rfl<|s_on rfl<|s_q (.str a_1.T) rfl nle rfl<|s_on rfl<|s_q (.bool (a_1.T == [])) rfl trivial rfl<|s_q (.bool (a_1.T == [])) rfl trivial rfl<|s_mov (.bool (a_1.T == [])) rfl<|dk<|w_ret<|?_;obtain rfl:=os hf;exact r_flat ⟨trivial,trivial⟩ rfl (.refl _)
    ·refine s_q (.ptr 0 0 1) rfl trivial rfl<|s_q (.int .i64 a_1.N) rfl nle rfl<|s_do (o_call (w_spec_l01In _ _ _ _ er12) rfl (.refl _) rfl)<|s_mov (.bool r_11) rfl<|s_lit (s:=30) (b:=false) rfl (bf c13)<|s_off rfl rfl<|s_off rfl rfl<|s_off rfl rfl<|s_q (.bool false) rfl trivial rfl<|s_mov (.bool false) rfl<|dk<|w_ret<|?_;obtain rfl:=os hf;exact r_flat ⟨trivial,trivial⟩ rfl (.refl _)
   ·refine w_condf rfl (bf c10)<|sr<|s_q (.bool (a_1.Kind == 4)) rfl rfl rfl<|s_mov (.bool (a_1.Kind == 4)) rfl<|dk<|?_
    rcases oi hf with ⟨c14,hf⟩ | ⟨c14,hf⟩
    ·refine w_condt rfl c14<|sr<|?_
     obtain ⟨r_15,er16,hf⟩:=ob hf
     rcases oi hf with ⟨c17,hf⟩ | ⟨c17,hf⟩
     ·refine s_q (.ptr 0 0 1) rfl trivial rfl<|s_q (.int .i64 a_1.N) rfl nle rfl<|s_do (o_call (w_spec_l01In _ _ _ _ er16) rfl (.refl _) rfl)<|s_mov (.bool r_15) rfl<|s_lit (s:=40) (b:=true) rfl c17<|s_on rfl<|s_q (.ptr 0 0 2) rfl trivial rfl<|s_on rfl<|s_q (.str a_1.T) rfl nle rfl<|s_on rfl<|s_q (.bool (a_1.T == [])) rfl trivial rfl<|s_q (.bool (a_1.T == [])) rfl trivial rfl<|s_mov (.bool (a_1.T == [])) rfl<|dk<|w_ret<|?_;obtain rfl:=os hf;exact r_flat ⟨trivial,trivial⟩ rfl (.refl _)
     ·refine s_q (.ptr 0 0 1) rfl trivial rfl<|s_q (.int .i64 a_1.N) rfl nle rfl<|s_do (o_call (w_spec_l01In _ _ _ _ er16) rfl (.refl _) rfl)<|s_mov (.bool r_15) rfl<|s_lit (s:=40) (b:=false) rfl (bf c17)<|s_off rfl rfl<|s_off rfl rfl<|s_off rfl rfl<|s_q (.bool false) rfl trivial rfl<|s_mov (.bool false) rfl<|dk<|w_ret<|?_;obtain rfl:=os hf;exact r_flat ⟨trivial,trivial⟩ rfl (.refl _)
    ·refine w_condf rfl (bf c14)<|w_skip<|k_blk<|k_seq<|sr<|s_mov (.bool false) rfl<|dk<|w_ret<|?_;obtain rfl:=os hf;exact r_flat ⟨trivial,trivial⟩ rfl (.refl _)

/- spec.l01Bit -/
def c249:ACode :=
 (.seq (.reg (tm 2 (.c (.int .i64 0)) .done))
 (.seq (.seq (.reg (tm 3 (.t 0) .done))
 (.cond (.t 3) (.seq (.reg (tm 2 (.c (.int .i64 1)) .done))
 .ret)
 .skip))
 (.seq (.reg (tm 2 (.c (.int .i64 0)) .done))
 .ret)))
theorem fc249:fcomp Tryz.prog Tryz.f249 = some (c249.erase,[.mov (.t 2)],4):=by kernel_rfl
def spec_l01Bit (b_1:Bool):Option Int :=
    if b_1 then
    some 1
    else
    some 0
theorem w_spec_l01Bit (b_1:Bool) (r:Int) (hf:spec_l01Bit b_1 = some r):CallOK Tryz.prog 249 .flat [(.bool b_1)] (.int .i64 r):=by
  refine CallOK.of_awp mixed Tryz.func249 fc249 nle ?_
  rw [argT_eq]
  unfold spec_l01Bit at hf
  unfold c249
  refine (show awp Tryz.prog false 0 _ (ofL [(0,(.bool b_1))]) [] _ from ?_)
  refine awp_seq ?_
  refine w_reg ?_
  refine s_do (o_mov (.int .i64 0) rfl) ?_
  refine w_done ?_
  refine k_seq ?_
  refine awp_seq ?_
  refine awp_seq ?_
  refine w_reg ?_
  refine s_do (o_mov (.bool b_1) rfl) ?_
  refine w_done ?_
  refine k_seq ?_
  rcases oi hf with ⟨c2,hf⟩ | ⟨c2,hf⟩
  · refine w_condt rfl c2 ?_
    refine awp_seq ?_
    refine w_reg ?_
    refine s_do (o_mov (.int .i64 1) rfl) ?_
    refine w_done ?_
    refine k_seq ?_
    refine w_ret ?_
    obtain rfl:=os hf
    exact r_flat ⟨trivial,trivial⟩ rfl (.refl _)
  · refine w_condf rfl (bf c2) ?_
    refine w_skip ?_
    refine k_seq ?_
    refine awp_seq ?_
    refine w_reg ?_
    refine s_do (o_mov (.int .i64 0) rfl) ?_
    refine w_done ?_
    refine k_seq ?_
    refine w_ret ?_
    obtain rfl:=os hf
    exact r_flat ⟨trivial,trivial⟩ rfl (.refl _)

/- spec.l03Order -/
def c225:ACode :=
 (.seq (.reg (tq 2 (.box 3 (.t 0)) (tq 3 (.box 3 (.t 1)) (tm 4 (.c (.int .i64 0)) .done))))
 (.seq (.block 0 (.seq (.reg (tq 6 (.faddr 0 (.t 2)) (tq 7 (.load 1 false (.t 6)) (tq 8 (.faddr 0 (.t 3)) (tq 9 (.load 1 false (.t 8)) (tq 10 (.bin .neq (.t 7) (.t 9)) (tm 5 (.t 10) .done)))))))
 (.cond (.t 5) (.seq (.reg (tq 11 (.faddr 0 (.t 2)) (tq 12 (.load 1 false (.t 11)) (tq 13 (.faddr 0 (.t 3)) (tq 14 (.load 1 false (.t 13)) (tq 15 (.bin .lss (.t 12) (.t 14)) (tq 16 (.call 249 [(.t 15)]) (tq 17 (.bin .mul (.c (.int .i64 2)) (.t 16)) (tq 18 (.bin .sub (.c (.int .i64 1)) (.t 17)) (tm 4 (.t 18) .done))))))))))
 .ret)
 (.seq (.reg (tq 20 (.faddr 1 (.t 2)) (tq 21 (.load 1 false (.t 20)) (tq 22 (.faddr 1 (.t 3)) (tq 23 (.load 1 false (.t 22)) (tq 24 (.bin .neq (.t 21) (.t 23)) (tm 19 (.t 24) .done)))))))
 (.cond (.t 19) (.seq (.reg (tq 25 (.faddr 1 (.t 2)) (tq 26 (.load 1 false (.t 25)) (tq 27 (.faddr 1 (.t 3)) (tq 28 (.load 1 false (.t 27)) (tq 29 (.bin .lss (.t 26) (.t 28)) (tq 30 (.call 249 [(.t 29)]) (tq 31 (.bin .mul (.c (.int .i64 2)) (.t 30)) (tq 32 (.bin .sub (.c (.int .i64 1)) (.t 31)) (tm 4 (.t 32) .done))))))))))
 .ret)
 (.seq (.reg (tq 34 (.faddr 2 (.t 2)) (tq 35 (.load 1 false (.t 34)) (tq 36 (.faddr 2 (.t 3)) (tq 37 (.load 1 false (.t 36)) (tq 38 (.bin .neq (.t 35) (.t 37)) (tm 33 (.t 38) .done)))))))
 (.cond (.t 33) (.seq (.reg (tq 39 (.faddr 2 (.t 2)) (tq 40 (.load 1 false (.t 39)) (tq 41 (.faddr 2 (.t 3)) (tq 42 (.load 1 false (.t 41)) (tq 43 (.bin .lss (.t 40) (.t 42)) (tq 44 (.call 249 [(.t 43)]) (tq 45 (.bin .mul (.c (.int .i64 2)) (.t 44)) (tq 46 (.bin .sub (.c (.int .i64 1)) (.t 45)) (tm 4 (.t 46) .done))))))))))
 .ret)
 .skip)))))))
 (.seq (.reg (tm 4 (.c (.int .i64 0)) .done))
 .ret)))
theorem fc225:fcomp Tryz.prog Tryz.f225 = some (c225.erase,[.mov (.t 4)],47):=by kernel_rfl
def spec_l03Order (a_1:GAtom) (b_2:GAtom):Option Int :=
    if (a_1.Kind != b_2.Kind) then
    (spec_l01Bit (decide (a_1.Kind < b_2.Kind))).bind fun r_4 =>
    some (w64 (1 - (w64 (2 * r_4))))
    else
    if (a_1.N != b_2.N) then
    (spec_l01Bit (decide (a_1.N < b_2.N))).bind fun r_7 =>
    some (w64 (1 - (w64 (2 * r_7))))
    else
    if (!(a_1.T == b_2.T)) then
    (spec_l01Bit (Op.bytesLess a_1.T b_2.T)).bind fun r_10 =>
    some (w64 (1 - (w64 (2 * r_10))))
    else
    some 0
theorem w_spec_l03Order (a_1:GAtom) (b_2:GAtom) (r:Int) (hf:spec_l03Order a_1 b_2 = some r):CallOK Tryz.prog 225 .flat [(encGAtom a_1),(encGAtom b_2)] (.int .i64 r):=by
 refine CallOK.of_awp mixed Tryz.func225 fc225 nle ?_;rw [argT_eq];unfold spec_l03Order at hf;unfold c225;refine (show awp Tryz.prog false 0 _ (ofL [(0,(encGAtom a_1)),(1,(encGAtom b_2))]) [] _ from ?_);refine sr<|s_do (o_box (j:=0) (c:=(.agg [(.int .i64 a_1.Kind),(.int .i64 a_1.N),(.str a_1.T)])) rfl trivial rfl rfl)<|s_do (o_box (j:=1) (c:=(.agg [(.int .i64 b_2.Kind),(.int .i64 b_2.N),(.str b_2.T)])) rfl trivial rfl rfl)<|s_mov (.int .i64 0) rfl<|dk<|awp_seq<|w_blk<|sr<|s_q (.ptr 0 0 0) rfl trivial rfl<|s_q (.int .i64 a_1.Kind) rfl nle rfl<|s_q (.ptr 1 0 0) rfl trivial rfl<|s_q (.int .i64 b_2.Kind) rfl nle rfl<|s_q (.bool (a_1.Kind != b_2.Kind)) rfl rfl rfl<|?_
 refine s_mov (.bool (a_1.Kind != b_2.Kind)) rfl<|dk<|?_
 rcases oi hf with ⟨c3,hf⟩ | ⟨c3,hf⟩
 ·refine w_condt rfl c3<|sr<|?_
  obtain ⟨r_4,er5,hf⟩:=ob hf
  refine s_q (.ptr 0 0 0) rfl trivial rfl<|s_q (.int .i64 a_1.Kind) rfl nle rfl<|s_q (.ptr 1 0 0) rfl trivial rfl<|s_q (.int .i64 b_2.Kind) rfl nle rfl<|s_q (.bool (decide (a_1.Kind < b_2.Kind))) rfl rfl rfl<|s_do (o_call (w_spec_l01Bit _ _ er5) rfl (.refl _) rfl)<|s_q (.int .i64 (w64 (2 * r_4))) rfl rfl rfl<|s_q (.int .i64 (w64 (1 - (w64 (2 * r_4))))) rfl rfl rfl<|s_mov (.int .i64 (w64 (1 - (w64 (2 * r_4))))) rfl<|dk<|w_ret<|?_;obtain rfl:=os hf;exact r_flat ⟨trivial,trivial⟩ rfl (.refl _)
 ·refine w_condf rfl (bf c3)<|sr<|s_q (.ptr 0 0 1) rfl trivial rfl<|s_q (.int .i64 a_1.N) rfl nle rfl<|s_q (.ptr 1 0 1) rfl trivial rfl<|s_q (.int .i64 b_2.N) rfl nle rfl<|s_q (.bool (a_1.N != b_2.N)) rfl rfl rfl<|s_mov (.bool (a_1.N != b_2.N)) rfl<|dk<|?_
  rcases oi hf with ⟨c6,hf⟩ | ⟨c6,hf⟩
  ·refine w_condt rfl c6<|sr<|?_
   obtain ⟨r_7,er8,hf⟩:=ob hf
   refine s_q (.ptr 0 0 1) rfl trivial rfl<|s_q (.int .i64 a_1.N) rfl nle rfl<|s_q (.ptr 1 0 1) rfl trivial rfl<|s_q (.int .i64 b_2.N) rfl nle rfl<|s_q (.bool (decide (a_1.N < b_2.N))) rfl rfl rfl<|s_do (o_call (w_spec_l01Bit _ _ er8) rfl (.refl _) rfl)<|s_q (.int .i64 (w64 (2 * r_7))) rfl rfl rfl<|s_q (.int .i64 (w64 (1 - (w64 (2 * r_7))))) rfl rfl rfl<|s_mov (.int .i64 (w64 (1 - (w64 (2 * r_7))))) rfl<|dk<|w_ret<|?_;obtain rfl:=os hf;exact r_flat ⟨trivial,trivial⟩ rfl (.refl _)
  ·refine w_condf rfl (bf c6)<|sr<|s_q (.ptr 0 0 2) rfl trivial rfl<|s_q (.str a_1.T) rfl nle rfl<|s_q (.ptr 1 0 2) rfl trivial rfl<|s_q (.str b_2.T) rfl nle rfl<|s_q (.bool (!(a_1.T == b_2.T))) rfl trivial rfl<|s_mov (.bool (!(a_1.T == b_2.T))) rfl<|dk<|?_
   rcases oi hf with ⟨c9,hf⟩ | ⟨c9,hf⟩
   ·refine w_condt rfl c9<|sr<|?_
    obtain ⟨r_10,er11,hf⟩:=ob hf
    refine s_q (.ptr 0 0 2) rfl trivial rfl<|s_q (.str a_1.T) rfl nle rfl<|s_q (.ptr 1 0 2) rfl trivial rfl<|s_q (.str b_2.T) rfl nle rfl<|s_q (.bool (Op.bytesLess a_1.T b_2.T)) rfl trivial rfl<|s_do (o_call (w_spec_l01Bit _ _ er11) rfl (.refl _) rfl)<|s_q (.int .i64 (w64 (2 * r_10))) rfl rfl rfl<|s_q (.int .i64 (w64 (1 - (w64 (2 * r_10))))) rfl rfl rfl<|s_mov (.int .i64 (w64 (1 - (w64 (2 * r_10))))) rfl<|dk<|w_ret<|?_;obtain rfl:=os hf;exact r_flat ⟨trivial,trivial⟩ rfl (.refl _)
   ·refine w_condf rfl (bf c9)<|w_skip<|k_blk<|k_seq<|sr<|s_mov (.int .i64 0) rfl<|dk<|w_ret<|?_;obtain rfl:=os hf;exact r_flat ⟨trivial,trivial⟩ rfl (.refl _)

/- spec.DatumOK -/
def c164:ACode :=
 (.seq (.reg (tm 2 (.c (.bool false)) .done))
 (.seq (.seq (.reg (tm 4 (.t 0) (tq 5 (.len (.t 4)) (tq 6 (.bin .gtr (.t 5) (.c (.int .i64 4096))) .done))))
 (.cond (.t 6) (.seq (.reg (tm 2 (.c (.bool false)) .done))
 .ret)
 .skip))
 (.seq (.seq (.reg (tm 3 (.c (.int .i64 0)) .done))
 (.block 0 (.loop (.seq (.seq (.reg (tm 7 (.t 3) (tm 8 (.t 0) (tq 9 (.len (.t 8)) (tq 10 (.bin .lss (.t 7) (.t 9)) .done)))))
 (.cond (.t 10) .skip
 (.exit 0)))
 (.seq (.block 1 (.seq (.reg (tm 13 (.t 0) (tm 14 (.t 3) (tq 15 (.iaddr 3 (.t 13) (.t 14)) (tq 16 (.load 3 true (.t 15)) (.l ⟨(some 17),none,.call 224 [(.t 16)]⟩ []
 (tq 18 (.not (.t 17)) (tm 19 (.t 18) (tg 20 19 false (.mov (.t 0)) (tg 21 19 false (.mov (.t 3)) (tg 22 19 false (.iaddr 3 (.t 20) (.t 21)) (tg 23 19 false (.faddr 0 (.t 22)) (tg 24 19 false (.load 1 false (.t 23)) (tg 25 19 false (.mov (.t 0)) (tg 26 19 false (.iaddr 3 (.t 25) (.c (.int .i64 0))) (tg 27 19 false (.faddr 0 (.t 26)) (tg 28 19 false (.load 1 false (.t 27)) (tg 29 19 false (.bin .neq (.t 24) (.t 28)) (tq 30 (.pick (.t 19) (.c (.bool true)) (.t 29)) (tm 31 (.t 30) (tg 32 31 false (.mov (.t 3)) (tg 33 31 false (.bin .gtr (.t 32) (.c (.int .i64 0))) (tg 34 31 false (.mov (.t 33)) (tg 35 34 true (.mov (.t 0)) (tg 36 34 true (.mov (.t 3)) (tg 37 34 true (.bin .sub (.t 36) (.c (.int .i64 1))) (tg 38 34 true (.iaddr 3 (.t 35) (.t 37)) (tg 39 34 true (.load 3 true (.t 38)) (tg 40 34 true (.mov (.t 0)) (tg 41 34 true (.mov (.t 3)) (tg 42 34 true (.iaddr 3 (.t 40) (.t 41)) (tg 43 34 true (.load 3 true (.t 42)) (.l ⟨(some 44),(some (34,true)),.call 225 [(.t 39),(.t 43)]⟩ []
 (tg 45 34 true (.bin .geq (.t 44) (.c (.int .i64 0))) (tg 46 31 false (.pick (.t 34) (.t 45) (.c (.bool false))) (tq 47 (.pick (.t 31) (.c (.bool true)) (.t 46)) .done))) .non))))))))))))))))))))))))))) .non))))))
 (.cut (.cond (.t 47) (.seq (.reg (tm 2 (.c (.bool false)) .done))
 .ret)
 .skip))))
 (.reg (tm 11 (.t 3) (tq 12 (.bin .add (.t 11) (.c (.int .i64 1))) (tm 3 (.t 12) .done)))))))))
 (.cut (.seq (.reg (tm 48 (.t 0) (tq 49 (.len (.t 48)) (tq 50 (.bin .leq (.t 49) (.c (.int .i64 8))) (tm 2 (.t 50) .done)))))
 .ret)))))
theorem fc164:fcomp Tryz.prog Tryz.f164 = some (c164.erase,[.mov (.t 2)],51):=by kernel_rfl
def spec_DatumOK_L1 (d_1:(List GAtom)):List GAtom → Nat → Option (Fl Bool Unit)
  | [],i_83 =>
    some (.go ())
  | x_131 :: xs,i_83 =>
    (((spec_AtomOK x_131).bind fun r_147 =>
    if (!r_147) then
    some true
    else
    (idx d_1 0).bind fun x_150 =>
    if (x_131.Kind != x_150.Kind) then
    some true
    else
    if (decide ((i_83:Int) > 0)) then
    (idx d_1 (w64 ((i_83:Int) - 1))).bind fun x_154 =>
    (spec_l03Order x_154 x_131).bind fun r_156 =>
    some (decide (r_156 ≥ 0))
    else
    some false:Option Bool)).bind fun s47_145 =>
    if s47_145 then
    some (.ret false)
    else
    spec_DatumOK_L1 d_1 xs (i_83 + 1)

def spec_DatumOK (d_1:(List GAtom)):Option Bool :=
    if (decide ((d_1.length:Int) > 4096)) then
    some false
    else
    (spec_DatumOK_L1 d_1 d_1 0).bind fun q => (match q with
    | .ret r => some r
    | .go _ =>
    some (decide ((d_1.length:Int) ≤ 8)))
theorem w_spec_DatumOK (d_1:(List GAtom)) (r:Bool) (hf:spec_DatumOK d_1 = some r):CallOK Tryz.prog 164 .flat [(.lst 3 (d_1.map encGAtom))] (.bool r):=by
 refine CallOK.of_awp mixed Tryz.func164 fc164 nle ?_;rw [argT_eq];unfold spec_DatumOK at hf;unfold c164;refine (show awp Tryz.prog false 0 _ (ofL [(0,(.lst 3 (d_1.map encGAtom)))]) [] _ from ?_);refine sr<|s_mov (.bool false) rfl<|dk<|awp_seq<|sr<|s_mov (.lst 3 (d_1.map encGAtom)) rfl<|s_dof (o_len (enc:=encGAtom) rfl) fun hl2 => s_q (.bool (decide ((d_1.length:Int) > 4096))) rfl rfl rfl<|dk<|?_
 rcases oi hf with ⟨c3,hf⟩ | ⟨c3,hf⟩
 ·refine w_condt rfl c3<|sr<|s_mov (.bool false) rfl<|dk<|w_ret<|?_;obtain rfl:=os hf;exact r_flat ⟨trivial,trivial⟩ rfl (.refl _)
 ·refine w_condf rfl (bf c3)<|w_skip<|k_seq<|awp_seq<|sr<|s_mov (.int .i64 0) rfl<|dk<|?_
  obtain ⟨p124,hb1,hf⟩:=ob hf
  refine awp_cutx (X:={q:Unit // p124 = .go q}) (fun q => ([(0,(.lst 3 (d_1.map encGAtom)))],[])) ?_ ?_
  ·refine awp_loop (X:={q:Nat // spec_DatumOK_L1 d_1 (d_1.drop q) q = some p124}) (fun q => ([(0,(.lst 3 (d_1.map encGAtom))),(3,(.int .i64 (q.1:Int)))],[])) (fun q => d_1.length - q.1) ⟨0,hb1⟩ ⟨[],[],_,_,rfl,rfl,⟨.refl _,⟨.refl _,trivial⟩⟩,(.refl _)⟩ ?_
   rintro ⟨i_83,hc1⟩
   have hc1:spec_DatumOK_L1 d_1 (d_1.drop i_83) i_83 = some p124:=hc1
   refine (show awp Tryz.prog false 0 _ (ofL [(0,(.lst 3 (d_1.map encGAtom))),(3,(.int .i64 (i_83:Int)))]) [] _ from ?_)
   rcases dropc d_1 i_83 with ⟨hie127,hd130⟩ | ⟨hlt125,x_131,hx126,hd130⟩
   ·rw [hd130,spec_DatumOK_L1.eq_1] at hc1
    have hq129:=dlf hie127
    refine awp_seq<|sr<|s_mov (.int .i64 (i_83:Int)) rfl<|s_mov (.lst 3 (d_1.map encGAtom)) rfl<|s_dof (o_len (enc:=encGAtom) rfl) fun hl132 => s_q (.bool (decide ((i_83:Int) < (d_1.length:Int)))) rfl rfl rfl<|dk<|w_condf rfl hq129<|w_exit<|k_seqx<|k_loopx<|k_blkx<|?_;obtain rfl:=os hc1;exact k_cutn ⟨_,rfl⟩ ⟨[],[],_,_,rfl,rfl,⟨.refl _,trivial⟩,(.refl _)⟩
   ·rw [hd130,spec_DatumOK_L1.eq_2] at hc1
    have hq129:=dlt hlt125
    refine awp_seq<|sr<|s_mov (.int .i64 (i_83:Int)) rfl<|s_mov (.lst 3 (d_1.map encGAtom)) rfl<|s_dof (o_len (enc:=encGAtom) rfl) fun hl133 => s_q (.bool (decide ((i_83:Int) < (d_1.length:Int)))) rfl rfl rfl<|dk<|w_condt rfl hq129<|w_skip<|k_seq<|awp_seq<|w_blk<|awp_seq<|?_
    obtain ⟨s47_145,hb2,hc1⟩:=ob hc1
    refine awp_cut ([(0,(.lst 3 (d_1.map encGAtom))),(3,(.int .i64 (i_83:Int))),(47,(.bool s47_145))],[]) ?_ ?_
    ·refine w_reg<|s_mov (.lst 3 (d_1.map encGAtom)) rfl<|s_mov (.int .i64 (i_83:Int)) rfl<|s_do (o_iaddrn (enc:=encGAtom) rfl rfl hx126)<|s_q (encGAtom x_131) rfl nle rfl<|?_
     obtain ⟨r_147,er148,hb2⟩:=ob hb2
     refine s_dol (o_call (w_spec_AtomOK _ _ er148) rfl (.refl _) rfl) a_same trivial<|s_q (.bool (!r_147)) rfl trivial rfl<|s_mov (.bool (!r_147)) rfl<|?_
     rcases oi hb2 with ⟨c149,hb2⟩ | ⟨c149,hb2⟩
     ·refine s_lit (s:=19) (b:=true) rfl c149<|s_off rfl rfl<|s_off rfl rfl<|s_off rfl rfl<|s_off rfl rfl<|s_off rfl rfl<|s_off rfl rfl<|s_off rfl rfl<|s_off rfl rfl<|s_off rfl rfl<|s_off rfl rfl<|s_q (.bool true) rfl trivial rfl<|s_mov (.bool true) rfl<|s_off rfl rfl<|s_off rfl rfl<|s_off rfl rfl<|s_offs rfl<|s_offs rfl<|s_offs rfl<|s_offs rfl<|s_offs rfl<|s_offs rfl<|s_offs rfl<|s_offs rfl<|s_offs rfl<|s_offsl rfl trivial<|s_offs rfl<|s_off rfl rfl<|s_q (.bool true) rfl trivial rfl<|w_done<|?_;obtain rfl:=os hb2;exact ⟨[],[],_,_,rfl,rfl,⟨.refl _,⟨.refl _,⟨.refl _,trivial⟩⟩⟩,(.refl _)⟩
     ·refine s_lit (s:=19) (b:=false) rfl (bf c149)<|s_on rfl<|s_mov (.lst 3 (d_1.map encGAtom)) rfl<|s_on rfl<|s_mov (.int .i64 (i_83:Int)) rfl<|s_on rfl<|s_do (o_iaddrn (enc:=encGAtom) rfl rfl hx126)<|s_on rfl<|s_q (.iptr (encGAtom x_131) 0) rfl trivial rfl<|s_on rfl<|s_q (.int .i64 x_131.Kind) rfl nle rfl<|s_on rfl<|s_mov (.lst 3 (d_1.map encGAtom)) rfl<|s_on rfl<|?_
      obtain ⟨x_150,ex151,hb2⟩:=ob hb2
      refine s_do (o_iaddr (enc:=encGAtom) rfl rfl (idx0 ex151) (idx1 ex151))<|s_on rfl<|s_q (.iptr (encGAtom x_150) 0) rfl trivial rfl<|s_on rfl<|s_q (.int .i64 x_150.Kind) rfl nle rfl<|s_on rfl<|s_q (.bool (x_131.Kind != x_150.Kind)) rfl rfl rfl<|s_q (.bool (x_131.Kind != x_150.Kind)) rfl trivial rfl<|s_mov (.bool (x_131.Kind != x_150.Kind)) rfl<|?_
      rcases oi hb2 with ⟨c152,hb2⟩ | ⟨c152,hb2⟩
      ·refine s_lit (s:=31) (b:=true) rfl c152<|s_off rfl rfl<|s_off rfl rfl<|s_off rfl rfl<|s_offs rfl<|s_offs rfl<|s_offs rfl<|s_offs rfl<|s_offs rfl<|s_offs rfl<|s_offs rfl<|s_offs rfl<|s_offs rfl<|s_offsl rfl trivial<|s_offs rfl<|s_off rfl rfl<|s_q (.bool true) rfl trivial rfl<|w_done<|?_;obtain rfl:=os hb2;exact ⟨[],[],_,_,rfl,rfl,⟨.refl _,⟨.refl _,⟨.refl _,trivial⟩⟩⟩,(.refl _)⟩
      ·refine s_lit (s:=31) (b:=false) rfl (bf c152)<|s_on rfl<|s_mov (.int .i64 (i_83:Int)) rfl<|s_on rfl<|s_q (.bool (decide ((i_83:Int) > 0))) rfl rfl rfl<|s_on rfl<|s_mov (.bool (decide ((i_83:Int) > 0))) rfl<|?_
       rcases oi hb2 with ⟨c153,hb2⟩ | ⟨c153,hb2⟩
       ·refine s_lit (s:=34) (b:=true) rfl c153<|s_on rfl<|s_mov (.lst 3 (d_1.map encGAtom)) rfl<|s_on rfl<|s_mov (.int .i64 (i_83:Int)) rfl<|s_on rfl<|s_q (.int .i64 (w64 ((i_83:Int) - 1))) rfl rfl rfl<|s_on rfl<|?_
        obtain ⟨x_154,ex155,hb2⟩:=ob hb2
        refine s_do (o_iaddr (enc:=encGAtom) rfl rfl (idx0 ex155) (idx1 ex155))<|s_on rfl<|s_q (encGAtom x_154) rfl nle rfl<|s_on rfl<|s_mov (.lst 3 (d_1.map encGAtom)) rfl<|s_on rfl<|s_mov (.int .i64 (i_83:Int)) rfl<|s_on rfl<|s_do (o_iaddrn (enc:=encGAtom) rfl rfl hx126)<|s_on rfl<|s_q (encGAtom x_131) rfl nle rfl<|s_onl rfl<|?_
        obtain ⟨r_156,er157,hb2⟩:=ob hb2
        refine s_dol (o_call (w_spec_l03Order _ _ _ er157) rfl (.refl _) rfl) a_same trivial<|s_on rfl<|s_q (.bool (decide (r_156 ≥ 0))) rfl rfl rfl<|s_on rfl<|s_q (.bool (decide (r_156 ≥ 0))) rfl trivial rfl<|s_q (.bool (decide (r_156 ≥ 0))) rfl trivial rfl<|w_done<|?_;obtain rfl:=os hb2;exact ⟨[],[],_,_,rfl,rfl,⟨.refl _,⟨.refl _,⟨.refl _,trivial⟩⟩⟩,(.refl _)⟩
       ·refine s_lit (s:=34) (b:=false) rfl (bf c153)<|s_off rfl rfl<|s_off rfl rfl<|s_off rfl rfl<|s_off rfl rfl<|s_off rfl rfl<|s_off rfl rfl<|s_off rfl rfl<|s_off rfl rfl<|s_off rfl rfl<|s_offl rfl rfl trivial<|s_off rfl rfl<|s_on rfl<|s_q (.bool false) rfl trivial rfl<|s_q (.bool false) rfl trivial rfl<|w_done<|?_;obtain rfl:=os hb2;exact ⟨[],[],_,_,rfl,rfl,⟨.refl _,⟨.refl _,⟨.refl _,trivial⟩⟩⟩,(.refl _)⟩
    ·rcases oi hc1 with ⟨c158,hc1⟩ | ⟨c158,hc1⟩
     ·refine w_condt rfl c158<|sr<|s_mov (.bool false) rfl<|dk<|w_ret<|?_;obtain rfl:=os hc1;obtain rfl:=os hf;exact r_flat ⟨trivial,trivial⟩ rfl (.refl _)
     ·refine w_condf rfl (bf c158)<|w_skip<|k_blk<|k_seq<|w_reg<|s_mov (.int .i64 (i_83:Int)) rfl<|s_q (.int .i64 (w64 ((i_83:Int) + 1))) rfl rfl rfl<|s_mov (.int .i64 (w64 ((i_83:Int) + 1))) rfl<|w_done<|?_;exact k_loopn ⟨(i_83 + 1),hc1⟩ (mul hlt125) ⟨[],[],_,_,rfl,rfl,⟨.refl _,⟨.of_eq (congrArg (AV.int _) (w64_incr hlt125 hl133)),trivial⟩⟩,(.refl _)⟩
  ·rintro ⟨_,rfl⟩
   refine sr<|s_mov (.lst 3 (d_1.map encGAtom)) rfl<|s_dof (o_len (enc:=encGAtom) rfl) fun hl159 => s_q (.bool (decide ((d_1.length:Int) ≤ 8))) rfl rfl rfl<|s_mov (.bool (decide ((d_1.length:Int) ≤ 8))) rfl<|dk<|w_ret<|?_;obtain rfl:=os hf;exact r_flat ⟨trivial,trivial⟩ rfl (.refl _)

/- spec.l06OK -/
def c205:ACode :=
 (.seq (.reg (tq 1 (.box 3 (.t 0)) (tm 2 (.c (.bool false)) .done)))
 (.seq (.reg (tq 3 (.faddr 1 (.t 1)) (tq 4 (.load 1 false (.t 3)) (tq 5 (.call 66 [(.t 4),(.c (.int .i64 1)),(.c (.int .i64 8))]) (tm 6 (.t 5) (tg 7 6 true (.faddr 2 (.t 1)) (tg 8 6 true (.load 1 false (.t 7)) (tg 9 6 true (.call 164 [(.t 8)]) (tq 10 (.pick (.t 6) (.t 9) (.c (.bool false))) (tm 11 (.t 10) (tg 12 11 true (.faddr 0 (.t 1)) (tg 13 11 true (.load 1 false (.t 12)) (tg 14 11 true (.lenS (.t 13)) (tg 15 11 true (.bin .leq (.t 14) (.c (.int .i64 40))) (tq 16 (.pick (.t 11) (.t 15) (.c (.bool false))) (tm 2 (.t 16) .done))))))))))))))))
 .ret))
theorem fc205:fcomp Tryz.prog Tryz.f205 = some (c205.erase,[.mov (.t 2)],17):=by kernel_rfl
def spec_l06OK (c_1:GCond):Option Bool :=
    (spec_l01In c_1.Func 1 8).bind fun r_2 =>
    if r_2 then
    (spec_DatumOK c_1.Value).bind fun r_5 =>
    some (bif r_5 then (decide ((c_1.Column.length:Int) ≤ 40)) else false)
    else
    some false
theorem w_spec_l06OK (c_1:GCond) (r:Bool) (hf:spec_l06OK c_1 = some r):CallOK Tryz.prog 205 .flat [(encGCond c_1)] (.bool r):=by
 refine CallOK.of_awp mixed Tryz.func205 fc205 nle ?_;rw [argT_eq];unfold spec_l06OK at hf;unfold c205;refine (show awp Tryz.prog false 0 _ (ofL [(0,(encGCond c_1))]) [] _ from ?_);refine sr<|s_do (o_box (j:=0) (c:=(.agg [(.str c_1.Column),(.int .i64 c_1.Func),(.lst 3 (c_1.Value.map encGAtom))])) rfl trivial rfl rfl)<|s_mov (.bool false) rfl<|dk<|sr<|s_q (.ptr 0 0 1) rfl trivial rfl<|s_q (.int .i64 c_1.Func) rfl nle rfl<|?_
 obtain ⟨r_2,er3,hf⟩:=ob hf
 refine s_do (o_call (w_spec_l01In _ _ _ _ er3) rfl (.refl _) rfl)<|s_mov (.bool r_2) rfl<|?_
 rcases oi hf with ⟨c4,hf⟩ | ⟨c4,hf⟩
 ·refine s_lit (s:=6) (b:=true) rfl c4<|s_on rfl<|s_q (.ptr 0 0 2) rfl trivial rfl<|s_on rfl<|s_q (.lst 3 (c_1.Value.map encGAtom)) rfl nle rfl<|s_on rfl<|?_
  obtain ⟨r_5,er6,hf⟩:=ob hf
  refine s_do (o_call (w_spec_DatumOK _ _ er6) rfl (.refl _) rfl)<|s_q (.bool r_5) rfl trivial rfl<|s_mov (.bool r_5) rfl<|?_;refine s_g (v:=r_5) (.ptr 0 0 0) rfl (fun hv => by (try simp only [gs_on hv]);exact ⟨rfl,trivial,rfl⟩) ?_;refine s_g (v:=r_5) (.str c_1.Column) rfl (fun hv => by (try simp only [gs_on hv]);exact ⟨rfl,nle,rfl⟩) ?_;refine s_g (v:=r_5) (.int .i64 (c_1.Column.length:Int)) rfl (fun hv => by (try simp only [gs_on hv]);exact ⟨rfl,trivial,rfl⟩) ?_;refine s_g (v:=r_5) (.bool (decide ((c_1.Column.length:Int) ≤ 40))) rfl (fun hv => by (try simp only [gs_on hv]);exact ⟨rfl,rfl,rfl⟩) ?_;refine s_pick (x:=(decide ((c_1.Column.length:Int) ≤ 40))) (y:=false) rfl (fun hv => by (try simp only [gs_on hv]);rfl) (fun hv => by (try simp only [gs_on hv]);rfl) ?_
  refine s_mov (.bool (bif r_5 then (decide ((c_1.Column.length:Int) ≤ 40)) else false)) rfl<|dk<|w_ret<|?_;obtain rfl:=os hf;exact r_flat ⟨trivial,trivial⟩ rfl (.refl _)
 ·refine s_lit (s:=6) (b:=false) rfl (bf c4)<|s_off rfl rfl<|s_off rfl rfl<|s_off rfl rfl<|s_q (.bool false) rfl trivial rfl<|s_mov (.bool false) rfl<|s_off rfl rfl<|s_off rfl rfl<|s_off rfl rfl<|s_off rfl rfl<|s_q (.bool false) rfl trivial rfl<|s_mov (.bool false) rfl<|dk<|w_ret<|?_;obtain rfl:=os hf;exact r_flat ⟨trivial,trivial⟩ rfl (.refl _)

/- spec.l06List -/
def c129:ACode :=
 (.seq (.reg (tm 2 (.c (.bool false)) .done))
 (.seq (.seq (.reg (tm 3 (.c (.int .i64 0)) .done))
 (.block 0 (.loop (.seq (.seq (.reg (tm 4 (.t 3) (tm 5 (.t 0) (tq 6 (.len (.t 5)) (tq 7 (.bin .lss (.t 4) (.t 6)) .done)))))
 (.cond (.t 7) .skip
 (.exit 0)))
 (.seq (.block 1 (.seq (.reg (tm 10 (.t 0) (tm 11 (.t 3) (tq 12 (.iaddr 3 (.t 10) (.t 11)) (tq 13 (.load 3 true (.t 12)) (tq 14 (.call 205 [(.t 13)]) (tq 15 (.not (.t 14)) .done)))))))
 (.cond (.t 15) (.seq (.reg (tm 2 (.c (.bool false)) .done))
 .ret)
 .skip)))
 (.reg (tm 8 (.t 3) (tq 9 (.bin .add (.t 8) (.c (.int .i64 1))) (tm 3 (.t 9) .done)))))))))
 (.cut (.seq (.reg (tm 16 (.t 0) (tq 17 (.len (.t 16)) (tq 18 (.bin .leq (.t 17) (.c (.int .i64 8))) (tm 2 (.t 18) .done)))))
 .ret))))
theorem fc129:fcomp Tryz.prog Tryz.f129 = some (c129.erase,[.mov (.t 2)],19):=by kernel_rfl
def spec_l06List_L1 :List GCond → Option (Fl Bool Unit)
  | [] =>
    some (.go ())
  | x_33 :: xs =>
    (spec_l06OK x_33).bind fun r_36 =>
    if (!r_36) then
    some (.ret false)
    else
    spec_l06List_L1 xs 

def spec_l06List (list_1:(List GCond)):Option Bool :=
    (spec_l06List_L1 list_1 ).bind fun q => (match q with
    | .ret r => some r
    | .go _ =>
    some (decide ((list_1.length:Int) ≤ 8)))
theorem w_spec_l06List (list_1:(List GCond)) (r:Bool) (hf:spec_l06List list_1 = some r):CallOK Tryz.prog 129 .flat [(.lst 3 (list_1.map encGCond))] (.bool r):=by
 refine CallOK.of_awp mixed Tryz.func129 fc129 nle ?_;rw [argT_eq];unfold spec_l06List at hf;unfold c129;refine (show awp Tryz.prog false 0 _ (ofL [(0,(.lst 3 (list_1.map encGCond)))]) [] _ from ?_);refine sr<|s_mov (.bool false) rfl<|dk<|awp_seq<|sr<|s_mov (.int .i64 0) rfl<|dk<|?_
 obtain ⟨p26,hb1,hf⟩:=ob hf
 refine awp_cutx (X:={q:Unit // p26 = .go q}) (fun q => ([(0,(.lst 3 (list_1.map encGCond)))],[])) ?_ ?_
 ·refine awp_loop (X:={q:Nat // spec_l06List_L1 (list_1.drop q)  = some p26}) (fun q => ([(0,(.lst 3 (list_1.map encGCond))),(3,(.int .i64 (q.1:Int)))],[])) (fun q => list_1.length - q.1) ⟨0,hb1⟩ ⟨[],[],_,_,rfl,rfl,⟨.refl _,⟨.refl _,trivial⟩⟩,(.refl _)⟩ ?_
  rintro ⟨i_17,hc1⟩
  have hc1:spec_l06List_L1 (list_1.drop i_17)  = some p26:=hc1
  refine (show awp Tryz.prog false 0 _ (ofL [(0,(.lst 3 (list_1.map encGCond))),(3,(.int .i64 (i_17:Int)))]) [] _ from ?_)
  rcases dropc list_1 i_17 with ⟨hie29,hd32⟩ | ⟨hlt27,x_33,hx28,hd32⟩
  ·rw [hd32,spec_l06List_L1.eq_1] at hc1
   have hq31:=dlf hie29
   refine awp_seq<|sr<|s_mov (.int .i64 (i_17:Int)) rfl<|s_mov (.lst 3 (list_1.map encGCond)) rfl<|s_dof (o_len (enc:=encGCond) rfl) fun hl34 => s_q (.bool (decide ((i_17:Int) < (list_1.length:Int)))) rfl rfl rfl<|dk<|w_condf rfl hq31<|w_exit<|k_seqx<|k_loopx<|k_blkx<|?_;obtain rfl:=os hc1;exact k_cutn ⟨_,rfl⟩ ⟨[],[],_,_,rfl,rfl,⟨.refl _,trivial⟩,(.refl _)⟩
  ·rw [hd32,spec_l06List_L1.eq_2] at hc1
   have hq31:=dlt hlt27
   refine awp_seq<|sr<|s_mov (.int .i64 (i_17:Int)) rfl<|s_mov (.lst 3 (list_1.map encGCond)) rfl<|s_dof (o_len (enc:=encGCond) rfl) fun hl35 => s_q (.bool (decide ((i_17:Int) < (list_1.length:Int)))) rfl rfl rfl<|dk<|w_condt rfl hq31<|w_skip<|k_seq<|awp_seq<|w_blk<|sr<|?_
   obtain ⟨r_36,er37,hc1⟩:=ob hc1
   refine s_mov (.lst 3 (list_1.map encGCond)) rfl<|s_mov (.int .i64 (i_17:Int)) rfl<|s_do (o_iaddrn (enc:=encGCond) rfl rfl hx28)<|s_q (encGCond x_33) rfl nle rfl<|s_do (o_call (w_spec_l06OK _ _ er37) rfl (.refl _) rfl)<|s_q (.bool (!r_36)) rfl trivial rfl<|dk<|?_
   rcases oi hc1 with ⟨c38,hc1⟩ | ⟨c38,hc1⟩
   ·refine w_condt rfl c38<|sr<|s_mov (.bool false) rfl<|dk<|w_ret<|?_;obtain rfl:=os hc1;obtain rfl:=os hf;exact r_flat ⟨trivial,trivial⟩ rfl (.refl _)
   ·refine w_condf rfl (bf c38)<|w_skip<|k_blk<|k_seq<|w_reg<|s_mov (.int .i64 (i_17:Int)) rfl<|s_q (.int .i64 (w64 ((i_17:Int) + 1))) rfl rfl rfl<|s_mov (.int .i64 (w64 ((i_17:Int) + 1))) rfl<|w_done<|?_;exact k_loopn ⟨(i_17 + 1),hc1⟩ (mul hlt27) ⟨[],[],_,_,rfl,rfl,⟨.refl _,⟨.of_eq (congrArg (AV.int _) (w64_incr hlt27 hl35)),trivial⟩⟩,(.refl _)⟩
 ·rintro ⟨_,rfl⟩
  refine sr<|s_mov (.lst 3 (list_1.map encGCond)) rfl<|s_dof (o_len (enc:=encGCond) rfl) fun hl39 => s_q (.bool (decide ((list_1.length:Int) ≤ 8))) rfl rfl rfl<|s_mov (.bool (decide ((list_1.length:Int) ≤ 8))) rfl<|dk<|w_ret<|?_;obtain rfl:=os hf;exact r_flat ⟨trivial,trivial⟩ rfl (.refl _)

/- spec.l07OK -/
def c206:ACode :=
 (.seq (.reg (tq 1 (.box 3 (.t 0)) (tm 2 (.c (.bool false)) .done)))
 (.seq (.reg (tq 3 (.faddr 1 (.t 1)) (tq 4 (.load 1 false (.t 3)) (tq 5 (.call 66 [(.t 4),(.c (.int .i64 1)),(.c (.int .i64 7))]) (tm 6 (.t 5) (tg 7 6 true (.faddr 2 (.t 1)) (tg 8 6 true (.load 1 false (.t 7)) (tg 9 6 true (.call 164 [(.t 8)]) (tq 10 (.pick (.t 6) (.t 9) (.c (.bool false))) (tm 11 (.t 10) (tg 12 11 true (.faddr 0 (.t 1)) (tg 13 11 true (.load 1 false (.t 12)) (tg 14 11 true (.lenS (.t 13)) (tg 15 11 true (.bin .leq (.t 14) (.c (.int .i64 40))) (tq 16 (.pick (.t 11) (.t 15) (.c (.bool false))) (tm 2 (.t 16) .done))))))))))))))))
 .ret))
theorem fc206:fcomp Tryz.prog Tryz.f206 = some (c206.erase,[.mov (.t 2)],17):=by kernel_rfl
def spec_l07OK (m_1:GMut):Option Bool :=
    (spec_l01In m_1.Func 1 7).bind fun r_2 =>
    if r_2 then
    (spec_DatumOK m_1.Value).bind fun r_5 =>
    some (bif r_5 then (decide ((m_1.Column.length:Int) ≤ 40)) else false)
    else
    some false
theorem w_spec_l07OK (m_1:GMut) (r:Bool) (hf:spec_l07OK m_1 = some r):CallOK Tryz.prog 206 .flat [(encGMut m_1)] (.bool r):=by
 refine CallOK.of_awp mixed Tryz.func206 fc206 nle ?_;rw [argT_eq];unfold spec_l07OK at hf;unfold c206;refine (show awp Tryz.prog false 0 _ (ofL [(0,(encGMut m_1))]) [] _ from ?_);refine sr<|s_do (o_box (j:=0) (c:=(.agg [(.str m_1.Column),(.int .i64 m_1.Func),(.lst 3 (m_1.Value.map encGAtom))])) rfl trivial rfl rfl)<|s_mov (.bool false) rfl<|dk<|sr<|s_q (.ptr 0 0 1) rfl trivial rfl<|s_q (.int .i64 m_1.Func) rfl nle rfl<|?_
 obtain ⟨r_2,er3,hf⟩:=ob hf
 refine s_do (o_call (w_spec_l01In _ _ _ _ er3) rfl (.refl _) rfl)<|s_mov (.bool r_2) rfl<|?_
 rcases oi hf with ⟨c4,hf⟩ | ⟨c4,hf⟩
 ·refine s_lit (s:=6) (b:=true) rfl c4<|s_on rfl<|s_q (.ptr 0 0 2) rfl trivial rfl<|s_on rfl<|s_q (.lst 3 (m_1.Value.map encGAtom)) rfl nle rfl<|s_on rfl<|?_
  obtain ⟨r_5,er6,hf⟩:=ob hf
  refine s_do (o_call (w_spec_DatumOK _ _ er6) rfl (.refl _) rfl)<|s_q (.bool r_5) rfl trivial rfl<|s_mov (.bool r_5) rfl<|?_;refine s_g (v:=r_5) (.ptr 0 0 0) rfl (fun hv => by (try simp only [gs_on hv]);exact ⟨rfl,trivial,rfl⟩) ?_;refine s_g (v:=r_5) (.str m_1.Column) rfl (fun hv => by (try simp only [gs_on hv]);exact ⟨rfl,nle,rfl⟩) ?_;refine s_g (v:=r_5) (.int .i64 (m_1.Column.length:Int)) rfl (fun hv => by (try simp only [gs_on hv]);exact ⟨rfl,trivial,rfl⟩) ?_;refine s_g (v:=r_5) (.bool (decide ((m_1.Column.length:Int) ≤ 40))) rfl (fun hv => by (try simp only [gs_on hv]);exact ⟨rfl,rfl,rfl⟩) ?_;refine s_pick (x:=(decide ((m_1.Column.length:Int) ≤ 40))) (y:=false) rfl (fun hv => by (try simp only [gs_on hv]);rfl) (fun hv => by (try simp only [gs_on hv]);rfl) ?_
  refine s_mov (.bool (bif r_5 then (decide ((m_1.Column.length:Int) ≤ 40)) else false)) rfl<|dk<|w_ret<|?_;obtain rfl:=os hf;exact r_flat ⟨trivial,trivial⟩ rfl (.refl _)
 ·refine s_lit (s:=6) (b:=false) rfl (bf c4)<|s_off rfl rfl<|s_off rfl rfl<|s_off rfl rfl<|s_q (.bool false) rfl trivial rfl<|s_mov (.bool false) rfl<|s_off rfl rfl<|s_off rfl rfl<|s_off rfl rfl<|s_off rfl rfl<|s_q (.bool false) rfl trivial rfl<|s_mov (.bool false) rfl<|dk<|w_ret<|?_;obtain rfl:=os hf;exact r_flat ⟨trivial,trivial⟩ rfl (.refl _)

/- spec.l07List -/
def c130:ACode :=
 (.seq (.reg (tm 2 (.c (.bool false)) .done))
 (.seq (.seq (.reg (tm 3 (.c (.int .i64 0)) .done))
 (.block 0 (.loop (.seq (.seq (.reg (tm 4 (.t 3) (tm 5 (.t 0) (tq 6 (.len (.t 5)) (tq 7 (.bin .lss (.t 4) (.t 6)) .done)))))
 (.cond (.t 7) .skip
 (.exit 0)))
 (.seq (.block 1 (.seq (.reg (tm 10 (.t 0) (tm 11 (.t 3) (tq 12 (.iaddr 3 (.t 10) (.t 11)) (tq 13 (.load 3 true (.t 12)) (tq 14 (.call 206 [(.t 13)]) (tq 15 (.not (.t 14)) .done)))))))
 (.cond (.t 15) (.seq (.reg (tm 2 (.c (.bool false)) .done))
 .ret)
 .skip)))
 (.reg (tm 8 (.t 3) (tq 9 (.bin .add (.t 8) (.c (.int .i64 1))) (tm 3 (.t 9) .done)))))))))
 (.cut (.seq (.reg (tm 16 (.t 0) (tq 17 (.len (.t 16)) (tq 18 (.bin .leq (.t 17) (.c (.int .i64 8))) (tm 2 (.t 18) .done)))))
 .ret))))
theorem fc130:fcomp Tryz.prog Tryz.f130 = some (c130.erase,[.mov (.t 2)],19):=by kernel_rfl
def spec_l07List_L1 :List GMut → Option (Fl Bool Unit)
  | [] =>
    some (.go ())
  | x_33 :: xs =>
    (spec_l07OK x_33).bind fun r_36 =>
    if (!r_36) then
    some (.ret false)
    else
    spec_l07List_L1 xs 

def spec_l07List (list_1:(List GMut)):Option Bool :=
    (spec_l07List_L1 list_1 ).bind fun q => (match q with
    | .ret r => some r
    | .go _ =>
    some (decide ((list_1.length:Int) ≤ 8)))
theorem w_spec_l07List (list_1:(List GMut)) (r:Bool) (hf:spec_l07List list_1 = some r):CallOK Tryz.prog 130 .flat [(.lst 3 (list_1.map encGMut))] (.bool r):=by
 refine CallOK.of_awp mixed Tryz.func130 fc130 nle ?_;rw [argT_eq];unfold spec_l07List at hf;unfold c130;refine (show awp Tryz.prog false 0 _ (ofL [(0,(.lst 3 (list_1.map encGMut)))]) [] _ from ?_);refine sr<|s_mov (.bool false) rfl<|dk<|awp_seq<|sr<|s_mov (.int .i64 0) rfl<|dk<|?_
 obtain ⟨p26,hb1,hf⟩:=ob hf
 refine awp_cutx (X:={q:Unit // p26 = .go q}) (fun q => ([(0,(.lst 3 (list_1.map encGMut)))],[])) ?_ ?_
 ·refine awp_loop (X:={q:Nat // spec_l07List_L1 (list_1.drop q)  = some p26}) (fun q => ([(0,(.lst 3 (list_1.map encGMut))),(3,(.int .i64 (q.1:Int)))],[])) (fun q => list_1.length - q.1) ⟨0,hb1⟩ ⟨[],[],_,_,rfl,rfl,⟨.refl _,⟨.refl _,trivial⟩⟩,(.refl _)⟩ ?_
  rintro ⟨i_17,hc1⟩
  have hc1:spec_l07List_L1 (list_1.drop i_17)  = some p26:=hc1
  refine (show awp Tryz.prog false 0 _ (ofL [(0,(.lst 3 (list_1.map encGMut))),(3,(.int .i64 (i_17:Int)))]) [] _ from ?_)
  rcases dropc list_1 i_17 with ⟨hie29,hd32⟩ | ⟨hlt27,x_33,hx28,hd32⟩
  ·rw [hd32,spec_l07List_L1.eq_1] at hc1
   have hq31:=dlf hie29
   refine awp_seq<|sr<|s_mov (.int .i64 (i_17:Int)) rfl<|s_mov (.lst 3 (list_1.map encGMut)) rfl<|s_dof (o_len (enc:=encGMut) rfl) fun hl34 => s_q (.bool (decide ((i_17:Int) < (list_1.length:Int)))) rfl rfl rfl<|dk<|w_condf rfl hq31<|w_exit<|k_seqx<|k_loopx<|k_blkx<|?_;obtain rfl:=os hc1;exact k_cutn ⟨_,rfl⟩ ⟨[],[],_,_,rfl,rfl,⟨.refl _,trivial⟩,(.refl _)⟩
  ·rw [hd32,spec_l07List_L1.eq_2] at hc1
   have hq31:=dlt hlt27
   refine awp_seq<|sr<|s_mov (.int .i64 (i_17:Int)) rfl<|s_mov (.lst 3 (list_1.map encGMut)) rfl<|s_dof (o_len (enc:=encGMut) rfl) fun hl35 => s_q (.bool (decide ((i_17:Int) < (list_1.length:Int)))) rfl rfl rfl<|dk<|w_condt rfl hq31<|w_skip<|k_seq<|awp_seq<|w_blk<|sr<|?_
   obtain ⟨r_36,er37,hc1⟩:=ob hc1
   refine s_mov (.lst 3 (list_1.map encGMut)) rfl<|s_mov (.int .i64 (i_17:Int)) rfl<|s_do (o_iaddrn (enc:=encGMut) rfl rfl hx28)<|s_q (encGMut x_33) rfl nle rfl<|s_do (o_call (w_spec_l07OK _ _ er37) rfl (.refl _) rfl)<|s_q (.bool (!r_36)) rfl trivial rfl<|dk<|?_
   rcases oi hc1 with ⟨c38,hc1⟩ | ⟨c38,hc1⟩
   ·refine w_condt rfl c38<|sr<|s_mov (.bool false) rfl<|dk<|w_ret<|?_;obtain rfl:=os hc1;obtain rfl:=os hf;exact r_flat ⟨trivial,trivial⟩ rfl (.refl _)
   ·refine w_condf rfl (bf c38)<|w_skip<|k_blk<|k_seq<|w_reg<|s_mov (.int .i64 (i_17:Int)) rfl<|s_q (.int .i64 (w64 ((i_17:Int) + 1))) rfl rfl rfl<|s_mov (.int .i64 (w64 ((i_17:Int) + 1))) rfl<|w_done<|?_;exact k_loopn ⟨(i_17 + 1),hc1⟩ (mul hlt27) ⟨[],[],_,_,rfl,rfl,⟨.refl _,⟨.of_eq (congrArg (AV.int _) (w64_incr hlt27 hl35)),trivial⟩⟩,(.refl _)⟩
 ·rintro ⟨_,rfl⟩
  refine sr<|s_mov (.lst 3 (list_1.map encGMut)) rfl<|s_dof (o_len (enc:=encGMut) rfl) fun hl39 => s_q (.bool (decide ((list_1.length:Int) ≤ 8))) rfl rfl rfl<|s_mov (.bool (decide ((list_1.length:Int) ≤ 8))) rfl<|dk<|w_ret<|?_;obtain rfl:=os hf;exact r_flat ⟨trivial,trivial⟩ rfl (.refl _)

/- spec.l00Letter -/
def c242:ACode :=
 (.seq (.reg (tm 2 (.c (.bool false)) .done))
 (.seq (.reg (tm 3 (.t 0) (tq 4 (.bin .geq (.t 3) (.c (.int .u8 97))) (tm 5 (.t 4) (tg 6 5 true (.mov (.t 0)) (tg 7 5 true (.bin .leq (.t 6) (.c (.int .u8 122))) (tq 8 (.pick (.t 5) (.t 7) (.c (.bool false))) (tm 9 (.t 8) (tg 10 9 false (.mov (.t 0)) (tg 11 9 false (.bin .geq (.t 10) (.c (.int .u8 65))) (tg 12 9 false (.mov (.t 11)) (tg 13 12 true (.mov (.t 0)) (tg 14 12 true (.bin .leq (.t 13) (.c (.int .u8 90))) (tg 15 9 false (.pick (.t 12) (.t 14) (.c (.bool false))) (tq 16 (.pick (.t 9) (.c (.bool true)) (.t 15)) (tm 17 (.t 16) (tg 18 17 false (.mov (.t 0)) (tg 19 17 false (.bin .eql (.t 18) (.c (.int .u8 95))) (tq 20 (.pick (.t 17) (.c (.bool true)) (.t 19)) (tm 2 (.t 20) .done))))))))))))))))))))
 .ret))
theorem fc242:fcomp Tryz.prog Tryz.f242 = some (c242.erase,[.mov (.t 2)],21):=by kernel_rfl
def spec_l00Letter (c_1:Int):Option Bool :=
    some (bif (bif (bif (decide (c_1 ≥ 97)) then (decide (c_1 ≤ 122)) else false) then true else (bif (decide (c_1 ≥ 65)) then (decide (c_1 ≤ 90)) else false)) then true else (c_1 == 95))
theorem w_spec_l00Letter (c_1:Int) (r:Bool) (hf:spec_l00Letter c_1 = some r):CallOK Tryz.prog 242 .flat [(.int .u8 c_1)] (.bool r):=by
 refine CallOK.of_awp mixed Tryz.func242 fc242 nle ?_;rw [argT_eq];unfold spec_l00Letter at hf;unfold c242;refine (show awp Tryz.prog false 0 _ (ofL [(0,(.int .u8 c_1))]) [] _ from ?_);refine sr<|s_mov (.bool false) rfl<|dk<|sr<|s_mov (.int .u8 c_1) rfl<|s_q (.bool (decide (c_1 ≥ 97))) rfl rfl rfl<|s_mov (.bool (decide (c_1 ≥ 97))) rfl<|?_;refine s_g (v:=(decide (c_1 ≥ 97))) (.int .u8 c_1) rfl (fun hv => by (try simp only [gs_on hv]);exact ⟨rfl,trivial,rfl⟩) ?_;refine s_g (v:=(decide (c_1 ≥ 97))) (.bool (decide (c_1 ≤ 122))) rfl (fun hv => by (try simp only [gs_on hv]);exact ⟨rfl,rfl,rfl⟩) ?_;refine s_pick (x:=(decide (c_1 ≤ 122))) (y:=false) rfl (fun hv => by (try simp only [gs_on hv]);rfl) (fun hv => by (try simp only [gs_on hv]);rfl) ?_
 refine s_mov (.bool (bif (decide (c_1 ≥ 97)) then (decide (c_1 ≤ 122)) else false)) rfl ?_;refine s_g (v:=(bif (decide (c_1 ≥ 97)) then (decide (c_1 ≤ 122)) else false)) (.int .u8 c_1) rfl (fun hv => by (try simp only [gs_on hv]);exact ⟨rfl,trivial,rfl⟩) ?_;refine s_g (v:=(bif (decide (c_1 ≥ 97)) then (decide (c_1 ≤ 122)) else false)) (.bool (decide (c_1 ≥ 65))) rfl (fun hv => by (try simp only [gs_on hv]);exact ⟨rfl,rfl,rfl⟩) ?_;refine s_g (v:=(bif (decide (c_1 ≥ 97)) then (decide (c_1 ≤ 122)) else false)) (.bool (decide (c_1 ≥ 65))) rfl (fun hv => by (try simp only [gs_on hv]);exact ⟨rfl,trivial,rfl⟩) ?_;refine s_gg (v1:=(bif (decide (c_1 ≥ 97)) then (decide (c_1 ≤ 122)) else false)) (b1:=false) (v2:=(decide (c_1 ≥ 65))) (.int .u8 c_1) rfl (fun hv hw => by (try simp only [gs_on hv,gs_on hw]);exact ⟨rfl,trivial,rfl⟩) ?_
 refine s_gg (v1:=(bif (decide (c_1 ≥ 97)) then (decide (c_1 ≤ 122)) else false)) (b1:=false) (v2:=(decide (c_1 ≥ 65))) (.bool (decide (c_1 ≤ 90))) rfl (fun hv hw => by (try simp only [gs_on hv,gs_on hw]);exact ⟨rfl,rfl,rfl⟩) ?_;refine s_gp (v1:=(bif (decide (c_1 ≥ 97)) then (decide (c_1 ≤ 122)) else false)) (b1:=false) (v2:=(decide (c_1 ≥ 65))) (x:=(decide (c_1 ≤ 90))) (y:=false) rfl (fun hv => by (try simp only [gs_on hv]);rfl) (fun hv hw => by (try simp only [gs_on hv,gs_on hw]);rfl) (fun hv hw => by (try simp only [gs_on hv,gs_on hw]);rfl) ?_;refine s_pick (x:=true) (y:=(bif (decide (c_1 ≥ 65)) then (decide (c_1 ≤ 90)) else false)) rfl (fun hv => by (try simp only [gs_on hv]);rfl) (fun hv => by (try simp only [gs_on hv]);rfl) ?_
 refine s_mov (.bool (bif (bif (decide (c_1 ≥ 97)) then (decide (c_1 ≤ 122)) else false) then true else (bif (decide (c_1 ≥ 65)) then (decide (c_1 ≤ 90)) else false))) rfl ?_;refine s_g (v:=(bif (bif (decide (c_1 ≥ 97)) then (decide (c_1 ≤ 122)) else false) then true else (bif (decide (c_1 ≥ 65)) then (decide (c_1 ≤ 90)) else false))) (.int .u8 c_1) rfl (fun hv => by (try simp only [gs_on hv]);exact ⟨rfl,trivial,rfl⟩) ?_;refine s_g (v:=(bif (bif (decide (c_1 ≥ 97)) then (decide (c_1 ≤ 122)) else false) then true else (bif (decide (c_1 ≥ 65)) then (decide (c_1 ≤ 90)) else false))) (.bool (c_1 == 95)) rfl (fun hv => by (try simp only [gs_on hv]);exact ⟨rfl,rfl,rfl⟩) ?_;refine s_pick (x:=true) (y:=(c_1 == 95)) rfl (fun hv => by (try simp only [gs_on hv]);rfl) (fun hv => by (try simp only [gs_on hv]);rfl) ?_
 refine s_mov (.bool (bif (bif (bif (decide (c_1 ≥ 97)) then (decide (c_1 ≤ 122)) else false) then true else (bif (decide (c_1 ≥ 65)) then (decide (c_1 ≤ 90)) else false)) then true else (c_1 == 95))) rfl<|dk<|w_ret<|?_;obtain rfl:=os hf;exact r_flat ⟨trivial,trivial⟩ rfl (.refl _)

/- spec.l00Digit -/
def c243:ACode :=
 (.seq (.reg (tm 2 (.c (.bool false)) .done))
 (.seq (.reg (tm 3 (.t 0) (tq 4 (.bin .geq (.t 3) (.c (.int .u8 48))) (tm 5 (.t 4) (tg 6 5 true (.mov (.t 0)) (tg 7 5 true (.bin .leq (.t 6) (.c (.int .u8 57))) (tq 8 (.pick (.t 5) (.t 7) (.c (.bool false))) (tm 2 (.t 8) .done))))))))
 .ret))
theorem fc243:fcomp Tryz.prog Tryz.f243 = some (c243.erase,[.mov (.t 2)],9):=by kernel_rfl
def spec_l00Digit (c_1:Int):Option Bool :=
    if (decide (c_1 ≥ 48)) then
    some (decide (c_1 ≤ 57))
    else
    some false
theorem w_spec_l00Digit (c_1:Int) (r:Bool) (hf:spec_l00Digit c_1 = some r):CallOK Tryz.prog 243 .flat [(.int .u8 c_1)] (.bool r):=by
 refine CallOK.of_awp mixed Tryz.func243 fc243 nle ?_;rw [argT_eq];unfold spec_l00Digit at hf;unfold c243;refine (show awp Tryz.prog false 0 _ (ofL [(0,(.int .u8 c_1))]) [] _ from ?_);refine sr<|s_mov (.bool false) rfl<|dk<|sr<|?_
 rcases oi hf with ⟨c2,hf⟩ | ⟨c2,hf⟩
 ·refine s_mov (.int .u8 c_1) rfl<|s_q (.bool (decide (c_1 ≥ 48))) rfl rfl rfl<|s_mov (.bool (decide (c_1 ≥ 48))) rfl<|s_lit (s:=5) (b:=true) rfl c2<|s_on rfl<|s_mov (.int .u8 c_1) rfl<|s_on rfl<|s_q (.bool (decide (c_1 ≤ 57))) rfl rfl rfl<|s_q (.bool (decide (c_1 ≤ 57))) rfl trivial rfl<|s_mov (.bool (decide (c_1 ≤ 57))) rfl<|dk<|w_ret<|?_;obtain rfl:=os hf;exact r_flat ⟨trivial,trivial⟩ rfl (.refl _)
 ·refine s_mov (.int .u8 c_1) rfl<|s_q (.bool (decide (c_1 ≥ 48))) rfl rfl rfl<|s_mov (.bool (decide (c_1 ≥ 48))) rfl<|s_lit (s:=5) (b:=false) rfl (bf c2)<|s_off rfl rfl<|s_off rfl rfl<|s_q (.bool false) rfl trivial rfl<|s_mov (.bool false) rfl<|dk<|w_ret<|?_;obtain rfl:=os hf;exact r_flat ⟨trivial,trivial⟩ rfl (.refl _)

/- spec.l00Word -/
def c207:ACode :=
 (.seq (.reg (tm 2 (.c (.bool false)) .done))
 (.seq (.seq (.reg (tm 4 (.t 0) (tq 5 (.lenS (.t 4)) (tq 6 (.bin .lss (.t 5) (.c (.int .i64 1))) (tm 7 (.t 6) (tg 8 7 false (.mov (.t 0)) (tg 9 7 false (.lenS (.t 8)) (tg 10 7 false (.bin .gtr (.t 9) (.c (.int .i64 40))) (tq 11 (.pick (.t 7) (.c (.bool true)) (.t 10)) (tm 12 (.t 11) (tg 13 12 false (.mov (.t 0)) (tg 14 12 false (.idxs (.t 13) (.c (.int .i64 0))) (tg 15 12 false (.call 242 [(.t 14)]) (tg 16 12 false (.not (.t 15)) (tq 17 (.pick (.t 12) (.c (.bool true)) (.t 16)) .done)))))))))))))))
 (.cut (.cond (.t 17) (.seq (.reg (tm 2 (.c (.bool false)) .done))
 .ret)
 .skip)))
 (.seq (.seq (.reg (tm 3 (.c (.int .i64 1)) .done))
 (.block 0 (.loop (.seq (.seq (.reg (tm 18 (.t 3) (tm 19 (.t 0) (tq 20 (.lenS (.t 19)) (tq 21 (.bin .lss (.t 18) (.t 20)) .done)))))
 (.cond (.t 21) .skip
 (.exit 0)))
 (.seq (.block 1 (.seq (.reg (tm 24 (.t 0) (tm 25 (.t 3) (tq 26 (.idxs (.t 24) (.t 25)) (tq 27 (.call 242 [(.t 26)]) (tq 28 (.not (.t 27)) (tm 29 (.t 28) (tg 30 29 true (.mov (.t 0)) (tg 31 29 true (.mov (.t 3)) (tg 32 29 true (.idxs (.t 30) (.t 31)) (tg 33 29 true (.call 243 [(.t 32)]) (tg 34 29 true (.not (.t 33)) (tq 35 (.pick (.t 29) (.t 34) (.c (.bool false))) .done)))))))))))))
 (.cut (.cond (.t 35) (.seq (.reg (tm 2 (.c (.bool false)) .done))
 .ret)
 .skip))))
 (.reg (tm 22 (.t 3) (tq 23 (.bin .add (.t 22) (.c (.int .i64 1))) (tm 3 (.t 23) .done)))))))))
 (.cut (.seq (.reg (tm 2 (.c (.bool true)) .done))
 .ret)))))
theorem fc207:fcomp Tryz.prog Tryz.f207 = some (c207.erase,[.mov (.t 2)],36):=by kernel_rfl
def spec_l00Word_L1 :List UInt8 → Option (Fl Bool Unit)
  | [] =>
    some (.go ())
  | x_98 :: xs =>
    (((spec_l00Letter (x_98.toNat:Int)).bind fun r_108 =>
    if (!r_108) then
    (spec_l00Digit (x_98.toNat:Int)).bind fun r_111 =>
    some (!r_111)
    else
    some false:Option Bool)).bind fun s35_106 =>
    if s35_106 then
    some (.ret false)
    else
    spec_l00Word_L1 xs 

def spec_l00Word (t_1:Str):Option Bool :=
    ((if (bif (decide ((t_1.length:Int) < 1)) then true else (decide ((t_1.length:Int) > 40))) then
    some true
    else
    (idx t_1 0).bind fun b_14 =>
    (spec_l00Letter (b_14.toNat:Int)).bind fun r_16 =>
    some (!r_16):Option Bool)).bind fun s17_9 =>
    if s17_9 then
    some false
    else
    (spec_l00Word_L1 (t_1.drop 1) ).bind fun q => (match q with
    | .ret r => some r
    | .go _ =>
    some true)
theorem w_spec_l00Word (t_1:Str) (r:Bool) (hf:spec_l00Word t_1 = some r):CallOK Tryz.prog 207 .flat [(.str t_1)] (.bool r):=by
 refine CallOK.of_awp mixed Tryz.func207 fc207 nle ?_;rw [argT_eq];unfold spec_l00Word at hf;unfold c207;refine (show awp Tryz.prog false 0 _ (ofL [(0,(.str t_1))]) [] _ from ?_);refine sr<|s_mov (.bool false) rfl<|dk<|awp_seq<|awp_seq<|?_
 obtain ⟨s17_9,hb1,hf⟩:=ob hf
 refine awp_cut ([(0,(.str t_1)),(17,(.bool s17_9))],[]) ?_ ?_
 ·refine w_reg<|s_mov (.str t_1) rfl<|s_dof (o_lenS rfl) fun hl11 => s_q (.bool (decide ((t_1.length:Int) < 1))) rfl rfl rfl<|s_mov (.bool (decide ((t_1.length:Int) < 1))) rfl<|?_;refine s_g (v:=(decide ((t_1.length:Int) < 1))) (.str t_1) rfl (fun hv => by (try simp only [gs_on hv]);exact ⟨rfl,trivial,rfl⟩) ?_;refine s_g (v:=(decide ((t_1.length:Int) < 1))) (.int .i64 (t_1.length:Int)) rfl (fun hv => by (try simp only [gs_on hv]);exact ⟨rfl,trivial,rfl⟩) ?_;refine s_g (v:=(decide ((t_1.length:Int) < 1))) (.bool (decide ((t_1.length:Int) > 40))) rfl (fun hv => by (try simp only [gs_on hv]);exact ⟨rfl,rfl,rfl⟩) ?_;refine s_pick (x:=true) (y:=(decide ((t_1.length:Int) > 40))) rfl (fun hv => by (try simp only [gs_on hv]);rfl) (fun hv => by (try simp only [gs_on hv]);rfl) ?_
  refine s_mov (.bool (bif (decide ((t_1.length:Int) < 1)) then true else (decide ((t_1.length:Int) > 40)))) rfl ?_
  rcases oi hb1 with ⟨c13,hb1⟩ | ⟨c13,hb1⟩
  ·refine s_lit (s:=12) (b:=true) rfl c13<|s_off rfl rfl<|s_off rfl rfl<|s_off rfl rfl<|s_off rfl rfl<|s_q (.bool true) rfl trivial rfl<|w_done<|?_;obtain rfl:=os hb1;exact ⟨[],[],_,_,rfl,rfl,⟨.refl _,⟨.refl _,trivial⟩⟩,(.refl _)⟩
  ·refine s_lit (s:=12) (b:=false) rfl (bf c13)<|s_on rfl<|s_mov (.str t_1) rfl<|s_on rfl<|?_
   obtain ⟨b_14,eb15,hb1⟩:=ob hb1
   refine s_do (o_idxs rfl rfl (idx0 eb15) (idx1 eb15))<|s_on rfl<|?_
   obtain ⟨r_16,er17,hb1⟩:=ob hb1
   refine s_do (o_call (w_spec_l00Letter _ _ er17) rfl (.refl _) rfl)<|s_on rfl<|s_q (.bool (!r_16)) rfl trivial rfl<|s_q (.bool (!r_16)) rfl trivial rfl<|w_done<|?_;obtain rfl:=os hb1;exact ⟨[],[],_,_,rfl,rfl,⟨.refl _,⟨.refl _,trivial⟩⟩,(.refl _)⟩
 ·rcases oi hf with ⟨c18,hf⟩ | ⟨c18,hf⟩
  ·refine w_condt rfl c18<|sr<|s_mov (.bool false) rfl<|dk<|w_ret<|?_;obtain rfl:=os hf;exact r_flat ⟨trivial,trivial⟩ rfl (.refl _)
  ·refine w_condf rfl (bf c18)<|w_skip<|k_seq<|awp_seq<|sr<|s_mov (.int .i64 1) rfl<|dk<|?_
   obtain ⟨p91,hb1,hf⟩:=ob hf
   refine awp_cutx (X:={q:Unit // p91 = .go q}) (fun q => ([],[])) ?_ ?_
   ·refine awp_loop (X:={q:Nat // spec_l00Word_L1 (t_1.drop q)  = some p91}) (fun q => ([(0,(.str t_1)),(3,(.int .i64 (q.1:Int)))],[])) (fun q => t_1.length - q.1) ⟨1,hb1⟩ ⟨[],[],_,_,rfl,rfl,⟨.refl _,⟨.refl _,trivial⟩⟩,(.refl _)⟩ ?_
    rintro ⟨i_66,hc1⟩
    have hc1:spec_l00Word_L1 (t_1.drop i_66)  = some p91:=hc1
    refine (show awp Tryz.prog false 0 _ (ofL [(0,(.str t_1)),(3,(.int .i64 (i_66:Int)))]) [] _ from ?_)
    rcases dropc t_1 i_66 with ⟨hie94,hd97⟩ | ⟨hlt92,x_98,hx93,hd97⟩
    ·rw [hd97,spec_l00Word_L1.eq_1] at hc1
     have hq96:=dlf hie94
     refine awp_seq<|sr<|s_mov (.int .i64 (i_66:Int)) rfl<|s_mov (.str t_1) rfl<|s_dof (o_lenS rfl) fun hl99 => s_q (.bool (decide ((i_66:Int) < (t_1.length:Int)))) rfl rfl rfl<|dk<|w_condf rfl hq96<|w_exit<|k_seqx<|k_loopx<|k_blkx<|?_;obtain rfl:=os hc1;exact k_cutn ⟨_,rfl⟩ ⟨[],[],_,_,rfl,rfl,trivial,(.refl _)⟩
    ·rw [hd97,spec_l00Word_L1.eq_2] at hc1
     have hq96:=dlt hlt92
     refine awp_seq<|sr<|s_mov (.int .i64 (i_66:Int)) rfl<|s_mov (.str t_1) rfl<|s_dof (o_lenS rfl) fun hl100 => s_q (.bool (decide ((i_66:Int) < (t_1.length:Int)))) rfl rfl rfl<|dk<|w_condt rfl hq96<|w_skip<|k_seq<|awp_seq<|w_blk<|awp_seq<|?_
     obtain ⟨s35_106,hb2,hc1⟩:=ob hc1
     refine awp_cut ([(0,(.str t_1)),(3,(.int .i64 (i_66:Int))),(35,(.bool s35_106))],[]) ?_ ?_
     ·refine w_reg ?_
      obtain ⟨r_108,er109,hb2⟩:=ob hb2
      rcases oi hb2 with ⟨c110,hb2⟩ | ⟨c110,hb2⟩
      ·obtain ⟨r_111,er112,hb2⟩:=ob hb2
       refine s_mov (.str t_1) rfl<|s_mov (.int .i64 (i_66:Int)) rfl<|s_do (o_idxsn rfl rfl hx93)<|s_do (o_call (w_spec_l00Letter _ _ er109) rfl (.refl _) rfl)<|s_q (.bool (!r_108)) rfl trivial rfl<|s_mov (.bool (!r_108)) rfl<|s_lit (s:=29) (b:=true) rfl c110<|s_on rfl<|s_mov (.str t_1) rfl<|s_on rfl<|s_mov (.int .i64 (i_66:Int)) rfl<|s_on rfl<|s_do (o_idxsn rfl rfl hx93)<|s_on rfl<|s_do (o_call (w_spec_l00Digit _ _ er112) rfl (.refl _) rfl)<|s_on rfl<|s_q (.bool (!r_111)) rfl trivial rfl<|s_q (.bool (!r_111)) rfl trivial rfl<|w_done<|?_;obtain rfl:=os hb2;exact ⟨[],[],_,_,rfl,rfl,⟨.refl _,⟨.refl _,⟨.refl _,trivial⟩⟩⟩,(.refl _)⟩
      ·refine s_mov (.str t_1) rfl<|s_mov (.int .i64 (i_66:Int)) rfl<|s_do (o_idxsn rfl rfl hx93)<|s_do (o_call (w_spec_l00Letter _ _ er109) rfl (.refl _) rfl)<|s_q (.bool (!r_108)) rfl trivial rfl<|s_mov (.bool (!r_108)) rfl<|s_lit (s:=29) (b:=false) rfl (bf c110)<|s_off rfl rfl<|s_off rfl rfl<|s_off rfl rfl<|s_off rfl rfl<|s_off rfl rfl<|s_q (.bool false) rfl trivial rfl<|w_done<|?_;obtain rfl:=os hb2;exact ⟨[],[],_,_,rfl,rfl,⟨.refl _,⟨.refl _,⟨.refl _,trivial⟩⟩⟩,(.refl _)⟩
     ·rcases oi hc1 with ⟨c113,hc1⟩ | ⟨c113,hc1⟩
      ·refine w_condt rfl c113<|sr<|s_mov (.bool false) rfl<|dk<|w_ret<|?_;obtain rfl:=os hc1;obtain rfl:=os hf;exact r_flat ⟨trivial,trivial⟩ rfl (.refl _)
      ·refine w_condf rfl (bf c113)<|w_skip<|k_blk<|k_seq<|w_reg<|s_mov (.int .i64 (i_66:Int)) rfl<|s_q (.int .i64 (w64 ((i_66:Int) + 1))) rfl rfl rfl<|s_mov (.int .i64 (w64 ((i_66:Int) + 1))) rfl<|w_done<|?_;exact k_loopn ⟨(i_66 + 1),hc1⟩ (mul hlt92) ⟨[],[],_,_,rfl,rfl,⟨.refl _,⟨.of_eq (congrArg (AV.int _) (w64_incr hlt92 hl100)),trivial⟩⟩,(.refl _)⟩
   ·rintro ⟨_,rfl⟩
    refine sr<|s_mov (.bool true) rfl<|dk<|w_ret<|?_;obtain rfl:=os hf;exact r_flat ⟨trivial,trivial⟩ rfl (.refl _)

/- spec.NameOK -/
def c131:ACode :=
 (.seq (.reg (tm 2 (.c (.bool false)) .done))
 (.seq (.reg (tm 3 (.t 0) (tq 4 (.call 207 [(.t 3)]) (tm 2 (.t 4) .done))))
 .ret))
theorem fc131:fcomp Tryz.prog Tryz.f131 = some (c131.erase,[.mov (.t 2)],5):=by kernel_rfl
def spec_NameOK (t_1:Str):Option Bool :=
    (spec_l00Word t_1).bind fun r_2 =>
    some r_2
theorem w_spec_NameOK (t_1:Str) (r:Bool) (hf:spec_NameOK t_1 = some r):CallOK Tryz.prog 131 .flat [(.str t_1)] (.bool r):=by
  refine CallOK.of_awp mixed Tryz.func131 fc131 nle ?_
  rw [argT_eq]
  unfold spec_NameOK at hf
  unfold c131
  refine (show awp Tryz.prog false 0 _ (ofL [(0,(.str t_1))]) [] _ from ?_)
  refine awp_seq ?_
  refine w_reg ?_
  refine s_do (o_mov (.bool false) rfl) ?_
  refine w_done ?_
  refine k_seq ?_
  refine awp_seq ?_
  refine w_reg ?_
  obtain ⟨r_2,er3,hf⟩:=ob hf
  refine s_do (o_mov (.str t_1) rfl) ?_
  refine s_do (o_call (w_spec_l00Word _ _ er3) rfl (.refl _) rfl) ?_
  refine s_do (o_mov (.bool r_2) rfl) ?_
  refine w_done ?_
  refine k_seq ?_
  refine w_ret ?_
  obtain rfl:=os hf
  exact r_flat ⟨trivial,trivial⟩ rfl (.refl _)

/- spec.l08Names -/
def c165:ACode :=
 (.seq (.reg (tm 2 (.c (.bool false)) .done))
 (.seq (.seq (.reg (tm 3 (.c (.int .i64 0)) .done))
 (.block 0 (.loop (.seq (.seq (.reg (tm 4 (.t 3) (tm 5 (.t 0) (tq 6 (.len (.t 5)) (tq 7 (.bin .lss (.t 4) (.t 6)) .done)))))
 (.cond (.t 7) .skip
 (.exit 0)))
 (.seq (.block 1 (.seq (.reg (tm 10 (.t 0) (tm 11 (.t 3) (tq 12 (.iaddr 1 (.t 10) (.t 11)) (tq 13 (.load 1 false (.t 12)) (tq 14 (.call 131 [(.t 13)]) (tq 15 (.not (.t 14)) .done)))))))
 (.cond (.t 15) (.seq (.reg (tm 2 (.c (.bool false)) .done))
 .ret)
 .skip)))
 (.reg (tm 8 (.t 3) (tq 9 (.bin .add (.t 8) (.c (.int .i64 1))) (tm 3 (.t 9) .done)))))))))
 (.cut (.seq (.reg (tm 16 (.t 0) (tq 17 (.len (.t 16)) (tq 18 (.bin .leq (.t 17) (.c (.int .i64 8))) (tm 2 (.t 18) .done)))))
 .ret))))
theorem fc165:fcomp Tryz.prog Tryz.f165 = some (c165.erase,[.mov (.t 2)],19):=by kernel_rfl
def spec_l08Names_L1 :List Str → Option (Fl Bool Unit)
  | [] =>
    some (.go ())
  | x_33 :: xs =>
    (spec_NameOK x_33).bind fun r_36 =>
    if (!r_36) then
    some (.ret false)
    else
    spec_l08Names_L1 xs 

def spec_l08Names (list_1:(List Str)):Option Bool :=
    (spec_l08Names_L1 list_1 ).bind fun q => (match q with
    | .ret r => some r
    | .go _ =>
    some (decide ((list_1.length:Int) ≤ 8)))
theorem w_spec_l08Names (list_1:(List Str)) (r:Bool) (hf:spec_l08Names list_1 = some r):CallOK Tryz.prog 165 .flat [(.lst 1 (list_1.map AV.str))] (.bool r):=by
 refine CallOK.of_awp mixed Tryz.func165 fc165 nle ?_;rw [argT_eq];unfold spec_l08Names at hf;unfold c165;refine (show awp Tryz.prog false 0 _ (ofL [(0,(.lst 1 (list_1.map AV.str)))]) [] _ from ?_);refine sr<|s_mov (.bool false) rfl<|dk<|awp_seq<|sr<|s_mov (.int .i64 0) rfl<|dk<|?_
 obtain ⟨p26,hb1,hf⟩:=ob hf
 refine awp_cutx (X:={q:Unit // p26 = .go q}) (fun q => ([(0,(.lst 1 (list_1.map AV.str)))],[])) ?_ ?_
 ·refine awp_loop (X:={q:Nat // spec_l08Names_L1 (list_1.drop q)  = some p26}) (fun q => ([(0,(.lst 1 (list_1.map AV.str))),(3,(.int .i64 (q.1:Int)))],[])) (fun q => list_1.length - q.1) ⟨0,hb1⟩ ⟨[],[],_,_,rfl,rfl,⟨.refl _,⟨.refl _,trivial⟩⟩,(.refl _)⟩ ?_
  rintro ⟨i_17,hc1⟩
  have hc1:spec_l08Names_L1 (list_1.drop i_17)  = some p26:=hc1
  refine (show awp Tryz.prog false 0 _ (ofL [(0,(.lst 1 (list_1.map AV.str))),(3,(.int .i64 (i_17:Int)))]) [] _ from ?_)
  rcases dropc list_1 i_17 with ⟨hie29,hd32⟩ | ⟨hlt27,x_33,hx28,hd32⟩
  ·rw [hd32,spec_l08Names_L1.eq_1] at hc1
   have hq31:=dlf hie29
   refine awp_seq<|sr<|s_mov (.int .i64 (i_17:Int)) rfl<|s_mov (.lst 1 (list_1.map AV.str)) rfl<|s_dof (o_len (enc:=AV.str) rfl) fun hl34 => s_q (.bool (decide ((i_17:Int) < (list_1.length:Int)))) rfl rfl rfl<|dk<|w_condf rfl hq31<|w_exit<|k_seqx<|k_loopx<|k_blkx<|?_;obtain rfl:=os hc1;exact k_cutn ⟨_,rfl⟩ ⟨[],[],_,_,rfl,rfl,⟨.refl _,trivial⟩,(.refl _)⟩
  ·rw [hd32,spec_l08Names_L1.eq_2] at hc1
   have hq31:=dlt hlt27
   refine awp_seq<|sr<|s_mov (.int .i64 (i_17:Int)) rfl<|s_mov (.lst 1 (list_1.map AV.str)) rfl<|s_dof (o_len (enc:=AV.str) rfl) fun hl35 => s_q (.bool (decide ((i_17:Int) < (list_1.length:Int)))) rfl rfl rfl<|dk<|w_condt rfl hq31<|w_skip<|k_seq<|awp_seq<|w_blk<|sr<|?_
   obtain ⟨r_36,er37,hc1⟩:=ob hc1
   refine s_mov (.lst 1 (list_1.map AV.str)) rfl<|s_mov (.int .i64 (i_17:Int)) rfl<|s_do (o_iaddrn (enc:=AV.str) rfl rfl hx28)<|s_q (.str x_33) rfl ⟨rfl,rfl⟩ rfl<|s_do (o_call (w_spec_NameOK _ _ er37) rfl (.refl _) rfl)<|s_q (.bool (!r_36)) rfl trivial rfl<|dk<|?_
   rcases oi hc1 with ⟨c38,hc1⟩ | ⟨c38,hc1⟩
   ·refine w_condt rfl c38<|sr<|s_mov (.bool false) rfl<|dk<|w_ret<|?_;obtain rfl:=os hc1;obtain rfl:=os hf;exact r_flat ⟨trivial,trivial⟩ rfl (.refl _)
   ·refine w_condf rfl (bf c38)<|w_skip<|k_blk<|k_seq<|w_reg<|s_mov (.int .i64 (i_17:Int)) rfl<|s_q (.int .i64 (w64 ((i_17:Int) + 1))) rfl rfl rfl<|s_mov (.int .i64 (w64 ((i_17:Int) + 1))) rfl<|w_done<|?_;exact k_loopn ⟨(i_17 + 1),hc1⟩ (mul hlt27) ⟨[],[],_,_,rfl,rfl,⟨.refl _,⟨.of_eq (congrArg (AV.int _) (w64_incr hlt27 hl35)),trivial⟩⟩,(.refl _)⟩
 ·rintro ⟨_,rfl⟩
  refine sr<|s_mov (.lst 1 (list_1.map AV.str)) rfl<|s_dof (o_len (enc:=AV.str) rfl) fun hl39 => s_q (.bool (decide ((list_1.length:Int) ≤ 8))) rfl rfl rfl<|s_mov (.bool (decide ((list_1.length:Int) ≤ 8))) rfl<|dk<|w_ret<|?_;obtain rfl:=os hf;exact r_flat ⟨trivial,trivial⟩ rfl (.refl _)

end Go.R
