/- Walks. -/
import Derived.Test.YtmeckljlaaflkaaGreatII3
set_option linter.all false
namespace Go.R
open Go Go.Proofs
set_option linter.unusedVariables false
set_option linter.unusedSimpArgs false
set_option maxHeartbeats 8000000
/- laws.markOpS -/
def c19_h0:ACode :=
 (.seq (.reg (tm 4 (.c (.int .i64 0)) .done))
 (.seq (.seq (.reg (tm 5 (.c (.int .i64 0)) .done))
 (.block 0 (.loop (.seq (.seq (.reg (tm 6 (.t 5) (tm 7 (.t 0) (tq 8 (.len (.t 7)) (tq 9 (.bin .lss (.t 6) (.t 8)) .done)))))
 (.cond (.t 9) .skip
 (.exit 0)))
 (.seq (.block 1 (.seq (.reg (tm 12 (.t 0) (tm 13 (.t 5) (tm 14 (.t 1) (tq 15 (.iaddr 8 (.t 12) (.t 13)) (tq 16 (.faddr 0 (.t 15)) (.q ⟨none,none,.store 1 (.t 16) (.t 14)⟩
 .done)))))))
 (.seq (.reg (tm 17 (.t 1) (tq 18 (.bin .add (.t 17) (.c (.int .i64 1))) (tm 1 (.t 18) .done))))
 (.seq (.reg (tm 19 (.t 0) (tm 20 (.t 5) (tm 21 (.t 1) (tq 22 (.call 74 [(.t 21)]) (tq 23 (.iaddr 8 (.t 19) (.t 20)) (tq 24 (.faddr 1 (.t 23)) (.q ⟨none,none,.store 1 (.t 24) (.t 22)⟩
 .done))))))))
 (.seq (.reg (tm 25 (.t 1) (tq 26 (.bin .add (.t 25) (.c (.int .i64 1))) (tm 1 (.t 26) .done))))
 (.seq (.reg (tm 27 (.t 0) (tm 28 (.t 5) (tm 29 (.t 1) (tq 30 (.call 74 [(.t 29)]) (tq 31 (.iaddr 8 (.t 27) (.t 28)) (tq 32 (.faddr 2 (.t 31)) (.q ⟨none,none,.store 1 (.t 32) (.t 30)⟩
 .done))))))))
 (.seq (.reg (tm 33 (.t 1) (tq 34 (.bin .add (.t 33) (.c (.int .i64 1))) (tm 1 (.t 34) .done))))
 (.seq (.rev (.reg (tm 35 (.t 0) (tm 36 (.t 5) (tq 37 (.iaddr 8 (.t 35) (.t 36)) (tq 38 (.faddr 3 (.t 37)) (tq 39 (.load 1 false (.t 38)) (tm 40 (.t 1) (tq 41 (.call 75 [(.t 39),(.t 40)]) (tm 1 (.t 41) .done))))))))))
 (.seq (.rev (.reg (tm 42 (.t 0) (tm 43 (.t 5) (tq 44 (.iaddr 8 (.t 42) (.t 43)) (tq 45 (.faddr 4 (.t 44)) (tq 46 (.load 1 false (.t 45)) (tm 47 (.t 1) (tq 48 (.call 35 [(.t 46),(.t 47)]) (tm 1 (.t 48) .done))))))))))
 (.seq (.rev (.reg (tm 49 (.t 0) (tm 50 (.t 5) (tq 51 (.iaddr 8 (.t 49) (.t 50)) (tq 52 (.faddr 5 (.t 51)) (tq 53 (.load 1 false (.t 52)) (tm 54 (.t 1) (tq 55 (.call 76 [(.t 53),(.t 54)]) (tm 1 (.t 55) .done))))))))))
 (.seq (.rev (.reg (tm 56 (.t 0) (tm 57 (.t 5) (tq 58 (.iaddr 8 (.t 56) (.t 57)) (tq 59 (.faddr 6 (.t 58)) (tq 60 (.load 1 false (.t 59)) (tm 61 (.t 1) (tq 62 (.call 77 [(.t 60),(.t 61)]) (tm 1 (.t 62) .done))))))))))
 (.seq (.reg (tm 63 (.t 0) (tm 64 (.t 5) (tm 65 (.t 1) (tq 66 (.bin .rem (.t 65) (.c (.int .i64 3))) (tq 67 (.bin .eql (.t 66) (.c (.int .i64 0))) (tq 68 (.iaddr 8 (.t 63) (.t 64)) (tq 69 (.faddr 7 (.t 68)) (.q ⟨none,none,.store 1 (.t 69) (.t 67)⟩
 .done)))))))))
 (.reg (tm 70 (.t 1) (tq 71 (.bin .add (.t 70) (.c (.int .i64 1))) (tm 1 (.t 71) .done))))))))))))))))
 (.reg (tm 10 (.t 5) (tq 11 (.bin .add (.t 10) (.c (.int .i64 1))) (tm 5 (.t 11) .done)))))))))
 (.cut (.seq (.reg (tm 72 (.t 1) (tm 4 (.t 72) .done)))
 .ret))))
theorem fc19_h0:fcomp Tryz.prog Tryz.f19 = some (c19_h0.erase,[.mov (.t 4)],73):=by kernel_rfl
def laws_markOpS_L1 :Nat → Int → Int → (List GOp) → Option (Int × (List GOp))
  | 0,_,_,_ => none
  | k + 1,k_173,i_174,a_175 =>
    if (decide (i_174 < (a_175.length:Int))) then
    if 0 ≤ i_174 ∧ i_174 < (a_175.length:Int) then
    (a_175[(0 + i_174.toNat)]?).bind fun x_214 =>
    (laws_markText (w64 (k_173 + 1))).bind fun r_216 =>
    if 0 ≤ i_174 ∧ i_174 < (a_175.length:Int) then
    (laws_markText (w64 ((w64 (k_173 + 1)) + 1))).bind fun r_219 =>
    if 0 ≤ i_174 ∧ i_174 < (a_175.length:Int) then
    if 0 ≤ i_174 ∧ i_174 < (a_175.length:Int) then
    (laws_markCondS x_214.Where (w64 ((w64 ((w64 (k_173 + 1)) + 1)) + 1))).bind fun r_225 =>
    if 0 ≤ i_174 ∧ i_174 < (a_175.length:Int) then
    (laws_markSetS x_214.Row r_225.1).bind fun r_230 =>
    if 0 ≤ i_174 ∧ i_174 < (a_175.length:Int) then
    (laws_markMutS x_214.Muts r_230.1).bind fun r_235 =>
    if 0 ≤ i_174 ∧ i_174 < (a_175.length:Int) then
    (laws_markStringS x_214.Columns r_235.1).bind fun r_240 =>
    if 0 ≤ i_174 ∧ i_174 < (a_175.length:Int) then
    laws_markOpS_L1 k (w64 (r_240.1 + 1)) (w64 (i_174 + 1)) ((((((((a_175.set (0 + i_174.toNat) (⟨k_173,x_214.Table,x_214.Name,x_214.Where,x_214.Row,x_214.Muts,x_214.Columns,x_214.Until⟩:GOp)).set (0 + i_174.toNat) (⟨k_173,r_216,x_214.Name,x_214.Where,x_214.Row,x_214.Muts,x_214.Columns,x_214.Until⟩:GOp)).set (0 + i_174.toNat) (⟨k_173,r_216,r_219,x_214.Where,x_214.Row,x_214.Muts,x_214.Columns,x_214.Until⟩:GOp)).set (0 + i_174.toNat) (⟨k_173,r_216,r_219,r_225.2,x_214.Row,x_214.Muts,x_214.Columns,x_214.Until⟩:GOp)).set (0 + i_174.toNat) (⟨k_173,r_216,r_219,r_225.2,r_230.2,x_214.Muts,x_214.Columns,x_214.Until⟩:GOp)).set (0 + i_174.toNat) (⟨k_173,r_216,r_219,r_225.2,r_230.2,r_235.2,x_214.Columns,x_214.Until⟩:GOp)).set (0 + i_174.toNat) (⟨k_173,r_216,r_219,r_225.2,r_230.2,r_235.2,r_240.2,x_214.Until⟩:GOp)).set (0 + i_174.toNat) (⟨k_173,r_216,r_219,r_225.2,r_230.2,r_235.2,r_240.2,(r_240.1.tmod 3 == 0)⟩:GOp))
    else none
    else none
    else none
    else none
    else none
    else none
    else none
    else none
    else
    some (k_173,a_175)

def laws_markOpS (a_1:(List GOp)) (k_2:Int):Option (Int × (List GOp)) :=
    (laws_markOpS_L1 FUEL k_2 0 a_1).bind fun p210 =>
    (match p210 with
    | (k_208,l_209) =>
    some (k_208,l_209))
theorem w_laws_markOpS (a_1:(List GOp)) (k_2:Int) (r:(Int × (List GOp))) (hf:laws_markOpS a_1 k_2 = some r):CallHeap Tryz.prog ⟨true,true⟩ 19 [(.own 0 0 a_1.length),(.int .i64 k_2)] [.row 8 (a_1.map encGOp)] (.int .i64 r.1) [.row 8 (r.2.map encGOp)]:=by
 refine CallHeap.of_awp mixed Tryz.func19 fc19_h0 nle ?_;rw [argT_eq];unfold laws_markOpS at hf;unfold c19_h0;refine (show awp Tryz.prog ⟨true,true⟩ 1 _ (ofL [(0,(.own 0 0 a_1.length)),(1,(.int .i64 k_2))]) [.row 8 (a_1.map encGOp)] _ from ?_);refine sr<|s_mov (.int .i64 0) rfl<|dk<|awp_seq<|sr<|s_mov (.int .i64 0) rfl<|dk<|?_
 obtain ⟨p210,hb1,hf⟩:=ob hf
 refine awp_cut ([(1,(.int .i64 p210.1))],[.row 8 (p210.2.map encGOp)]) ?_ ?_
 ·refine awp_loop (X:={q:(Nat × Int × Int × (List GOp)) // laws_markOpS_L1 q.1 q.2.1 q.2.2.1 q.2.2.2 = some p210}) (fun q => ([(0,(.own 0 0 q.1.2.2.2.length)),(1,(.int .i64 q.1.2.1)),(5,(.int .i64 q.1.2.2.1))],[.row 8 (q.1.2.2.2.map encGOp)])) (fun q => q.1.1) ⟨(FUEL,k_2,0,a_1),hb1⟩ ⟨[],[0],_,_,rfl,rfl,⟨.refl _,⟨.refl _,⟨.refl _,trivial⟩⟩⟩,(.refl _)⟩ ?_
  rintro ⟨⟨k,k_173,i_174,a_175⟩,hc1⟩
  have hc1:laws_markOpS_L1 k k_173 i_174 a_175 = some p210:=hc1
  refine (show awp Tryz.prog ⟨true,true⟩ 1 _ (ofL [(0,(.own 0 0 a_175.length)),(1,(.int .i64 k_173)),(5,(.int .i64 i_174))]) [.row 8 (a_175.map encGOp)] _ from ?_)
  rcases k with _ | k
  ·rw [laws_markOpS_L1.eq_1] at hc1
   cases hc1
  ·rw [laws_markOpS_L1.eq_2] at hc1;refine awp_seq<|sr<|s_mov (.int .i64 i_174) rfl<|s_mov (.own 0 0 a_175.length) rfl<|s_dof (o_lenown rfl rfl) fun hl211 => s_q (.bool (decide (i_174 < (a_175.length:Int)))) rfl (.of rfl trivial) rfl<|dk<|?_
   rcases oi hc1 with ⟨c212,hc1⟩ | ⟨c212,hc1⟩
   ·refine w_condt rfl c212<|w_skip<|k_seq<|awp_seq<|w_blk<|sr<|?_
    obtain ⟨g213,hc1⟩:=og hc1
    obtain ⟨x_214,ex215,hc1⟩:=ob hc1
    refine s_mov (.own 0 0 a_175.length) rfl<|s_mov (.int .i64 i_174) rfl<|s_mov (.int .i64 k_173) rfl<|s_do (o_iaddrown rfl rfl g213.1 g213.2 rfl rfl)<|s_q (.ptr 0 (0 + i_174.toNat) 0) rfl (.of trivial trivial) rfl<|?_;refine s_do0 (o_storerow (v':=(.int .i64 k_173)) (e':=(⟨k_173,x_214.Table,x_214.Name,x_214.Where,x_214.Row,x_214.Muts,x_214.Columns,x_214.Until⟩:GOp)) rfl rfl ex215 rfl rfl rfl (by decide) (fun _ => by decide) ⟨rfl,nle⟩ (.refl _) rfl) ?_;refine dk<|sr<|s_mov (.int .i64 k_173) rfl<|s_q (.int .i64 (w64 (k_173 + 1))) rfl (.of rfl trivial) rfl<|s_mov (.int .i64 (w64 (k_173 + 1))) rfl<|dk<|sr<|?_
    obtain ⟨r_216,er217,hc1⟩:=ob hc1
    obtain ⟨g218,hc1⟩:=og hc1
    refine s_mov (.own 0 0 a_175.length) rfl<|s_mov (.int .i64 i_174) rfl<|s_mov (.int .i64 (w64 (k_173 + 1))) rfl<|s_do (o_call (w_laws_markText _ _ er217) rfl (.refl _) rfl)<|s_do (o_iaddrown rfl rfl g218.1 g218.2 rfl rfl)<|s_q (.ptr 0 (0 + i_174.toNat) 1) rfl (.of trivial trivial) rfl<|?_;refine s_do0 (o_storerow (v':=(.str r_216)) (e':=(⟨k_173,r_216,x_214.Name,x_214.Where,x_214.Row,x_214.Muts,x_214.Columns,x_214.Until⟩:GOp)) rfl rfl (setget ex215) rfl rfl rfl (by decide) (fun _ => by decide) ⟨rfl,nle⟩ (.refl _) rfl) ?_;refine dk<|sr<|s_mov (.int .i64 (w64 (k_173 + 1))) rfl<|s_q (.int .i64 (w64 ((w64 (k_173 + 1)) + 1))) rfl (.of rfl trivial) rfl<|s_mov (.int .i64 (w64 ((w64 (k_173 + 1)) + 1))) rfl<|?_
    refine dk<|sr<|?_
    obtain ⟨r_219,er220,hc1⟩:=ob hc1
    obtain ⟨g221,hc1⟩:=og hc1
    refine s_mov (.own 0 0 a_175.length) rfl<|s_mov (.int .i64 i_174) rfl<|s_mov (.int .i64 (w64 ((w64 (k_173 + 1)) + 1))) rfl<|s_do (o_call (w_laws_markText _ _ er220) rfl (.refl _) rfl)<|s_do (o_iaddrown rfl rfl g221.1 g221.2 rfl rfl)<|s_q (.ptr 0 (0 + i_174.toNat) 2) rfl (.of trivial trivial) rfl<|?_;refine s_do0 (o_storerow (v':=(.str r_219)) (e':=(⟨k_173,r_216,r_219,x_214.Where,x_214.Row,x_214.Muts,x_214.Columns,x_214.Until⟩:GOp)) rfl rfl (setget (setget ex215)) rfl rfl rfl (by decide) (fun _ => by decide) ⟨rfl,nle⟩ (.refl _) rfl) ?_;refine dk<|sr<|s_mov (.int .i64 (w64 ((w64 (k_173 + 1)) + 1))) rfl<|s_q (.int .i64 (w64 ((w64 ((w64 (k_173 + 1)) + 1)) + 1))) rfl (.of rfl trivial) rfl<|?_
    refine s_mov (.int .i64 (w64 ((w64 ((w64 (k_173 + 1)) + 1)) + 1))) rfl<|dk<|awp_seq<|?_;refine w_rev (o:=0) (f:=3) (l':=x_214.Where) (enc':=encGCond) (el:=(.agg [(.int .i64 k_173),(.str r_216),(.str r_219),(.lst 3 (x_214.Where.map encGCond)),(.lst 3 (x_214.Row.map encGSet)),(.lst 3 (x_214.Muts.map encGMut)),(.lst 1 (x_214.Columns.map AV.str)),(.bool x_214.Until)])) rfl (setget (setget (setget ex215))) rfl rfl fun v_223 => ?_;refine w_reg ?_
    obtain ⟨g224,hc1⟩:=og hc1
    obtain ⟨r_225,er226,hc1⟩:=ob hc1
    refine s_mov (.own 0 0 a_175.length) rfl<|s_mov (.int .i64 i_174) rfl<|s_do (o_iaddrown rfl rfl g224.1 g224.2 rfl rfl)<|s_q (.ptr 0 (0 + i_174.toNat) 3) rfl (.of trivial trivial) rfl<|s_do (o_loadhdr rfl rfl (getset (setget (setget (setget ex215)))) nle rfl)<|s_mov (.int .i64 (w64 ((w64 ((w64 (k_173 + 1)) + 1)) + 1))) rfl<|s_do (o_callm (o:=0) (l:=(((a_175.set (0 + i_174.toNat) (⟨k_173,x_214.Table,x_214.Name,x_214.Where,x_214.Row,x_214.Muts,x_214.Columns,x_214.Until⟩:GOp)).set (0 + i_174.toNat) (⟨k_173,r_216,x_214.Name,x_214.Where,x_214.Row,x_214.Muts,x_214.Columns,x_214.Until⟩:GOp)).set (0 + i_174.toNat) (⟨k_173,r_216,r_219,x_214.Where,x_214.Row,x_214.Muts,x_214.Columns,x_214.Until⟩:GOp))) (enc:=encGOp) (enc':=encGCond) (l'':=r_225.2) (y:=(⟨k_173,r_216,r_219,r_225.2,x_214.Row,x_214.Muts,x_214.Columns,x_214.Until⟩:GOp)) (j:=3) (el:=(.agg [(.int .i64 k_173),(.str r_216),(.str r_219),(.hdr v_223 3 (x_214.Where.map encGCond)),(.lst 3 (x_214.Row.map encGSet)),(.lst 3 (x_214.Muts.map encGMut)),(.lst 1 (x_214.Columns.map AV.str)),(.bool x_214.Until)])) rfl rfl (w_laws_markCondS _ _ _ er226) rfl rfl (setget (setget (setget ex215))) rfl (by decide) rfl)<|?_
    refine s_mov (.int .i64 r_225.1) rfl<|dk<|awp_seq<|?_;refine w_rev (o:=0) (f:=4) (l':=x_214.Row) (enc':=encGSet) (el:=(.agg [(.int .i64 k_173),(.str r_216),(.str r_219),(.lst 3 (r_225.2.map encGCond)),(.lst 3 (x_214.Row.map encGSet)),(.lst 3 (x_214.Muts.map encGMut)),(.lst 1 (x_214.Columns.map AV.str)),(.bool x_214.Until)])) rfl (setget (setget (setget (setget ex215)))) rfl rfl fun v_228 => ?_;refine w_reg ?_
    obtain ⟨g229,hc1⟩:=og hc1
    obtain ⟨r_230,er231,hc1⟩:=ob hc1
    refine s_mov (.own 0 0 a_175.length) rfl<|s_mov (.int .i64 i_174) rfl<|s_do (o_iaddrown rfl rfl g229.1 g229.2 rfl rfl)<|s_q (.ptr 0 (0 + i_174.toNat) 4) rfl (.of trivial trivial) rfl<|s_do (o_loadhdr rfl rfl (getset (setget (setget (setget (setget ex215))))) nle rfl)<|s_mov (.int .i64 r_225.1) rfl<|s_do (o_callm (o:=0) (l:=((((a_175.set (0 + i_174.toNat) (⟨k_173,x_214.Table,x_214.Name,x_214.Where,x_214.Row,x_214.Muts,x_214.Columns,x_214.Until⟩:GOp)).set (0 + i_174.toNat) (⟨k_173,r_216,x_214.Name,x_214.Where,x_214.Row,x_214.Muts,x_214.Columns,x_214.Until⟩:GOp)).set (0 + i_174.toNat) (⟨k_173,r_216,r_219,x_214.Where,x_214.Row,x_214.Muts,x_214.Columns,x_214.Until⟩:GOp)).set (0 + i_174.toNat) (⟨k_173,r_216,r_219,r_225.2,x_214.Row,x_214.Muts,x_214.Columns,x_214.Until⟩:GOp))) (enc:=encGOp) (enc':=encGSet) (l'':=r_230.2) (y:=(⟨k_173,r_216,r_219,r_225.2,r_230.2,x_214.Muts,x_214.Columns,x_214.Until⟩:GOp)) (j:=4) (el:=(.agg [(.int .i64 k_173),(.str r_216),(.str r_219),(.lst 3 (r_225.2.map encGCond)),(.hdr v_228 3 (x_214.Row.map encGSet)),(.lst 3 (x_214.Muts.map encGMut)),(.lst 1 (x_214.Columns.map AV.str)),(.bool x_214.Until)])) rfl rfl (w_laws_markSetS _ _ _ er231) rfl rfl (setget (setget (setget (setget ex215)))) rfl (by decide) rfl)<|?_
    refine s_mov (.int .i64 r_230.1) rfl<|dk<|awp_seq<|?_;refine w_rev (o:=0) (f:=5) (l':=x_214.Muts) (enc':=encGMut) (el:=(.agg [(.int .i64 k_173),(.str r_216),(.str r_219),(.lst 3 (r_225.2.map encGCond)),(.lst 3 (r_230.2.map encGSet)),(.lst 3 (x_214.Muts.map encGMut)),(.lst 1 (x_214.Columns.map AV.str)),(.bool x_214.Until)])) rfl (setget (setget (setget (setget (setget ex215))))) rfl rfl fun v_233 => ?_;refine w_reg ?_
    obtain ⟨g234,hc1⟩:=og hc1
    obtain ⟨r_235,er236,hc1⟩:=ob hc1
    refine s_mov (.own 0 0 a_175.length) rfl<|s_mov (.int .i64 i_174) rfl<|s_do (o_iaddrown rfl rfl g234.1 g234.2 rfl rfl)<|s_q (.ptr 0 (0 + i_174.toNat) 5) rfl (.of trivial trivial) rfl<|s_do (o_loadhdr rfl rfl (getset (setget (setget (setget (setget (setget ex215)))))) nle rfl)<|s_mov (.int .i64 r_230.1) rfl<|s_do (o_callm (o:=0) (l:=(((((a_175.set (0 + i_174.toNat) (⟨k_173,x_214.Table,x_214.Name,x_214.Where,x_214.Row,x_214.Muts,x_214.Columns,x_214.Until⟩:GOp)).set (0 + i_174.toNat) (⟨k_173,r_216,x_214.Name,x_214.Where,x_214.Row,x_214.Muts,x_214.Columns,x_214.Until⟩:GOp)).set (0 + i_174.toNat) (⟨k_173,r_216,r_219,x_214.Where,x_214.Row,x_214.Muts,x_214.Columns,x_214.Until⟩:GOp)).set (0 + i_174.toNat) (⟨k_173,r_216,r_219,r_225.2,x_214.Row,x_214.Muts,x_214.Columns,x_214.Until⟩:GOp)).set (0 + i_174.toNat) (⟨k_173,r_216,r_219,r_225.2,r_230.2,x_214.Muts,x_214.Columns,x_214.Until⟩:GOp))) (enc:=encGOp) (enc':=encGMut) (l'':=r_235.2) (y:=(⟨k_173,r_216,r_219,r_225.2,r_230.2,r_235.2,x_214.Columns,x_214.Until⟩:GOp)) (j:=5) (el:=(.agg [(.int .i64 k_173),(.str r_216),(.str r_219),(.lst 3 (r_225.2.map encGCond)),(.lst 3 (r_230.2.map encGSet)),(.hdr v_233 3 (x_214.Muts.map encGMut)),(.lst 1 (x_214.Columns.map AV.str)),(.bool x_214.Until)])) rfl rfl (w_laws_markMutS _ _ _ er236) rfl rfl (setget (setget (setget (setget (setget ex215))))) rfl (by decide) rfl)<|?_
    refine s_mov (.int .i64 r_235.1) rfl<|dk<|awp_seq<|?_;refine w_rev (o:=0) (f:=6) (l':=x_214.Columns) (enc':=AV.str) (el:=(.agg [(.int .i64 k_173),(.str r_216),(.str r_219),(.lst 3 (r_225.2.map encGCond)),(.lst 3 (r_230.2.map encGSet)),(.lst 3 (r_235.2.map encGMut)),(.lst 1 (x_214.Columns.map AV.str)),(.bool x_214.Until)])) rfl (setget (setget (setget (setget (setget (setget ex215)))))) rfl rfl fun v_238 => ?_;refine w_reg ?_
    obtain ⟨g239,hc1⟩:=og hc1
    obtain ⟨r_240,er241,hc1⟩:=ob hc1
    refine s_mov (.own 0 0 a_175.length) rfl<|s_mov (.int .i64 i_174) rfl<|s_do (o_iaddrown rfl rfl g239.1 g239.2 rfl rfl)<|s_q (.ptr 0 (0 + i_174.toNat) 6) rfl (.of trivial trivial) rfl<|s_do (o_loadhdr rfl rfl (getset (setget (setget (setget (setget (setget (setget ex215))))))) nle rfl)<|s_mov (.int .i64 r_235.1) rfl<|s_do (o_callm (o:=0) (l:=((((((a_175.set (0 + i_174.toNat) (⟨k_173,x_214.Table,x_214.Name,x_214.Where,x_214.Row,x_214.Muts,x_214.Columns,x_214.Until⟩:GOp)).set (0 + i_174.toNat) (⟨k_173,r_216,x_214.Name,x_214.Where,x_214.Row,x_214.Muts,x_214.Columns,x_214.Until⟩:GOp)).set (0 + i_174.toNat) (⟨k_173,r_216,r_219,x_214.Where,x_214.Row,x_214.Muts,x_214.Columns,x_214.Until⟩:GOp)).set (0 + i_174.toNat) (⟨k_173,r_216,r_219,r_225.2,x_214.Row,x_214.Muts,x_214.Columns,x_214.Until⟩:GOp)).set (0 + i_174.toNat) (⟨k_173,r_216,r_219,r_225.2,r_230.2,x_214.Muts,x_214.Columns,x_214.Until⟩:GOp)).set (0 + i_174.toNat) (⟨k_173,r_216,r_219,r_225.2,r_230.2,r_235.2,x_214.Columns,x_214.Until⟩:GOp))) (enc:=encGOp) (enc':=AV.str) (l'':=r_240.2) (y:=(⟨k_173,r_216,r_219,r_225.2,r_230.2,r_235.2,r_240.2,x_214.Until⟩:GOp)) (j:=6) (el:=(.agg [(.int .i64 k_173),(.str r_216),(.str r_219),(.lst 3 (r_225.2.map encGCond)),(.lst 3 (r_230.2.map encGSet)),(.lst 3 (r_235.2.map encGMut)),(.hdr v_238 1 (x_214.Columns.map AV.str)),(.bool x_214.Until)])) rfl rfl (w_laws_markStringS _ _ _ er241) rfl rfl (setget (setget (setget (setget (setget (setget ex215)))))) rfl (by decide) rfl)<|?_
    refine s_mov (.int .i64 r_240.1) rfl<|dk<|sr<|?_
    obtain ⟨g242,hc1⟩:=og hc1
    refine s_mov (.own 0 0 a_175.length) rfl<|s_mov (.int .i64 i_174) rfl<|s_mov (.int .i64 r_240.1) rfl<|s_q (.int .i64 (r_240.1.tmod 3)) rfl (.of ⟨rfl,by decide⟩ trivial) rfl<|s_q (.bool (r_240.1.tmod 3 == 0)) rfl (.of rfl trivial) rfl<|s_do (o_iaddrown rfl rfl g242.1 g242.2 rfl rfl)<|s_q (.ptr 0 (0 + i_174.toNat) 7) rfl (.of trivial trivial) rfl<|?_;refine s_do0 (o_storerow (v':=(.bool (r_240.1.tmod 3 == 0))) (e':=(⟨k_173,r_216,r_219,r_225.2,r_230.2,r_235.2,r_240.2,(r_240.1.tmod 3 == 0)⟩:GOp)) rfl rfl (setget (setget (setget (setget (setget (setget (setget ex215))))))) rfl rfl rfl (by decide) (fun _ => by decide) ⟨rfl,nle⟩ (.refl _) rfl) ?_;refine dk<|w_reg<|s_mov (.int .i64 r_240.1) rfl<|?_
    refine s_q (.int .i64 (w64 (r_240.1 + 1))) rfl (.of rfl trivial) rfl<|s_mov (.int .i64 (w64 (r_240.1 + 1))) rfl<|w_done<|k_blk<|k_seq<|w_reg<|s_mov (.int .i64 i_174) rfl<|s_q (.int .i64 (w64 (i_174 + 1))) rfl (.of rfl trivial) rfl<|s_mov (.int .i64 (w64 (i_174 + 1))) rfl<|w_done<|?_;exact k_loopn ⟨(k,w64 (r_240.1 + 1),w64 (i_174 + 1),(((((((a_175.set (0 + i_174.toNat) (⟨k_173,x_214.Table,x_214.Name,x_214.Where,x_214.Row,x_214.Muts,x_214.Columns,x_214.Until⟩:GOp)).set (0 + i_174.toNat) (⟨k_173,r_216,x_214.Name,x_214.Where,x_214.Row,x_214.Muts,x_214.Columns,x_214.Until⟩:GOp)).set (0 + i_174.toNat) (⟨k_173,r_216,r_219,x_214.Where,x_214.Row,x_214.Muts,x_214.Columns,x_214.Until⟩:GOp)).set (0 + i_174.toNat) (⟨k_173,r_216,r_219,r_225.2,x_214.Row,x_214.Muts,x_214.Columns,x_214.Until⟩:GOp)).set (0 + i_174.toNat) (⟨k_173,r_216,r_219,r_225.2,r_230.2,x_214.Muts,x_214.Columns,x_214.Until⟩:GOp)).set (0 + i_174.toNat) (⟨k_173,r_216,r_219,r_225.2,r_230.2,r_235.2,x_214.Columns,x_214.Until⟩:GOp)).set (0 + i_174.toNat) (⟨k_173,r_216,r_219,r_225.2,r_230.2,r_235.2,r_240.2,x_214.Until⟩:GOp)).set (0 + i_174.toNat) (⟨k_173,r_216,r_219,r_225.2,r_230.2,r_235.2,r_240.2,(r_240.1.tmod 3 == 0)⟩:GOp)),hc1⟩ (Nat.lt_succ_self _) ⟨[],[0],_,_,rfl,rfl,⟨.of_eq (congrArg (AV.own _ 0) (by simp)),⟨.refl _,⟨.refl _,trivial⟩⟩⟩,(.refl _)⟩
   ·refine w_condf rfl (bf c212)<|w_exit<|k_seqx<|k_loopx<|k_blkx<|?_;obtain rfl:=os hc1;exact ⟨[],[0],_,_,rfl,rfl,⟨.refl _,trivial⟩,(.refl _)⟩
 ·obtain ⟨k_208,l_209⟩:=p210
  refine sr<|s_mov (.int .i64 k_208) rfl<|s_mov (.int .i64 k_208) rfl<|dk<|w_ret<|?_;obtain rfl:=os hf;exact r_heap [] [0] rfl ⟨.of trivial trivial,trivial⟩ rfl (.refl _) (.refl _)

/- laws.markIntS -/
def c20_h0:ACode :=
 (.seq (.reg (tm 4 (.c (.int .i64 0)) .done))
 (.seq (.seq (.reg (tm 5 (.c (.int .i64 0)) .done))
 (.block 0 (.loop (.seq (.seq (.reg (tm 6 (.t 5) (tm 7 (.t 0) (tq 8 (.len (.t 7)) (tq 9 (.bin .lss (.t 6) (.t 8)) .done)))))
 (.cond (.t 9) .skip
 (.exit 0)))
 (.seq (.block 1 (.seq (.reg (tm 12 (.t 0) (tm 13 (.t 5) (tm 14 (.t 1) (tq 15 (.iaddr 1 (.t 12) (.t 13)) (.q ⟨none,none,.store 1 (.t 15) (.t 14)⟩
 .done))))))
 (.reg (tm 16 (.t 1) (tq 17 (.bin .add (.t 16) (.c (.int .i64 1))) (tm 1 (.t 17) .done))))))
 (.reg (tm 10 (.t 5) (tq 11 (.bin .add (.t 10) (.c (.int .i64 1))) (tm 5 (.t 11) .done)))))))))
 (.cut (.seq (.reg (tm 18 (.t 1) (tm 4 (.t 18) .done)))
 .ret))))
theorem fc20_h0:fcomp Tryz.prog Tryz.f20 = some (c20_h0.erase,[.mov (.t 4)],19):=by kernel_rfl
def laws_markIntS_L1 :Nat → Int → Int → (List Int) → Option (Int × (List Int))
  | 0,_,_,_ => none
  | k + 1,k_38,i_39,a_40 =>
    if (decide (i_39 < (a_40.length:Int))) then
    if 0 ≤ i_39 ∧ i_39 < (a_40.length:Int) then
    (a_40[(0 + i_39.toNat)]?).bind fun x_52 =>
    laws_markIntS_L1 k (w64 (k_38 + 1)) (w64 (i_39 + 1)) (a_40.set (0 + i_39.toNat) k_38)
    else none
    else
    some (k_38,a_40)

def laws_markIntS (a_1:(List Int)) (k_2:Int):Option (Int × (List Int)) :=
    (laws_markIntS_L1 FUEL k_2 0 a_1).bind fun p48 =>
    (match p48 with
    | (k_46,l_47) =>
    some (k_46,l_47))
theorem w_laws_markIntS (a_1:(List Int)) (k_2:Int) (r:(Int × (List Int))) (hf:laws_markIntS a_1 k_2 = some r):CallHeap Tryz.prog ⟨true,true⟩ 20 [(.own 0 0 a_1.length),(.int .i64 k_2)] [.row 1 (a_1.map encI)] (.int .i64 r.1) [.row 1 (r.2.map encI)]:=by
 refine CallHeap.of_awp mixed Tryz.func20 fc20_h0 nle ?_;rw [argT_eq];unfold laws_markIntS at hf;unfold c20_h0;refine (show awp Tryz.prog ⟨true,true⟩ 1 _ (ofL [(0,(.own 0 0 a_1.length)),(1,(.int .i64 k_2))]) [.row 1 (a_1.map encI)] _ from ?_);refine sr<|s_mov (.int .i64 0) rfl<|dk<|awp_seq<|sr<|s_mov (.int .i64 0) rfl<|dk<|?_
 obtain ⟨p48,hb1,hf⟩:=ob hf
 refine awp_cut ([(1,(.int .i64 p48.1))],[.row 1 (p48.2.map encI)]) ?_ ?_
 ·refine awp_loop (X:={q:(Nat × Int × Int × (List Int)) // laws_markIntS_L1 q.1 q.2.1 q.2.2.1 q.2.2.2 = some p48}) (fun q => ([(0,(.own 0 0 q.1.2.2.2.length)),(1,(.int .i64 q.1.2.1)),(5,(.int .i64 q.1.2.2.1))],[.row 1 (q.1.2.2.2.map encI)])) (fun q => q.1.1) ⟨(FUEL,k_2,0,a_1),hb1⟩ ⟨[],[0],_,_,rfl,rfl,⟨.refl _,⟨.refl _,⟨.refl _,trivial⟩⟩⟩,(.refl _)⟩ ?_
  rintro ⟨⟨k,k_38,i_39,a_40⟩,hc1⟩
  have hc1:laws_markIntS_L1 k k_38 i_39 a_40 = some p48:=hc1
  refine (show awp Tryz.prog ⟨true,true⟩ 1 _ (ofL [(0,(.own 0 0 a_40.length)),(1,(.int .i64 k_38)),(5,(.int .i64 i_39))]) [.row 1 (a_40.map encI)] _ from ?_)
  rcases k with _ | k
  ·rw [laws_markIntS_L1.eq_1] at hc1
   cases hc1
  ·rw [laws_markIntS_L1.eq_2] at hc1;refine awp_seq<|sr<|s_mov (.int .i64 i_39) rfl<|s_mov (.own 0 0 a_40.length) rfl<|s_dof (o_lenown rfl rfl) fun hl49 => s_q (.bool (decide (i_39 < (a_40.length:Int)))) rfl (.of rfl trivial) rfl<|dk<|?_
   rcases oi hc1 with ⟨c50,hc1⟩ | ⟨c50,hc1⟩
   ·refine w_condt rfl c50<|w_skip<|k_seq<|awp_seq<|w_blk<|sr<|?_
    obtain ⟨g51,hc1⟩:=og hc1
    obtain ⟨x_52,ex53,hc1⟩:=ob hc1
    refine s_mov (.own 0 0 a_40.length) rfl<|s_mov (.int .i64 i_39) rfl<|s_mov (.int .i64 k_38) rfl<|s_do (o_iaddrown rfl rfl g51.1 g51.2 rfl rfl)<|?_;refine s_do0 (o_storerow (v':=(.int .i64 k_38)) (e':=k_38) rfl rfl ex53 rfl rfl rfl (by decide) (fun _ => by decide) ⟨rfl,rfl,rfl⟩ (.refl _) rfl) ?_;refine dk<|w_reg<|s_mov (.int .i64 k_38) rfl<|s_q (.int .i64 (w64 (k_38 + 1))) rfl (.of rfl trivial) rfl<|s_mov (.int .i64 (w64 (k_38 + 1))) rfl<|w_done<|k_blk<|k_seq<|w_reg<|s_mov (.int .i64 i_39) rfl<|s_q (.int .i64 (w64 (i_39 + 1))) rfl (.of rfl trivial) rfl<|s_mov (.int .i64 (w64 (i_39 + 1))) rfl<|w_done<|?_;exact k_loopn ⟨(k,w64 (k_38 + 1),w64 (i_39 + 1),a_40.set (0 + i_39.toNat) k_38),hc1⟩ (Nat.lt_succ_self _) ⟨[],[0],_,_,rfl,rfl,⟨.of_eq (congrArg (AV.own _ 0) (by simp)),⟨.refl _,⟨.refl _,trivial⟩⟩⟩,(.refl _)⟩
   ·refine w_condf rfl (bf c50)<|w_exit<|k_seqx<|k_loopx<|k_blkx<|?_;obtain rfl:=os hc1;exact ⟨[],[0],_,_,rfl,rfl,⟨.refl _,trivial⟩,(.refl _)⟩
 ·obtain ⟨k_46,l_47⟩:=p48
  refine sr<|s_mov (.int .i64 k_46) rfl<|s_mov (.int .i64 k_46) rfl<|dk<|w_ret<|?_;obtain rfl:=os hf;exact r_heap [] [0] rfl ⟨.of trivial trivial,trivial⟩ rfl (.refl _) (.refl _)

/- laws.heldIntS -/
def c21:ACode :=
 (.seq (.reg (tm 4 (.c (.int .i64 0)) .done))
 (.seq (.seq (.reg (tm 5 (.c (.int .i64 0)) .done))
 (.block 0 (.loop (.seq (.seq (.reg (tm 6 (.t 5) (tm 7 (.t 0) (tq 8 (.len (.t 7)) (tq 9 (.bin .lss (.t 6) (.t 8)) .done)))))
 (.cond (.t 9) .skip
 (.exit 0)))
 (.seq (.block 1 (.seq (.seq (.reg (tm 12 (.t 0) (tm 13 (.t 5) (tq 14 (.iaddr 1 (.t 12) (.t 13)) (tq 15 (.load 1 false (.t 14)) (tm 16 (.t 1) (tq 17 (.bin .neq (.t 15) (.t 16)) .done)))))))
 (.cond (.t 17) (.seq (.reg (tq 4 (.mov (.c (.int .i64 (-1)))) .done))
 .ret)
 .skip))
 (.reg (tm 18 (.t 1) (tq 19 (.bin .add (.t 18) (.c (.int .i64 1))) (tm 1 (.t 19) .done))))))
 (.reg (tm 10 (.t 5) (tq 11 (.bin .add (.t 10) (.c (.int .i64 1))) (tm 5 (.t 11) .done)))))))))
 (.cut (.seq (.reg (tm 20 (.t 1) (tm 4 (.t 20) .done)))
 .ret))))
theorem fc21:fcomp Tryz.prog Tryz.f21 = some (c21.erase,[.mov (.t 4)],21):=by kernel_rfl
def laws_heldIntS_L1 :List Int → Int → Option (Fl Int Int)
  | [],k_15 =>
    some (.go k_15)
  | x_31 :: xs,k_15 =>
    if (x_31 != k_15) then
    some (.ret (-1))
    else
    laws_heldIntS_L1 xs (w64 (k_15 + 1)) 

def laws_heldIntS (a_1:(List Int)) (k_2:Int):Option Int :=
    (laws_heldIntS_L1 a_1 k_2).bind fun q => (match q with
    | .ret r => some r
    | .go k_23 =>
    some k_23)
theorem w_laws_heldIntS (a_1:(List Int)) (k_2:Int) (r:Int) (hf:laws_heldIntS a_1 k_2 = some r):CallOK Tryz.prog 21 .flat [(.lst 1 (a_1.map encI)),(.int .i64 k_2)] (.int .i64 r):=by
 refine CallOK.of_awp mixed Tryz.func21 fc21 nle ?_;rw [argT_eq];unfold laws_heldIntS at hf;unfold c21;refine (show awp Tryz.prog false 0 _ (ofL [(0,(.lst 1 (a_1.map encI))),(1,(.int .i64 k_2))]) [] _ from ?_);refine sr<|s_mov (.int .i64 0) rfl<|dk<|awp_seq<|sr<|s_mov (.int .i64 0) rfl<|dk<|?_
 obtain ⟨p24,hb1,hf⟩:=ob hf
 refine awp_cutx (X:={q:Int // p24 = .go q}) (fun q => ([(1,(.int .i64 q.1))],[])) ?_ ?_
 ·refine awp_loop (X:={q:(Int × Nat) // laws_heldIntS_L1 (a_1.drop q.2) q.1 = some p24}) (fun q => ([(0,(.lst 1 (a_1.map encI))),(1,(.int .i64 q.1.1)),(5,(.int .i64 (q.1.2:Int)))],[])) (fun q => a_1.length - q.1.2) ⟨(k_2,0),hb1⟩ ⟨[],[],_,_,rfl,rfl,⟨.refl _,⟨.refl _,⟨.refl _,trivial⟩⟩⟩,(.refl _)⟩ ?_
  rintro ⟨⟨k_15,i_16⟩,hc1⟩
  have hc1:laws_heldIntS_L1 (a_1.drop i_16) k_15 = some p24:=hc1
  refine (show awp Tryz.prog false 0 _ (ofL [(0,(.lst 1 (a_1.map encI))),(1,(.int .i64 k_15)),(5,(.int .i64 (i_16:Int)))]) [] _ from ?_)
  rcases dropc a_1 i_16 with ⟨hie27,hd30⟩ | ⟨hlt25,x_31,hx26,hd30⟩
  ·rw [hd30,laws_heldIntS_L1.eq_1] at hc1
   have hq29:=dlf hie27
   refine awp_seq<|sr<|s_mov (.int .i64 (i_16:Int)) rfl<|s_mov (.lst 1 (a_1.map encI)) rfl<|s_dof (o_len (enc:=encI) rfl) fun hl32 => s_q (.bool (decide ((i_16:Int) < (a_1.length:Int)))) rfl rfl rfl<|dk<|w_condf rfl hq29<|w_exit<|k_seqx<|k_loopx<|k_blkx<|?_;obtain rfl:=os hc1;exact k_cutn ⟨_,rfl⟩ ⟨[],[],_,_,rfl,rfl,⟨.refl _,trivial⟩,(.refl _)⟩
  ·rw [hd30,laws_heldIntS_L1.eq_2] at hc1
   have hq29:=dlt hlt25
   refine awp_seq<|sr<|s_mov (.int .i64 (i_16:Int)) rfl<|s_mov (.lst 1 (a_1.map encI)) rfl<|s_dof (o_len (enc:=encI) rfl) fun hl33 => s_q (.bool (decide ((i_16:Int) < (a_1.length:Int)))) rfl rfl rfl<|dk<|w_condt rfl hq29<|w_skip<|k_seq<|awp_seq<|w_blk<|awp_seq<|sr<|s_mov (.lst 1 (a_1.map encI)) rfl<|s_mov (.int .i64 (i_16:Int)) rfl<|s_do (o_iaddrn (enc:=encI) rfl rfl hx26)<|s_q (.int .i64 x_31) rfl ⟨rfl,rfl⟩ rfl<|s_mov (.int .i64 k_15) rfl<|s_q (.bool (x_31 != k_15)) rfl rfl rfl<|dk<|?_
   rcases oi hc1 with ⟨c34,hc1⟩ | ⟨c34,hc1⟩
   ·refine w_condt rfl c34<|sr<|s_mov (.int .i64 (-1)) rfl<|dk<|w_ret<|?_;obtain rfl:=os hc1;obtain rfl:=os hf;exact r_flat ⟨trivial,trivial⟩ rfl (.refl _)
   ·refine w_condf rfl (bf c34)<|w_skip<|k_seq<|w_reg<|s_mov (.int .i64 k_15) rfl<|s_q (.int .i64 (w64 (k_15 + 1))) rfl rfl rfl<|s_mov (.int .i64 (w64 (k_15 + 1))) rfl<|w_done<|k_blk<|k_seq<|w_reg<|s_mov (.int .i64 (i_16:Int)) rfl<|s_q (.int .i64 (w64 ((i_16:Int) + 1))) rfl rfl rfl<|s_mov (.int .i64 (w64 ((i_16:Int) + 1))) rfl<|w_done<|?_;exact k_loopn ⟨(w64 (k_15 + 1),(i_16 + 1)),hc1⟩ (mul hlt25) ⟨[],[],_,_,rfl,rfl,⟨.refl _,⟨.refl _,⟨.of_eq (congrArg (AV.int _) (w64_incr hlt25 hl33)),trivial⟩⟩⟩,(.refl _)⟩
 ·rintro ⟨k_23,rfl⟩
  refine sr<|s_mov (.int .i64 k_23) rfl<|s_mov (.int .i64 k_23) rfl<|dk<|w_ret<|?_;obtain rfl:=os hf;exact r_flat ⟨trivial,trivial⟩ rfl (.refl _)

/- laws.FnExactInsertIds -/
def c4:ACode :=
 (.seq (.reg (tm 4 (.c (.bool false)) .done))
 (.seq (.reg (tm 5 (.c (.int .i64 1048576)) .done))
 (.seq (.reg (tm 16 (.t 0) (tm 17 (.t 5) (tq 18 (.call 13 [(.t 16),(.t 17)]) (tm 5 (.t 18) .done)))))
 (.seq (.seq (.reg (tm 19 (.t 5) (tq 20 (.bin .lss (.t 19) (.c (.int .i64 0))) .done)))
 (.cond (.t 20) (.seq (.reg (tm 4 (.c (.bool true)) .done))
 .ret)
 .skip))
 (.seq (.reg (tm 22 (.t 0) (tq 23 (.call 15 [(.t 22)]) (tm 24 (.t 1) (tq 25 (.call 14 [(.t 23),(.t 24)]) (tm 21 (.t 25) (tq 26 (.extract 0 (.t 21)) (tq 27 (.extract 1 (.t 21)) (tm 6 (.t 26) (tm 7 (.t 27) .done))))))))))
 (.seq (.reg (tm 28 (.t 0) (tq 29 (.call 15 [(.t 28)]) (tm 8 (.t 29) .done))))
 (.seq (.reg (tm 31 (.t 8) (tm 32 (.t 1) (tq 33 (.call 16 [(.t 31),(.t 32)]) (tm 30 (.t 33) (tq 34 (.extract 0 (.t 30)) (tq 35 (.extract 1 (.t 30)) (tm 9 (.t 34) (tm 10 (.t 35) .done)))))))))
 (.seq (.seq (.reg (tm 36 (.t 9) (tm 37 (.t 6) (tq 38 (.call 17 [(.t 36),(.t 37)]) (tq 39 (.not (.t 38)) (tm 40 (.t 39) (tg 41 40 false (.mov (.t 10)) (tg 42 40 false (.mov (.t 7)) (tg 43 40 false (.bin .neq (.t 41) (.t 42)) (tq 44 (.pick (.t 40) (.c (.bool true)) (.t 43)) .done))))))))))
 (.cut (.cond (.t 44) (.seq (.reg (tm 4 (.c (.bool false)) .done))
 .ret)
 .skip)))
 (.seq (.seq (.reg (tm 45 (.t 8) (tm 46 (.t 0) (tq 47 (.call 15 [(.t 46)]) (tq 48 (.call 18 [(.t 45),(.t 47)]) (tq 49 (.not (.t 48)) .done))))))
 (.cond (.t 49) (.seq (.reg (tm 4 (.c (.bool false)) .done))
 .ret)
 .skip))
 (.seq (.reg (tm 11 (.c (.int .i64 1)) .done))
 (.seq (.reg (tm 50 (.t 8) (tm 51 (.t 11) (tq 52 (.call 19 [(.t 50),(.t 51)]) (tm 11 (.t 52) .done)))))
 (.seq (.seq (.reg (tm 53 (.t 11) (tq 54 (.bin .lss (.t 53) (.c (.int .i64 0))) (tm 55 (.t 54) (tg 56 55 false (.mov (.t 9)) (tg 57 55 false (.mov (.t 6)) (tg 58 55 false (.call 17 [(.t 56),(.t 57)]) (tg 59 55 false (.not (.t 58)) (tq 60 (.pick (.t 55) (.c (.bool true)) (.t 59)) (tm 61 (.t 60) (tg 62 61 false (.mov (.t 10)) (tg 63 61 false (.mov (.t 7)) (tg 64 61 false (.bin .neq (.t 62) (.t 63)) (tq 65 (.pick (.t 61) (.c (.bool true)) (.t 64)) .done))))))))))))))
 (.cut (.cond (.t 65) (.seq (.reg (tm 4 (.c (.bool false)) .done))
 .ret)
 .skip)))
 (.seq (.reg (tm 12 (.c (.int .i64 1)) .done))
 (.seq (.reg (tm 66 (.t 9) (tm 67 (.t 12) (tq 68 (.call 20 [(.t 66),(.t 67)]) (tm 12 (.t 68) .done)))))
 (.seq (.reg (tm 13 (.c (.int .i64 1)) .done))
 (.seq (.reg (tm 69 (.t 9) (tm 70 (.t 13) (tq 71 (.call 21 [(.t 69),(.t 70)]) (tm 13 (.t 71) .done)))))
 (.seq (.seq (.reg (tm 72 (.t 13) (tq 73 (.bin .lss (.t 72) (.c (.int .i64 0))) .done)))
 (.cond (.t 73) (.seq (.reg (tm 4 (.c (.bool false)) .done))
 .ret)
 .skip))
 (.seq (.seq (.reg (tm 74 (.t 13) (tm 75 (.t 12) (tq 76 (.bin .neq (.t 74) (.t 75)) .done))))
 (.cond (.t 76) (.seq (.reg (tm 4 (.c (.bool false)) .done))
 .ret)
 .skip))
 (.seq (.reg (tm 78 (.t 0) (tq 79 (.call 15 [(.t 78)]) (tm 80 (.t 1) (tq 81 (.call 16 [(.t 79),(.t 80)]) (tm 77 (.t 81) (tq 82 (.extract 0 (.t 77)) (tq 83 (.extract 1 (.t 77)) (tm 14 (.t 82) (tm 15 (.t 83) .done))))))))))
 (.seq (.seq (.reg (tm 84 (.t 14) (tm 85 (.t 6) (tq 86 (.call 17 [(.t 84),(.t 85)]) (tq 87 (.not (.t 86)) (tm 88 (.t 87) (tg 89 88 false (.mov (.t 15)) (tg 90 88 false (.mov (.t 7)) (tg 91 88 false (.bin .neq (.t 89) (.t 90)) (tq 92 (.pick (.t 88) (.c (.bool true)) (.t 91)) .done))))))))))
 (.cut (.cond (.t 92) (.seq (.reg (tm 4 (.c (.bool false)) .done))
 .ret)
 .skip)))
 (.seq (.reg (tm 13 (.c (.int .i64 1)) .done))
 (.seq (.reg (tm 93 (.t 9) (tm 94 (.t 13) (tq 95 (.call 21 [(.t 93),(.t 94)]) (tm 13 (.t 95) .done)))))
 (.seq (.seq (.reg (tm 96 (.t 13) (tq 97 (.bin .lss (.t 96) (.c (.int .i64 0))) .done)))
 (.cond (.t 97) (.seq (.reg (tm 4 (.c (.bool false)) .done))
 .ret)
 .skip))
 (.seq (.seq (.reg (tm 98 (.t 13) (tm 99 (.t 12) (tq 100 (.bin .neq (.t 98) (.t 99)) .done))))
 (.cond (.t 100) (.seq (.reg (tm 4 (.c (.bool false)) .done))
 .ret)
 .skip))
 (.seq (.reg (tm 4 (.c (.bool true)) .done))
 .ret)))))))))))))))))))))))))
theorem fc4:fcomp Tryz.prog Tryz.f4 = some (c4.erase,[.mov (.t 4)],101):=by kernel_rfl
def laws_FnExactInsertIds (aOps_1:(List GOp)) (aNext_2:Int):Option Bool :=
    (laws_szOpS aOps_1 1048576).bind fun r_3 =>
    if (decide (r_3 < 0)) then
    some true
    else
    (laws_toOpS aOps_1).bind fun r_6 =>
    (spec_InsertIds r_6 aNext_2).bind fun r_8 =>
    (laws_toOpS aOps_1).bind fun r_10 =>
    (impl_InsertIds r_10 aNext_2).bind fun r_12 =>
    (((laws_eqIntS r_12.1 r_8.1).bind fun r_19 =>
    if (!r_19) then
    some true
    else
    some (r_12.2 != r_8.2):Option Bool)).bind fun s44_17 =>
    if s44_17 then
    some false
    else
    (laws_toOpS aOps_1).bind fun r_23 =>
    (laws_eqOpS r_10 r_23).bind fun r_25 =>
    if (!r_25) then
    some false
    else
    (laws_markOpS r_10 1).bind fun r_28 =>
    ((if (decide (r_28.1 < 0)) then
    some true
    else
    (laws_eqIntS r_12.1 r_8.1).bind fun r_37 =>
    some (bif (!r_37) then true else (r_12.2 != r_8.2)):Option Bool)).bind fun s65_34 =>
    if s65_34 then
    some false
    else
    (laws_markIntS r_12.1 1).bind fun r_40 =>
    (laws_heldIntS r_40.2 1).bind fun r_43 =>
    if (decide (r_43 < 0)) then
    some false
    else
    if (r_43 != r_40.1) then
    some false
    else
    (laws_toOpS aOps_1).bind fun r_47 =>
    (impl_InsertIds r_47 aNext_2).bind fun r_49 =>
    (((laws_eqIntS r_49.1 r_8.1).bind fun r_56 =>
    if (!r_56) then
    some true
    else
    some (r_49.2 != r_8.2):Option Bool)).bind fun s92_54 =>
    if s92_54 then
    some false
    else
    (laws_heldIntS r_40.2 1).bind fun r_60 =>
    if (decide (r_60 < 0)) then
    some false
    else
    if (r_60 != r_40.1) then
    some false
    else
    some true
theorem w_laws_FnExactInsertIds (aOps_1:(List GOp)) (aNext_2:Int) (r:Bool) (hf:laws_FnExactInsertIds aOps_1 aNext_2 = some r):CallOK Tryz.prog 4 .flat [(.lst 8 (aOps_1.map encGOp)),(.int .i64 aNext_2)] (.bool r):=by
 refine CallOK.of_awp' (md:=⟨true,true⟩) (fun _ => rfl) (fun h => by cases h) (fun h => by cases h) mixed Tryz.func4 fc4 nle ?_;rw [argT_eq];unfold laws_FnExactInsertIds at hf;unfold c4;refine (show awp Tryz.prog ⟨true,true⟩ 0 _ (ofL [(0,(.lst 8 (aOps_1.map encGOp))),(1,(.int .i64 aNext_2))]) [] _ from ?_);refine sr<|s_mov (.bool false) rfl<|dk<|sr<|s_mov (.int .i64 1048576) rfl<|dk<|sr<|?_
 obtain ⟨r_3,er4,hf⟩:=ob hf
 refine s_mov (.lst 8 (aOps_1.map encGOp)) rfl<|s_mov (.int .i64 1048576) rfl<|s_do (o_call (w_laws_szOpS _ _ _ er4) rfl (.refl _) rfl)<|s_mov (.int .i64 r_3) rfl<|dk<|awp_seq<|sr<|s_mov (.int .i64 r_3) rfl<|s_q (.bool (decide (r_3 < 0))) rfl (.of rfl trivial) rfl<|dk<|?_
 rcases oi hf with ⟨c5,hf⟩ | ⟨c5,hf⟩
 ·refine w_condt rfl c5<|sr<|s_mov (.bool true) rfl<|dk<|w_ret<|?_;obtain rfl:=os hf;exact r_flat ⟨.of trivial trivial,trivial⟩ rfl (.refl _)
 ·refine w_condf rfl (bf c5)<|w_skip<|k_seq<|sr<|?_
  obtain ⟨r_6,er7,hf⟩:=ob hf
  obtain ⟨r_8,er9,hf⟩:=ob hf
  refine s_mov (.lst 8 (aOps_1.map encGOp)) rfl<|s_do (o_callf (v:=(.own 0 0 r_6.length)) (h':=[.row 8 (r_6.map encGOp)]) (w_laws_toOpS _ _ er7) rfl (.refl _) (by simp only [openV,openVs,List.length_map,List.nil_append,List.append_nil,List.cons_append];rfl))<|s_mov (.int .i64 aNext_2) rfl<|s_do (o_callf (v:=(.tup [(.own 1 0 r_8.1.length),(.int .i64 r_8.2)])) (h':=[.row 1 (r_8.1.map encI)]) (w_spec_InsertIds _ _ _ er9) rfl (.cons (.of_eq (congrArg (AV.lst _) (tko r_6))) (.cons (.refl _) .nil)) (by simp only [openV,openVs,List.length_map,List.nil_append,List.append_nil,List.cons_append];rfl))<|s_mov (.tup [(.own 1 0 r_8.1.length),(.int .i64 r_8.2)]) rfl<|s_q (.own 1 0 r_8.1.length) rfl (.of nle trivial) rfl<|?_
  refine s_q (.int .i64 r_8.2) rfl (.of nle trivial) rfl<|s_mov (.own 1 0 r_8.1.length) rfl<|s_mov (.int .i64 r_8.2) rfl<|dk<|sr<|?_
  obtain ⟨r_10,er11,hf⟩:=ob hf
  refine s_mov (.lst 8 (aOps_1.map encGOp)) rfl<|s_do (o_callf (v:=(.own 2 0 r_10.length)) (h':=[.row 8 (r_10.map encGOp)]) (w_laws_toOpS _ _ er11) rfl (.refl _) (by simp only [openV,openVs,List.length_map,List.nil_append,List.append_nil,List.cons_append];rfl))<|s_mov (.own 2 0 r_10.length) rfl<|dk<|sr<|?_
  obtain ⟨r_12,er13,hf⟩:=ob hf
  refine s_mov (.own 2 0 r_10.length) rfl<|s_mov (.int .i64 aNext_2) rfl<|s_do (o_callf (v:=(.tup [(.own 3 0 r_12.1.length),(.int .i64 r_12.2)])) (h':=[.row 1 (r_12.1.map encI)]) (w_impl_InsertIds _ _ _ er13) rfl (.cons (.of_eq (congrArg (AV.lst _) (tko r_10))) (.cons (.refl _) .nil)) (by simp only [openV,openVs,List.length_map,List.nil_append,List.append_nil,List.cons_append];rfl))<|s_mov (.tup [(.own 3 0 r_12.1.length),(.int .i64 r_12.2)]) rfl<|s_q (.own 3 0 r_12.1.length) rfl (.of nle trivial) rfl<|s_q (.int .i64 r_12.2) rfl (.of nle trivial) rfl<|s_mov (.own 3 0 r_12.1.length) rfl<|s_mov (.int .i64 r_12.2) rfl<|dk<|awp_seq<|awp_seq<|?_
  obtain ⟨s44_17,hb1,hf⟩:=ob hf
  refine awp_cut ([(0,(.lst 8 (aOps_1.map encGOp))),(1,(.int .i64 aNext_2)),(6,(.own 0 0 r_8.1.length)),(7,(.int .i64 r_8.2)),(8,(.own 1 0 r_10.length)),(9,(.own 2 0 r_12.1.length)),(10,(.int .i64 r_12.2)),(44,(.bool s44_17))],[.row 1 (r_8.1.map encI),.row 8 (r_10.map encGOp),.row 1 (r_12.1.map encI)]) ?_ ?_
  ·refine w_reg ?_
   obtain ⟨r_19,er20,hb1⟩:=ob hb1
   rcases oi hb1 with ⟨c21,hb1⟩ | ⟨c21,hb1⟩
   ·refine s_mov (.own 3 0 r_12.1.length) rfl<|s_mov (.own 1 0 r_8.1.length) rfl<|s_do (o_call (w_laws_eqIntS _ _ _ er20) rfl (.cons (.of_eq (congrArg (AV.lst _) (tko r_12.1))) (.cons (.of_eq (congrArg (AV.lst _) (tko r_8.1))) .nil)) rfl)<|s_q (.bool (!r_19)) rfl (.of trivial trivial) rfl<|s_mov (.bool (!r_19)) rfl<|s_lit (s:=40) (b:=true) rfl c21<|s_off rfl rfl<|s_off rfl rfl<|s_off rfl rfl<|s_q (.bool true) rfl (.of trivial trivial) rfl<|w_done<|?_;obtain rfl:=os hb1;exact ⟨[],[1,2,3],_,_,rfl,rfl,⟨.refl _,⟨.refl _,⟨.refl _,⟨.refl _,⟨.refl _,⟨.refl _,⟨.refl _,⟨.refl _,trivial⟩⟩⟩⟩⟩⟩⟩⟩,(.refl _)⟩
   ·refine s_mov (.own 3 0 r_12.1.length) rfl<|s_mov (.own 1 0 r_8.1.length) rfl<|s_do (o_call (w_laws_eqIntS _ _ _ er20) rfl (.cons (.of_eq (congrArg (AV.lst _) (tko r_12.1))) (.cons (.of_eq (congrArg (AV.lst _) (tko r_8.1))) .nil)) rfl)<|s_q (.bool (!r_19)) rfl (.of trivial trivial) rfl<|s_mov (.bool (!r_19)) rfl<|s_lit (s:=40) (b:=false) rfl (bf c21)<|s_on rfl<|s_mov (.int .i64 r_12.2) rfl<|s_on rfl<|s_mov (.int .i64 r_8.2) rfl<|s_on rfl<|s_q (.bool (r_12.2 != r_8.2)) rfl (.of rfl trivial) rfl<|s_q (.bool (r_12.2 != r_8.2)) rfl (.of trivial trivial) rfl<|w_done<|?_;obtain rfl:=os hb1;exact ⟨[],[1,2,3],_,_,rfl,rfl,⟨.refl _,⟨.refl _,⟨.refl _,⟨.refl _,⟨.refl _,⟨.refl _,⟨.refl _,⟨.refl _,trivial⟩⟩⟩⟩⟩⟩⟩⟩,(.refl _)⟩
  ·rcases oi hf with ⟨c22,hf⟩ | ⟨c22,hf⟩
   ·refine w_condt rfl c22<|sr<|s_mov (.bool false) rfl<|dk<|w_ret<|?_;obtain rfl:=os hf;exact r_flat ⟨.of trivial trivial,trivial⟩ rfl (.refl _)
   ·refine w_condf rfl (bf c22)<|w_skip<|k_seq<|awp_seq<|sr<|?_
    obtain ⟨r_23,er24,hf⟩:=ob hf
    obtain ⟨r_25,er26,hf⟩:=ob hf
    refine s_mov (.own 1 0 r_10.length) rfl<|s_mov (.lst 8 (aOps_1.map encGOp)) rfl<|s_do (o_callf (v:=(.own 3 0 r_23.length)) (h':=[.row 8 (r_23.map encGOp)]) (w_laws_toOpS _ _ er24) rfl (.refl _) (by simp only [openV,openVs,List.length_map,List.nil_append,List.append_nil,List.cons_append];rfl))<|s_do (o_call (w_laws_eqOpS _ _ _ er26) rfl (.cons (.of_eq (congrArg (AV.lst _) (tko r_10))) (.cons (.of_eq (congrArg (AV.lst _) (tko r_23))) .nil)) rfl)<|s_q (.bool (!r_25)) rfl (.of trivial trivial) rfl<|dk<|?_
    rcases oi hf with ⟨c27,hf⟩ | ⟨c27,hf⟩
    ·refine w_condt rfl c27<|sr<|s_mov (.bool false) rfl<|dk<|w_ret<|?_;obtain rfl:=os hf;exact r_flat ⟨.of trivial trivial,trivial⟩ rfl (.refl _)
    ·refine w_condf rfl (bf c27)<|w_skip<|k_seq<|sr<|s_mov (.int .i64 1) rfl<|dk<|sr<|?_
     obtain ⟨r_28,er29,hf⟩:=ob hf
     refine s_mov (.own 1 0 r_10.length) rfl<|s_mov (.int .i64 1) rfl<|?_;refine s_dof (o_callhs (v:=(.int .i64 r_28.1)) (h2:=[.row 1 (r_8.1.map encI),.row 8 (r_28.2.map encGOp),.row 1 (r_12.1.map encI),.row 8 (r_23.map encGOp)]) [] [1] (fun _ => rfl) (w_laws_markOpS _ _ _ er29) rfl (.refl _) (.refl _) rfl rfl) fun hl30 => ?_;refine s_mov (.int .i64 r_28.1) rfl<|dk<|awp_seq<|awp_seq<|?_
     obtain ⟨s65_34,hb1,hf⟩:=ob hf
     refine awp_cut ([(0,(.lst 8 (aOps_1.map encGOp))),(1,(.int .i64 aNext_2)),(6,(.own 0 0 r_8.1.length)),(7,(.int .i64 r_8.2)),(9,(.own 1 0 r_12.1.length)),(65,(.bool s65_34))],[.row 1 (r_8.1.map encI),.row 1 (r_12.1.map encI)]) ?_ ?_
     ·refine w_reg<|s_mov (.int .i64 r_28.1) rfl<|s_q (.bool (decide (r_28.1 < 0))) rfl (.of rfl trivial) rfl<|s_mov (.bool (decide (r_28.1 < 0))) rfl<|?_
      rcases oi hb1 with ⟨c36,hb1⟩ | ⟨c36,hb1⟩
      ·refine s_lit (s:=55) (b:=true) rfl c36<|s_off rfl rfl<|s_off rfl rfl<|s_off rfl rfl<|s_off rfl rfl<|s_q (.bool true) rfl (.of trivial trivial) rfl<|s_mov (.bool true) rfl<|s_off rfl rfl<|s_off rfl rfl<|s_off rfl rfl<|s_q (.bool true) rfl (.of trivial trivial) rfl<|w_done<|?_;obtain rfl:=os hb1;exact ⟨[],[0,2],_,_,rfl,rfl,⟨.refl _,⟨.refl _,⟨.refl _,⟨.refl _,⟨.refl _,⟨.refl _,trivial⟩⟩⟩⟩⟩⟩,(.refl _)⟩
      ·refine s_lit (s:=55) (b:=false) rfl (bf c36)<|s_on rfl<|s_mov (.own 2 0 r_12.1.length) rfl<|s_on rfl<|s_mov (.own 0 0 r_8.1.length) rfl<|s_on rfl<|?_
       obtain ⟨r_37,er38,hb1⟩:=ob hb1
       refine s_do (o_call (w_laws_eqIntS _ _ _ er38) rfl (.cons (.of_eq (congrArg (AV.lst _) (tko r_12.1))) (.cons (.of_eq (congrArg (AV.lst _) (tko r_8.1))) .nil)) rfl)<|s_on rfl<|s_q (.bool (!r_37)) rfl (.of trivial trivial) rfl<|s_q (.bool (!r_37)) rfl (.of trivial trivial) rfl<|s_mov (.bool (!r_37)) rfl<|?_;refine s_g (v:=(!r_37)) (.int .i64 r_12.2) rfl (fun hv => by (try simp only [gs_on hv]);exact ⟨rfl,.of trivial trivial,rfl⟩) ?_;refine s_g (v:=(!r_37)) (.int .i64 r_8.2) rfl (fun hv => by (try simp only [gs_on hv]);exact ⟨rfl,.of trivial trivial,rfl⟩) ?_;refine s_g (v:=(!r_37)) (.bool (r_12.2 != r_8.2)) rfl (fun hv => by (try simp only [gs_on hv]);exact ⟨rfl,(.of rfl trivial),rfl⟩) ?_
       refine s_pick (x:=true) (y:=(r_12.2 != r_8.2)) rfl (fun hv => by (try simp only [gs_on hv]);rfl) (fun hv => by (try simp only [gs_on hv]);rfl) ?_;refine w_done ?_;obtain rfl:=os hb1;exact ⟨[],[0,2],_,_,rfl,rfl,⟨.refl _,⟨.refl _,⟨.refl _,⟨.refl _,⟨.refl _,⟨.refl _,trivial⟩⟩⟩⟩⟩⟩,(.refl _)⟩
     ·rcases oi hf with ⟨c39,hf⟩ | ⟨c39,hf⟩
      ·refine w_condt rfl c39<|sr<|s_mov (.bool false) rfl<|dk<|w_ret<|?_;obtain rfl:=os hf;exact r_flat ⟨.of trivial trivial,trivial⟩ rfl (.refl _)
      ·refine w_condf rfl (bf c39)<|w_skip<|k_seq<|sr<|s_mov (.int .i64 1) rfl<|dk<|sr<|?_
       obtain ⟨r_40,er41,hf⟩:=ob hf
       refine s_mov (.own 1 0 r_12.1.length) rfl<|s_mov (.int .i64 1) rfl<|?_;refine s_dof (o_callhs (v:=(.int .i64 r_40.1)) (h2:=[.row 1 (r_8.1.map encI),.row 1 (r_40.2.map encI)]) [] [1] (fun _ => rfl) (w_laws_markIntS _ _ _ er41) rfl (.refl _) (.refl _) rfl rfl) fun hl42 => ?_;refine s_mov (.int .i64 r_40.1) rfl<|dk<|sr<|s_mov (.int .i64 1) rfl<|dk<|sr<|?_
       obtain ⟨r_43,er44,hf⟩:=ob hf
       refine s_mov (.own 1 0 r_12.1.length) rfl<|s_mov (.int .i64 1) rfl<|s_do (o_call (w_laws_heldIntS _ _ _ er44) rfl (.cons (.of_eq (congrArg (AV.lst _) (tkol (hl42 0 _ _ _ _ rfl rfl)))) (.cons (.refl _) .nil)) rfl)<|s_mov (.int .i64 r_43) rfl<|dk<|awp_seq<|sr<|s_mov (.int .i64 r_43) rfl<|s_q (.bool (decide (r_43 < 0))) rfl (.of rfl trivial) rfl<|dk<|?_
       rcases oi hf with ⟨c45,hf⟩ | ⟨c45,hf⟩
       ·refine w_condt rfl c45<|sr<|s_mov (.bool false) rfl<|dk<|w_ret<|?_;obtain rfl:=os hf;exact r_flat ⟨.of trivial trivial,trivial⟩ rfl (.refl _)
       ·refine w_condf rfl (bf c45)<|w_skip<|k_seq<|awp_seq<|sr<|s_mov (.int .i64 r_43) rfl<|s_mov (.int .i64 r_40.1) rfl<|s_q (.bool (r_43 != r_40.1)) rfl (.of rfl trivial) rfl<|dk<|?_
        rcases oi hf with ⟨c46,hf⟩ | ⟨c46,hf⟩
        ·refine w_condt rfl c46<|sr<|s_mov (.bool false) rfl<|dk<|w_ret<|?_;obtain rfl:=os hf;exact r_flat ⟨.of trivial trivial,trivial⟩ rfl (.refl _)
        ·refine w_condf rfl (bf c46)<|w_skip<|k_seq<|sr<|?_
         obtain ⟨r_47,er48,hf⟩:=ob hf
         obtain ⟨r_49,er50,hf⟩:=ob hf
         refine s_mov (.lst 8 (aOps_1.map encGOp)) rfl<|s_do (o_callf (v:=(.own 2 0 r_47.length)) (h':=[.row 8 (r_47.map encGOp)]) (w_laws_toOpS _ _ er48) rfl (.refl _) (by simp only [openV,openVs,List.length_map,List.nil_append,List.append_nil,List.cons_append];rfl))<|s_mov (.int .i64 aNext_2) rfl<|s_do (o_callf (v:=(.tup [(.own 3 0 r_49.1.length),(.int .i64 r_49.2)])) (h':=[.row 1 (r_49.1.map encI)]) (w_impl_InsertIds _ _ _ er50) rfl (.cons (.of_eq (congrArg (AV.lst _) (tko r_47))) (.cons (.refl _) .nil)) (by simp only [openV,openVs,List.length_map,List.nil_append,List.append_nil,List.cons_append];rfl))<|s_mov (.tup [(.own 3 0 r_49.1.length),(.int .i64 r_49.2)]) rfl<|s_q (.own 3 0 r_49.1.length) rfl (.of nle trivial) rfl<|?_
         refine s_q (.int .i64 r_49.2) rfl (.of nle trivial) rfl<|s_mov (.own 3 0 r_49.1.length) rfl<|s_mov (.int .i64 r_49.2) rfl<|dk<|awp_seq<|awp_seq<|?_
         obtain ⟨s92_54,hb1,hf⟩:=ob hf
         refine awp_cut ([(9,(.own 0 0 r_40.2.length)),(12,(.int .i64 r_40.1)),(92,(.bool s92_54))],[.row 1 (r_40.2.map encI)]) ?_ ?_
         ·refine w_reg ?_
          obtain ⟨r_56,er57,hb1⟩:=ob hb1
          rcases oi hb1 with ⟨c58,hb1⟩ | ⟨c58,hb1⟩
          ·refine s_mov (.own 3 0 r_49.1.length) rfl<|s_mov (.own 0 0 r_8.1.length) rfl<|s_do (o_call (w_laws_eqIntS _ _ _ er57) rfl (.cons (.of_eq (congrArg (AV.lst _) (tko r_49.1))) (.cons (.of_eq (congrArg (AV.lst _) (tko r_8.1))) .nil)) rfl)<|s_q (.bool (!r_56)) rfl (.of trivial trivial) rfl<|s_mov (.bool (!r_56)) rfl<|s_lit (s:=88) (b:=true) rfl c58<|s_off rfl rfl<|s_off rfl rfl<|s_off rfl rfl<|s_q (.bool true) rfl (.of trivial trivial) rfl<|w_done<|?_;obtain rfl:=os hb1;exact ⟨[],[1],_,_,rfl,rfl,⟨.of_eq (congrArg (AV.own _ 0) (by have h:=(hl42 0 _ _ _ _ rfl rfl);simpa using h.symm)),⟨.refl _,⟨.refl _,trivial⟩⟩⟩,(.refl _)⟩
          ·refine s_mov (.own 3 0 r_49.1.length) rfl<|s_mov (.own 0 0 r_8.1.length) rfl<|s_do (o_call (w_laws_eqIntS _ _ _ er57) rfl (.cons (.of_eq (congrArg (AV.lst _) (tko r_49.1))) (.cons (.of_eq (congrArg (AV.lst _) (tko r_8.1))) .nil)) rfl)<|s_q (.bool (!r_56)) rfl (.of trivial trivial) rfl<|s_mov (.bool (!r_56)) rfl<|s_lit (s:=88) (b:=false) rfl (bf c58)<|s_on rfl<|s_mov (.int .i64 r_49.2) rfl<|s_on rfl<|s_mov (.int .i64 r_8.2) rfl<|s_on rfl<|s_q (.bool (r_49.2 != r_8.2)) rfl (.of rfl trivial) rfl<|s_q (.bool (r_49.2 != r_8.2)) rfl (.of trivial trivial) rfl<|w_done<|?_;obtain rfl:=os hb1;exact ⟨[],[1],_,_,rfl,rfl,⟨.of_eq (congrArg (AV.own _ 0) (by have h:=(hl42 0 _ _ _ _ rfl rfl);simpa using h.symm)),⟨.refl _,⟨.refl _,trivial⟩⟩⟩,(.refl _)⟩
         ·rcases oi hf with ⟨c59,hf⟩ | ⟨c59,hf⟩
          ·refine w_condt rfl c59<|sr<|s_mov (.bool false) rfl<|dk<|w_ret<|?_;obtain rfl:=os hf;exact r_flat ⟨.of trivial trivial,trivial⟩ rfl (.refl _)
          ·refine w_condf rfl (bf c59)<|w_skip<|k_seq<|sr<|s_mov (.int .i64 1) rfl<|dk<|sr<|?_
           obtain ⟨r_60,er61,hf⟩:=ob hf
           refine s_mov (.own 0 0 r_40.2.length) rfl<|s_mov (.int .i64 1) rfl<|s_do (o_call (w_laws_heldIntS _ _ _ er61) rfl (.cons (.of_eq (congrArg (AV.lst _) (tko r_40.2))) (.cons (.refl _) .nil)) rfl)<|s_mov (.int .i64 r_60) rfl<|dk<|awp_seq<|sr<|s_mov (.int .i64 r_60) rfl<|s_q (.bool (decide (r_60 < 0))) rfl (.of rfl trivial) rfl<|dk<|?_
           rcases oi hf with ⟨c62,hf⟩ | ⟨c62,hf⟩
           ·refine w_condt rfl c62<|sr<|s_mov (.bool false) rfl<|dk<|w_ret<|?_;obtain rfl:=os hf;exact r_flat ⟨.of trivial trivial,trivial⟩ rfl (.refl _)
           ·refine w_condf rfl (bf c62)<|w_skip<|k_seq<|awp_seq<|sr<|s_mov (.int .i64 r_60) rfl<|s_mov (.int .i64 r_40.1) rfl<|s_q (.bool (r_60 != r_40.1)) rfl (.of rfl trivial) rfl<|dk<|?_
            rcases oi hf with ⟨c63,hf⟩ | ⟨c63,hf⟩
            ·refine w_condt rfl c63<|sr<|s_mov (.bool false) rfl<|dk<|w_ret<|?_;obtain rfl:=os hf;exact r_flat ⟨.of trivial trivial,trivial⟩ rfl (.refl _)
            ·refine w_condf rfl (bf c63)<|w_skip<|k_seq<|sr<|s_mov (.bool true) rfl<|dk<|w_ret<|?_;obtain rfl:=os hf;exact r_flat ⟨.of trivial trivial,trivial⟩ rfl (.refl _)

end Go.R
