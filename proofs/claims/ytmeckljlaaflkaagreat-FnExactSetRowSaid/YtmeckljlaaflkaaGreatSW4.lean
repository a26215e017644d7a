/- Walks. -/
import Derived.Test.YtmeckljlaaflkaaGreatSW3
set_option linter.all false
namespace Go.R
open Go Go.Proofs
set_option linter.unusedVariables false
set_option linter.unusedSimpArgs false
set_option maxHeartbeats 8000000
/- laws.eqSetS -/
def c32:ACode :=
 (.seq (.reg (tm 4 (.c (.bool false)) .done))
 (.seq (.seq (.reg (tm 6 (.t 0) (tq 7 (.len (.t 6)) (tm 8 (.t 1) (tq 9 (.len (.t 8)) (tq 10 (.bin .neq (.t 7) (.t 9)) .done))))))
 (.cond (.t 10) (.seq (.reg (tm 4 (.c (.bool false)) .done))
 .ret)
 .skip))
 (.seq (.seq (.reg (tm 5 (.c (.int .i64 0)) .done))
 (.block 0 (.loop (.seq (.seq (.reg (tm 11 (.t 5) (tm 12 (.t 0) (tq 13 (.len (.t 12)) (tq 14 (.bin .lss (.t 11) (.t 13)) .done)))))
 (.cond (.t 14) .skip
 (.exit 0)))
 (.seq (.block 1 (.seq (.reg (tm 17 (.t 0) (tm 18 (.t 5) (tq 19 (.iaddr 3 (.t 17) (.t 18)) (tq 20 (.load 3 true (.t 19)) (tm 21 (.t 1) (tm 22 (.t 5) (tq 23 (.iaddr 3 (.t 21) (.t 22)) (tq 24 (.load 3 true (.t 23)) (.l ⟨(some 25),none,.call 98 [(.t 20),(.t 24)]⟩ []
 (tq 26 (.not (.t 25)) .done) .non))))))))))
 (.cond (.t 26) (.seq (.reg (tm 4 (.c (.bool false)) .done))
 .ret)
 .skip)))
 (.reg (tm 15 (.t 5) (tq 16 (.bin .add (.t 15) (.c (.int .i64 1))) (tm 5 (.t 16) .done)))))))))
 (.cut (.seq (.reg (tm 4 (.c (.bool true)) .done))
 .ret)))))
theorem fc32:fcomp Tryz.prog Tryz.f32 = some (c32.erase,[.mov (.t 4)],27):=by kernel_rfl
def laws_eqSetS_L1 (b_2:(List GSet)):List GSet → Nat → Option (Fl Bool Unit)
  | [],i_25 =>
    some (.go ())
  | x_43 :: xs,i_25 =>
    (idx b_2 (i_25:Int)).bind fun x_46 =>
    (laws_eqSet x_43 x_46).bind fun r_48 =>
    if (!r_48) then
    some (.ret false)
    else
    laws_eqSetS_L1 b_2 xs (i_25 + 1)

def laws_eqSetS (a_1:(List GSet)) (b_2:(List GSet)):Option Bool :=
    if ((a_1.length:Int) != (b_2.length:Int)) then
    some false
    else
    (laws_eqSetS_L1 b_2 a_1 0).bind fun q => (match q with
    | .ret r => some r
    | .go _ =>
    some true)
theorem w_laws_eqSetS (a_1:(List GSet)) (b_2:(List GSet)) (r:Bool) (hf:laws_eqSetS a_1 b_2 = some r):CallOK Tryz.prog 32 .flat [(.lst 3 (a_1.map encGSet)),(.lst 3 (b_2.map encGSet))] (.bool r):=by
 refine CallOK.of_awp mixed Tryz.func32 fc32 nle ?_;rw [argT_eq];unfold laws_eqSetS at hf;unfold c32;refine (show awp Tryz.prog false 0 _ (ofL [(0,(.lst 3 (a_1.map encGSet))),(1,(.lst 3 (b_2.map encGSet)))]) [] _ from ?_);refine sr<|s_mov (.bool false) rfl<|dk<|awp_seq<|sr<|s_mov (.lst 3 (a_1.map encGSet)) rfl<|s_dof (o_len (enc:=encGSet) rfl) fun hl3 => s_mov (.lst 3 (b_2.map encGSet)) rfl<|s_dof (o_len (enc:=encGSet) rfl) fun hl4 => s_q (.bool ((a_1.length:Int) != (b_2.length:Int))) rfl rfl rfl<|dk<|?_
 rcases oi hf with ⟨c5,hf⟩ | ⟨c5,hf⟩
 ·refine w_condt rfl c5<|sr<|s_mov (.bool false) rfl<|dk<|w_ret<|?_;obtain rfl:=os hf;exact r_flat ⟨trivial,trivial⟩ rfl (.refl _)
 ·refine w_condf rfl (bf c5)<|w_skip<|k_seq<|awp_seq<|sr<|s_mov (.int .i64 0) rfl<|dk<|?_
  obtain ⟨p36,hb1,hf⟩:=ob hf
  refine awp_cutx (X:={q:Unit // p36 = .go q}) (fun q => ([],[])) ?_ ?_
  ·refine awp_loop (X:={q:Nat // laws_eqSetS_L1 b_2 (a_1.drop q) q = some p36}) (fun q => ([(0,(.lst 3 (a_1.map encGSet))),(1,(.lst 3 (b_2.map encGSet))),(5,(.int .i64 (q.1:Int)))],[])) (fun q => a_1.length - q.1) ⟨0,hb1⟩ ⟨[],[],_,_,rfl,rfl,⟨.refl _,⟨.refl _,⟨.refl _,trivial⟩⟩⟩,(.refl _)⟩ ?_
   rintro ⟨i_25,hc1⟩
   have hc1:laws_eqSetS_L1 b_2 (a_1.drop i_25) i_25 = some p36:=hc1
   refine (show awp Tryz.prog false 0 _ (ofL [(0,(.lst 3 (a_1.map encGSet))),(1,(.lst 3 (b_2.map encGSet))),(5,(.int .i64 (i_25:Int)))]) [] _ from ?_)
   rcases dropc a_1 i_25 with ⟨hie39,hd42⟩ | ⟨hlt37,x_43,hx38,hd42⟩
   ·rw [hd42,laws_eqSetS_L1.eq_1] at hc1
    have hq41:=dlf hie39
    refine awp_seq<|sr<|s_mov (.int .i64 (i_25:Int)) rfl<|s_mov (.lst 3 (a_1.map encGSet)) rfl<|s_dof (o_len (enc:=encGSet) rfl) fun hl44 => s_q (.bool (decide ((i_25:Int) < (a_1.length:Int)))) rfl rfl rfl<|dk<|w_condf rfl hq41<|w_exit<|k_seqx<|k_loopx<|k_blkx<|?_;obtain rfl:=os hc1;exact k_cutn ⟨_,rfl⟩ ⟨[],[],_,_,rfl,rfl,trivial,(.refl _)⟩
   ·rw [hd42,laws_eqSetS_L1.eq_2] at hc1
    have hq41:=dlt hlt37
    refine awp_seq<|sr<|s_mov (.int .i64 (i_25:Int)) rfl<|s_mov (.lst 3 (a_1.map encGSet)) rfl<|s_dof (o_len (enc:=encGSet) rfl) fun hl45 => s_q (.bool (decide ((i_25:Int) < (a_1.length:Int)))) rfl rfl rfl<|dk<|w_condt rfl hq41<|w_skip<|k_seq<|awp_seq<|w_blk<|sr<|?_
    obtain ⟨x_46,ex47,hc1⟩:=ob hc1
    obtain ⟨r_48,er49,hc1⟩:=ob hc1
    refine s_mov (.lst 3 (a_1.map encGSet)) rfl<|s_mov (.int .i64 (i_25:Int)) rfl<|s_do (o_iaddrn (enc:=encGSet) rfl rfl hx38)<|s_q (encGSet x_43) rfl nle rfl<|s_mov (.lst 3 (b_2.map encGSet)) rfl<|s_mov (.int .i64 (i_25:Int)) rfl<|s_do (o_iaddr (enc:=encGSet) rfl rfl (idx0 ex47) (idx1 ex47))<|s_q (encGSet x_46) rfl nle rfl<|s_dol (o_call (w_laws_eqSet _ _ _ er49) rfl (.refl _) rfl) a_same trivial<|s_q (.bool (!r_48)) rfl trivial rfl<|dk<|?_
    rcases oi hc1 with ⟨c50,hc1⟩ | ⟨c50,hc1⟩
    ·refine w_condt rfl c50<|sr<|s_mov (.bool false) rfl<|dk<|w_ret<|?_;obtain rfl:=os hc1;obtain rfl:=os hf;exact r_flat ⟨trivial,trivial⟩ rfl (.refl _)
    ·refine w_condf rfl (bf c50)<|w_skip<|k_blk<|k_seq<|w_reg<|s_mov (.int .i64 (i_25:Int)) rfl<|s_q (.int .i64 (w64 ((i_25:Int) + 1))) rfl rfl rfl<|s_mov (.int .i64 (w64 ((i_25:Int) + 1))) rfl<|w_done<|?_;exact k_loopn ⟨(i_25 + 1),hc1⟩ (mul hlt37) ⟨[],[],_,_,rfl,rfl,⟨.refl _,⟨.refl _,⟨.of_eq (congrArg (AV.int _) (w64_incr hlt37 hl45)),trivial⟩⟩⟩,(.refl _)⟩
  ·rintro ⟨_,rfl⟩
   refine sr<|s_mov (.bool true) rfl<|dk<|w_ret<|?_;obtain rfl:=os hf;exact r_flat ⟨trivial,trivial⟩ rfl (.refl _)

/- laws.markText -/
def c74:ACode :=
 (.seq (.reg (tm 2 (.c (.str [])) .done))
 (.seq (.seq (.reg (tm 4 (.t 0) (tq 5 (.bin .leq (.t 4) (.c (.int .i64 0))) .done)))
 (.cond (.t 5) (.seq (.reg (tm 2 (.c (.str [109,48])) .done))
 .ret)
 .skip))
 (.seq (.reg (tm 3 (.c (.str [])) .done))
 (.seq (.block 0 (.loop (.seq (.seq (.reg (tm 6 (.t 0) (tq 7 (.bin .gtr (.t 6) (.c (.int .i64 0))) .done)))
 (.cond (.t 7) .skip
 (.exit 0)))
 (.block 1 (.seq (.reg (tm 8 (.t 0) (tq 9 (.bin .rem (.t 8) (.c (.int .i64 10))) (tq 10 (.bin .add (.c (.int .i64 48)) (.t 9)) (tq 11 (.convI .u8 (.t 10)) (tq 12 (.bslice 1 [(.t 11)]) (tq 13 (.convBS (.t 12)) (tm 14 (.t 3) (tq 15 (.bin .add (.t 13) (.t 14)) (tm 3 (.t 15) .done))))))))))
 (.reg (tm 16 (.t 0) (tq 17 (.bin .quo (.t 16) (.c (.int .i64 10))) (tm 0 (.t 17) .done)))))))))
 (.cut (.seq (.reg (tm 18 (.t 3) (tq 19 (.bin .add (.c (.str [109])) (.t 18)) (tm 2 (.t 19) .done))))
 .ret))))))
theorem fc74:fcomp Tryz.prog Tryz.f74 = some (c74.erase,[.mov (.t 2)],20):=by kernel_rfl
def laws_markText_L1 :Nat → Int → Str → Option Str
  | 0,_,_ => none
  | k + 1,k_9,out_10 =>
    if (decide (k_9 > 0)) then
    if (bstr [IntKind.u8.wrap (w64 (48 + (k_9.tmod 10)))]).length + out_10.length ≤ maxLen then
    laws_markText_L1 k (w64 (k_9.tdiv 10)) ((bstr [IntKind.u8.wrap (w64 (48 + (k_9.tmod 10)))]) ++ out_10)
    else none
    else
    some out_10

def laws_markText (k_1:Int):Option Str :=
    if (decide (k_1 ≤ 0)) then
    some [109,48]
    else
    (laws_markText_L1 FUEL k_1 []).bind fun out_13 =>
    if [109].length + out_13.length ≤ maxLen then
    some ([109] ++ out_13)
    else none
theorem w_laws_markText (k_1:Int) (r:Str) (hf:laws_markText k_1 = some r):CallOK Tryz.prog 74 .flat [(.int .i64 k_1)] (.str r):=by
 refine CallOK.of_awp mixed Tryz.func74 fc74 nle ?_;rw [argT_eq];unfold laws_markText at hf;unfold c74;refine (show awp Tryz.prog false 0 _ (ofL [(0,(.int .i64 k_1))]) [] _ from ?_);refine sr<|s_mov (.str []) rfl<|dk<|awp_seq<|sr<|s_mov (.int .i64 k_1) rfl<|s_q (.bool (decide (k_1 ≤ 0))) rfl rfl rfl<|dk<|?_
 rcases oi hf with ⟨c2,hf⟩ | ⟨c2,hf⟩
 ·refine w_condt rfl c2<|sr<|s_mov (.str [109,48]) rfl<|dk<|w_ret<|?_;obtain rfl:=os hf;exact r_flat ⟨trivial,trivial⟩ rfl (.refl _)
 ·refine w_condf rfl (bf c2)<|w_skip<|k_seq<|sr<|s_mov (.str []) rfl<|dk<|awp_seq<|?_
  obtain ⟨out_13,hb1,hf⟩:=ob hf
  refine awp_cut ([(3,(.str out_13))],[]) ?_ ?_
  ·refine awp_loop (X:={q:(Nat × Int × Str) // laws_markText_L1 q.1 q.2.1 q.2.2 = some out_13}) (fun q => ([(0,(.int .i64 q.1.2.1)),(3,(.str q.1.2.2))],[])) (fun q => q.1.1) ⟨(FUEL,k_1,[]),hb1⟩ ⟨[],[],_,_,rfl,rfl,⟨.refl _,⟨.refl _,trivial⟩⟩,(.refl _)⟩ ?_
   rintro ⟨⟨k,k_9,out_10⟩,hc1⟩
   have hc1:laws_markText_L1 k k_9 out_10 = some out_13:=hc1
   refine (show awp Tryz.prog false 0 _ (ofL [(0,(.int .i64 k_9)),(3,(.str out_10))]) [] _ from ?_)
   rcases k with _ | k
   ·rw [laws_markText_L1.eq_1] at hc1
    cases hc1
   ·rw [laws_markText_L1.eq_2] at hc1;refine awp_seq<|sr<|s_mov (.int .i64 k_9) rfl<|s_q (.bool (decide (k_9 > 0))) rfl rfl rfl<|dk<|?_
    rcases oi hc1 with ⟨c15,hc1⟩ | ⟨c15,hc1⟩
    ·refine w_condt rfl c15<|w_skip<|k_seq<|w_blk<|sr<|?_
     obtain ⟨g16,hc1⟩:=og hc1
     refine s_mov (.int .i64 k_9) rfl<|s_q (.int .i64 (k_9.tmod 10)) rfl ⟨rfl,by decide⟩ rfl<|s_q (.int .i64 (w64 (48 + (k_9.tmod 10)))) rfl rfl rfl<|s_q (.int .u8 (IntKind.u8.wrap (w64 (48 + (k_9.tmod 10))))) rfl trivial rfl<|?_;refine s_do (o_bslice (j:=0) (as':=[(.int .u8 (IntKind.u8.wrap (w64 (48 + (k_9.tmod 10)))))]) rfl (fun _ => by decide) ⟨rfl,trivial⟩ (.refl _) rfl rfl rfl) ?_;refine s_do (o_convbso (l:=[IntKind.u8.wrap (w64 (48 + (k_9.tmod 10)))]) rfl rfl (by simp))<|s_mov (.str out_10) rfl<|s_q (.str ((bstr [IntKind.u8.wrap (w64 (48 + (k_9.tmod 10)))]) ++ out_10)) rfl g16 rfl<|s_mov (.str ((bstr [IntKind.u8.wrap (w64 (48 + (k_9.tmod 10)))]) ++ out_10)) rfl<|dk<|w_reg<|s_mov (.int .i64 k_9) rfl<|?_
     refine s_q (.int .i64 (w64 (k_9.tdiv 10))) rfl ⟨rfl,by decide⟩ rfl<|s_mov (.int .i64 (w64 (k_9.tdiv 10))) rfl<|w_done<|k_blk<|?_;exact k_loopn ⟨(k,w64 (k_9.tdiv 10),(bstr [IntKind.u8.wrap (w64 (48 + (k_9.tmod 10)))]) ++ out_10),hc1⟩ (Nat.lt_succ_self _) ⟨[],[],_,_,rfl,rfl,⟨.refl _,⟨.refl _,trivial⟩⟩,(.refl _)⟩
    ·refine w_condf rfl (bf c15)<|w_exit<|k_seqx<|k_loopx<|k_blkx<|?_;obtain rfl:=os hc1;exact ⟨[],[],_,_,rfl,rfl,⟨.refl _,trivial⟩,(.refl _)⟩
  ·refine sr<|?_
   obtain ⟨g17,hf⟩:=og hf
   refine s_mov (.str out_13) rfl<|s_q (.str ([109] ++ out_13)) rfl g17 rfl<|s_mov (.str ([109] ++ out_13)) rfl<|dk<|w_ret<|?_;obtain rfl:=os hf;exact r_flat ⟨trivial,trivial⟩ rfl (.refl _)

/- laws.markColumnS -/
def c99_h0:ACode :=
 (.seq (.reg (tm 4 (.c (.int .i64 0)) .done))
 (.seq (.seq (.reg (tm 5 (.c (.int .i64 0)) .done))
 (.block 0 (.loop (.seq (.seq (.reg (tm 6 (.t 5) (tm 7 (.t 0) (tq 8 (.len (.t 7)) (tq 9 (.bin .lss (.t 6) (.t 8)) .done)))))
 (.cond (.t 9) .skip
 (.exit 0)))
 (.seq (.block 1 (.seq (.reg (tm 12 (.t 0) (tm 13 (.t 5) (tm 14 (.t 1) (tq 15 (.call 74 [(.t 14)]) (tq 16 (.iaddr 8 (.t 12) (.t 13)) (tq 17 (.faddr 0 (.t 16)) (.q ⟨none,none,.store 1 (.t 17) (.t 15)⟩
 .done))))))))
 (.seq (.reg (tm 18 (.t 1) (tq 19 (.bin .add (.t 18) (.c (.int .i64 1))) (tm 1 (.t 19) .done))))
 (.seq (.reg (tm 20 (.t 0) (tm 21 (.t 5) (tm 22 (.t 1) (tq 23 (.iaddr 8 (.t 20) (.t 21)) (tq 24 (.faddr 1 (.t 23)) (.q ⟨none,none,.store 1 (.t 24) (.t 22)⟩
 .done)))))))
 (.seq (.reg (tm 25 (.t 1) (tq 26 (.bin .add (.t 25) (.c (.int .i64 1))) (tm 1 (.t 26) .done))))
 (.seq (.reg (tm 27 (.t 0) (tm 28 (.t 5) (tm 29 (.t 1) (tq 30 (.iaddr 8 (.t 27) (.t 28)) (tq 31 (.faddr 2 (.t 30)) (.q ⟨none,none,.store 1 (.t 31) (.t 29)⟩
 .done)))))))
 (.seq (.reg (tm 32 (.t 1) (tq 33 (.bin .add (.t 32) (.c (.int .i64 1))) (tm 1 (.t 33) .done))))
 (.seq (.reg (tm 34 (.t 0) (tm 35 (.t 5) (tm 36 (.t 1) (tq 37 (.iaddr 8 (.t 34) (.t 35)) (tq 38 (.faddr 3 (.t 37)) (.q ⟨none,none,.store 1 (.t 38) (.t 36)⟩
 .done)))))))
 (.seq (.reg (tm 39 (.t 1) (tq 40 (.bin .add (.t 39) (.c (.int .i64 1))) (tm 1 (.t 40) .done))))
 (.seq (.reg (tm 41 (.t 0) (tm 42 (.t 5) (tm 43 (.t 1) (tq 44 (.iaddr 8 (.t 41) (.t 42)) (tq 45 (.faddr 4 (.t 44)) (.q ⟨none,none,.store 1 (.t 45) (.t 43)⟩
 .done)))))))
 (.seq (.reg (tm 46 (.t 1) (tq 47 (.bin .add (.t 46) (.c (.int .i64 1))) (tm 1 (.t 47) .done))))
 (.seq (.reg (tm 48 (.t 0) (tm 49 (.t 5) (tm 50 (.t 1) (tq 51 (.iaddr 8 (.t 48) (.t 49)) (tq 52 (.faddr 5 (.t 51)) (.q ⟨none,none,.store 1 (.t 52) (.t 50)⟩
 .done)))))))
 (.seq (.reg (tm 53 (.t 1) (tq 54 (.bin .add (.t 53) (.c (.int .i64 1))) (tm 1 (.t 54) .done))))
 (.seq (.reg (tm 55 (.t 0) (tm 56 (.t 5) (tm 57 (.t 1) (tq 58 (.call 74 [(.t 57)]) (tq 59 (.iaddr 8 (.t 55) (.t 56)) (tq 60 (.faddr 6 (.t 59)) (.q ⟨none,none,.store 1 (.t 60) (.t 58)⟩
 .done))))))))
 (.seq (.reg (tm 61 (.t 1) (tq 62 (.bin .add (.t 61) (.c (.int .i64 1))) (tm 1 (.t 62) .done))))
 (.seq (.reg (tm 63 (.t 0) (tm 64 (.t 5) (tm 65 (.t 1) (tq 66 (.bin .rem (.t 65) (.c (.int .i64 3))) (tq 67 (.bin .eql (.t 66) (.c (.int .i64 0))) (tq 68 (.iaddr 8 (.t 63) (.t 64)) (tq 69 (.faddr 7 (.t 68)) (.q ⟨none,none,.store 1 (.t 69) (.t 67)⟩
 .done)))))))))
 (.reg (tm 70 (.t 1) (tq 71 (.bin .add (.t 70) (.c (.int .i64 1))) (tm 1 (.t 71) .done))))))))))))))))))))
 (.reg (tm 10 (.t 5) (tq 11 (.bin .add (.t 10) (.c (.int .i64 1))) (tm 5 (.t 11) .done)))))))))
 (.cut (.seq (.reg (tm 72 (.t 1) (tm 4 (.t 72) .done)))
 .ret))))
theorem fc99_h0:fcomp Tryz.prog Tryz.f99 = some (c99_h0.erase,[.mov (.t 4)],73):=by kernel_rfl
def laws_markColumnS_L1 :Nat → Int → Int → (List GColumn) → Option (Int × (List GColumn))
  | 0,_,_,_ => none
  | k + 1,k_93,i_94,a_95 =>
    if (decide (i_94 < (a_95.length:Int))) then
    (laws_markText k_93).bind fun r_117 =>
    if 0 ≤ i_94 ∧ i_94 < (a_95.length:Int) then
    (a_95[(0 + i_94.toNat)]?).bind fun x_120 =>
    if 0 ≤ i_94 ∧ i_94 < (a_95.length:Int) then
    if 0 ≤ i_94 ∧ i_94 < (a_95.length:Int) then
    if 0 ≤ i_94 ∧ i_94 < (a_95.length:Int) then
    if 0 ≤ i_94 ∧ i_94 < (a_95.length:Int) then
    if 0 ≤ i_94 ∧ i_94 < (a_95.length:Int) then
    (laws_markText (w64 ((w64 ((w64 ((w64 ((w64 ((w64 (k_93 + 1)) + 1)) + 1)) + 1)) + 1)) + 1))).bind fun r_127 =>
    if 0 ≤ i_94 ∧ i_94 < (a_95.length:Int) then
    if 0 ≤ i_94 ∧ i_94 < (a_95.length:Int) then
    laws_markColumnS_L1 k (w64 ((w64 ((w64 ((w64 ((w64 ((w64 ((w64 ((w64 (k_93 + 1)) + 1)) + 1)) + 1)) + 1)) + 1)) + 1)) + 1)) (w64 (i_94 + 1)) ((((((((a_95.set (0 + i_94.toNat) (⟨r_117,x_120.Kind,x_120.Min,x_120.Max,x_120.Low,x_120.High,x_120.Ref,x_120.Strong⟩:GColumn)).set (0 + i_94.toNat) (⟨r_117,w64 (k_93 + 1),x_120.Min,x_120.Max,x_120.Low,x_120.High,x_120.Ref,x_120.Strong⟩:GColumn)).set (0 + i_94.toNat) (⟨r_117,w64 (k_93 + 1),w64 ((w64 (k_93 + 1)) + 1),x_120.Max,x_120.Low,x_120.High,x_120.Ref,x_120.Strong⟩:GColumn)).set (0 + i_94.toNat) (⟨r_117,w64 (k_93 + 1),w64 ((w64 (k_93 + 1)) + 1),w64 ((w64 ((w64 (k_93 + 1)) + 1)) + 1),x_120.Low,x_120.High,x_120.Ref,x_120.Strong⟩:GColumn)).set (0 + i_94.toNat) (⟨r_117,w64 (k_93 + 1),w64 ((w64 (k_93 + 1)) + 1),w64 ((w64 ((w64 (k_93 + 1)) + 1)) + 1),w64 ((w64 ((w64 ((w64 (k_93 + 1)) + 1)) + 1)) + 1),x_120.High,x_120.Ref,x_120.Strong⟩:GColumn)).set (0 + i_94.toNat) (⟨r_117,w64 (k_93 + 1),w64 ((w64 (k_93 + 1)) + 1),w64 ((w64 ((w64 (k_93 + 1)) + 1)) + 1),w64 ((w64 ((w64 ((w64 (k_93 + 1)) + 1)) + 1)) + 1),w64 ((w64 ((w64 ((w64 ((w64 (k_93 + 1)) + 1)) + 1)) + 1)) + 1),x_120.Ref,x_120.Strong⟩:GColumn)).set (0 + i_94.toNat) (⟨r_117,w64 (k_93 + 1),w64 ((w64 (k_93 + 1)) + 1),w64 ((w64 ((w64 (k_93 + 1)) + 1)) + 1),w64 ((w64 ((w64 ((w64 (k_93 + 1)) + 1)) + 1)) + 1),w64 ((w64 ((w64 ((w64 ((w64 (k_93 + 1)) + 1)) + 1)) + 1)) + 1),r_127,x_120.Strong⟩:GColumn)).set (0 + i_94.toNat) (⟨r_117,w64 (k_93 + 1),w64 ((w64 (k_93 + 1)) + 1),w64 ((w64 ((w64 (k_93 + 1)) + 1)) + 1),w64 ((w64 ((w64 ((w64 (k_93 + 1)) + 1)) + 1)) + 1),w64 ((w64 ((w64 ((w64 ((w64 (k_93 + 1)) + 1)) + 1)) + 1)) + 1),r_127,((w64 ((w64 ((w64 ((w64 ((w64 ((w64 ((w64 (k_93 + 1)) + 1)) + 1)) + 1)) + 1)) + 1)) + 1)).tmod 3 == 0)⟩:GColumn))
    else none
    else none
    else none
    else none
    else none
    else none
    else none
    else none
    else
    some (k_93,a_95)

def laws_markColumnS (a_1:(List GColumn)) (k_2:Int):Option (Int × (List GColumn)) :=
    (laws_markColumnS_L1 FUEL k_2 0 a_1).bind fun p114 =>
    (match p114 with
    | (k_112,l_113) =>
    some (k_112,l_113))
theorem w_laws_markColumnS (a_1:(List GColumn)) (k_2:Int) (r:(Int × (List GColumn))) (hf:laws_markColumnS a_1 k_2 = some r):CallHeap Tryz.prog ⟨true,true⟩ 99 [(.own 0 0 a_1.length),(.int .i64 k_2)] [.row 8 (a_1.map encGColumn)] (.int .i64 r.1) [.row 8 (r.2.map encGColumn)]:=by
 refine CallHeap.of_awp mixed Tryz.func99 fc99_h0 nle ?_;rw [argT_eq];unfold laws_markColumnS at hf;unfold c99_h0;refine (show awp Tryz.prog ⟨true,true⟩ 1 _ (ofL [(0,(.own 0 0 a_1.length)),(1,(.int .i64 k_2))]) [.row 8 (a_1.map encGColumn)] _ from ?_);refine sr<|s_mov (.int .i64 0) rfl<|dk<|awp_seq<|sr<|s_mov (.int .i64 0) rfl<|dk<|?_
 obtain ⟨p114,hb1,hf⟩:=ob hf
 refine awp_cut ([(1,(.int .i64 p114.1))],[.row 8 (p114.2.map encGColumn)]) ?_ ?_
 ·refine awp_loop (X:={q:(Nat × Int × Int × (List GColumn)) // laws_markColumnS_L1 q.1 q.2.1 q.2.2.1 q.2.2.2 = some p114}) (fun q => ([(0,(.own 0 0 q.1.2.2.2.length)),(1,(.int .i64 q.1.2.1)),(5,(.int .i64 q.1.2.2.1))],[.row 8 (q.1.2.2.2.map encGColumn)])) (fun q => q.1.1) ⟨(FUEL,k_2,0,a_1),hb1⟩ ⟨[],[0],_,_,rfl,rfl,⟨.refl _,⟨.refl _,⟨.refl _,trivial⟩⟩⟩,(.refl _)⟩ ?_
  rintro ⟨⟨k,k_93,i_94,a_95⟩,hc1⟩
  have hc1:laws_markColumnS_L1 k k_93 i_94 a_95 = some p114:=hc1
  refine (show awp Tryz.prog ⟨true,true⟩ 1 _ (ofL [(0,(.own 0 0 a_95.length)),(1,(.int .i64 k_93)),(5,(.int .i64 i_94))]) [.row 8 (a_95.map encGColumn)] _ from ?_)
  rcases k with _ | k
  ·rw [laws_markColumnS_L1.eq_1] at hc1
   cases hc1
  ·rw [laws_markColumnS_L1.eq_2] at hc1;refine awp_seq<|sr<|s_mov (.int .i64 i_94) rfl<|s_mov (.own 0 0 a_95.length) rfl<|s_dof (o_lenown rfl rfl) fun hl115 => s_q (.bool (decide (i_94 < (a_95.length:Int)))) rfl (.of rfl trivial) rfl<|dk<|?_
   rcases oi hc1 with ⟨c116,hc1⟩ | ⟨c116,hc1⟩
   ·refine w_condt rfl c116<|w_skip<|k_seq<|awp_seq<|w_blk<|sr<|?_
    obtain ⟨r_117,er118,hc1⟩:=ob hc1
    obtain ⟨g119,hc1⟩:=og hc1
    obtain ⟨x_120,ex121,hc1⟩:=ob hc1
    refine s_mov (.own 0 0 a_95.length) rfl<|s_mov (.int .i64 i_94) rfl<|s_mov (.int .i64 k_93) rfl<|s_do (o_call (w_laws_markText _ _ er118) rfl (.refl _) rfl)<|s_do (o_iaddrown rfl rfl g119.1 g119.2 rfl rfl)<|s_q (.ptr 0 (0 + i_94.toNat) 0) rfl (.of trivial trivial) rfl<|?_;refine s_do0 (o_storerow (v':=(.str r_117)) (e':=(⟨r_117,x_120.Kind,x_120.Min,x_120.Max,x_120.Low,x_120.High,x_120.Ref,x_120.Strong⟩:GColumn)) rfl rfl ex121 rfl rfl rfl (by decide) (fun _ => by decide) ⟨rfl,nle⟩ (.refl _) rfl) ?_;refine dk<|sr<|s_mov (.int .i64 k_93) rfl<|s_q (.int .i64 (w64 (k_93 + 1))) rfl (.of rfl trivial) rfl<|s_mov (.int .i64 (w64 (k_93 + 1))) rfl<|dk<|?_
    refine sr<|?_
    obtain ⟨g122,hc1⟩:=og hc1
    refine s_mov (.own 0 0 a_95.length) rfl<|s_mov (.int .i64 i_94) rfl<|s_mov (.int .i64 (w64 (k_93 + 1))) rfl<|s_do (o_iaddrown rfl rfl g122.1 g122.2 rfl rfl)<|s_q (.ptr 0 (0 + i_94.toNat) 1) rfl (.of trivial trivial) rfl<|?_;refine s_do0 (o_storerow (v':=(.int .i64 (w64 (k_93 + 1)))) (e':=(⟨r_117,w64 (k_93 + 1),x_120.Min,x_120.Max,x_120.Low,x_120.High,x_120.Ref,x_120.Strong⟩:GColumn)) rfl rfl (setget ex121) rfl rfl rfl (by decide) (fun _ => by decide) ⟨rfl,nle⟩ (.refl _) rfl) ?_;refine dk<|sr<|s_mov (.int .i64 (w64 (k_93 + 1))) rfl<|s_q (.int .i64 (w64 ((w64 (k_93 + 1)) + 1))) rfl (.of rfl trivial) rfl<|s_mov (.int .i64 (w64 ((w64 (k_93 + 1)) + 1))) rfl<|w_done<|?_
    refine k_seq<|sr<|?_
    obtain ⟨g123,hc1⟩:=og hc1
    refine s_mov (.own 0 0 a_95.length) rfl<|s_mov (.int .i64 i_94) rfl<|s_mov (.int .i64 (w64 ((w64 (k_93 + 1)) + 1))) rfl<|s_do (o_iaddrown rfl rfl g123.1 g123.2 rfl rfl)<|s_q (.ptr 0 (0 + i_94.toNat) 2) rfl (.of trivial trivial) rfl<|?_;refine s_do0 (o_storerow (v':=(.int .i64 (w64 ((w64 (k_93 + 1)) + 1)))) (e':=(⟨r_117,w64 (k_93 + 1),w64 ((w64 (k_93 + 1)) + 1),x_120.Max,x_120.Low,x_120.High,x_120.Ref,x_120.Strong⟩:GColumn)) rfl rfl (setget (setget ex121)) rfl rfl rfl (by decide) (fun _ => by decide) ⟨rfl,nle⟩ (.refl _) rfl) ?_;refine dk<|sr<|s_mov (.int .i64 (w64 ((w64 (k_93 + 1)) + 1))) rfl<|s_q (.int .i64 (w64 ((w64 ((w64 (k_93 + 1)) + 1)) + 1))) rfl (.of rfl trivial) rfl<|?_
    refine s_mov (.int .i64 (w64 ((w64 ((w64 (k_93 + 1)) + 1)) + 1))) rfl<|dk<|sr<|?_
    obtain ⟨g124,hc1⟩:=og hc1
    refine s_mov (.own 0 0 a_95.length) rfl<|s_mov (.int .i64 i_94) rfl<|s_mov (.int .i64 (w64 ((w64 ((w64 (k_93 + 1)) + 1)) + 1))) rfl<|s_do (o_iaddrown rfl rfl g124.1 g124.2 rfl rfl)<|s_q (.ptr 0 (0 + i_94.toNat) 3) rfl (.of trivial trivial) rfl<|?_;refine s_do0 (o_storerow (v':=(.int .i64 (w64 ((w64 ((w64 (k_93 + 1)) + 1)) + 1)))) (e':=(⟨r_117,w64 (k_93 + 1),w64 ((w64 (k_93 + 1)) + 1),w64 ((w64 ((w64 (k_93 + 1)) + 1)) + 1),x_120.Low,x_120.High,x_120.Ref,x_120.Strong⟩:GColumn)) rfl rfl (setget (setget (setget ex121))) rfl rfl rfl (by decide) (fun _ => by decide) ⟨rfl,nle⟩ (.refl _) rfl) ?_;refine dk<|sr<|s_mov (.int .i64 (w64 ((w64 ((w64 (k_93 + 1)) + 1)) + 1))) rfl<|?_
    refine s_q (.int .i64 (w64 ((w64 ((w64 ((w64 (k_93 + 1)) + 1)) + 1)) + 1))) rfl (.of rfl trivial) rfl<|s_mov (.int .i64 (w64 ((w64 ((w64 ((w64 (k_93 + 1)) + 1)) + 1)) + 1))) rfl<|dk<|sr<|?_
    obtain ⟨g125,hc1⟩:=og hc1
    refine s_mov (.own 0 0 a_95.length) rfl<|s_mov (.int .i64 i_94) rfl<|s_mov (.int .i64 (w64 ((w64 ((w64 ((w64 (k_93 + 1)) + 1)) + 1)) + 1))) rfl<|s_do (o_iaddrown rfl rfl g125.1 g125.2 rfl rfl)<|s_q (.ptr 0 (0 + i_94.toNat) 4) rfl (.of trivial trivial) rfl<|?_;refine s_do0 (o_storerow (v':=(.int .i64 (w64 ((w64 ((w64 ((w64 (k_93 + 1)) + 1)) + 1)) + 1)))) (e':=(⟨r_117,w64 (k_93 + 1),w64 ((w64 (k_93 + 1)) + 1),w64 ((w64 ((w64 (k_93 + 1)) + 1)) + 1),w64 ((w64 ((w64 ((w64 (k_93 + 1)) + 1)) + 1)) + 1),x_120.High,x_120.Ref,x_120.Strong⟩:GColumn)) rfl rfl (setget (setget (setget (setget ex121)))) rfl rfl rfl (by decide) (fun _ => by decide) ⟨rfl,nle⟩ (.refl _) rfl) ?_;refine dk<|awp_seq<|?_
    refine w_reg<|s_mov (.int .i64 (w64 ((w64 ((w64 ((w64 (k_93 + 1)) + 1)) + 1)) + 1))) rfl<|s_q (.int .i64 (w64 ((w64 ((w64 ((w64 ((w64 (k_93 + 1)) + 1)) + 1)) + 1)) + 1))) rfl (.of rfl trivial) rfl<|s_mov (.int .i64 (w64 ((w64 ((w64 ((w64 ((w64 (k_93 + 1)) + 1)) + 1)) + 1)) + 1))) rfl<|dk<|sr<|?_
    obtain ⟨g126,hc1⟩:=og hc1
    refine s_mov (.own 0 0 a_95.length) rfl<|s_mov (.int .i64 i_94) rfl<|s_mov (.int .i64 (w64 ((w64 ((w64 ((w64 ((w64 (k_93 + 1)) + 1)) + 1)) + 1)) + 1))) rfl<|s_do (o_iaddrown rfl rfl g126.1 g126.2 rfl rfl)<|s_q (.ptr 0 (0 + i_94.toNat) 5) rfl (.of trivial trivial) rfl<|?_;refine s_do0 (o_storerow (v':=(.int .i64 (w64 ((w64 ((w64 ((w64 ((w64 (k_93 + 1)) + 1)) + 1)) + 1)) + 1)))) (e':=(⟨r_117,w64 (k_93 + 1),w64 ((w64 (k_93 + 1)) + 1),w64 ((w64 ((w64 (k_93 + 1)) + 1)) + 1),w64 ((w64 ((w64 ((w64 (k_93 + 1)) + 1)) + 1)) + 1),w64 ((w64 ((w64 ((w64 ((w64 (k_93 + 1)) + 1)) + 1)) + 1)) + 1),x_120.Ref,x_120.Strong⟩:GColumn)) rfl rfl (setget (setget (setget (setget (setget ex121))))) rfl rfl rfl (by decide) (fun _ => by decide) ⟨rfl,nle⟩ (.refl _) rfl) ?_
    refine dk<|sr<|s_mov (.int .i64 (w64 ((w64 ((w64 ((w64 ((w64 (k_93 + 1)) + 1)) + 1)) + 1)) + 1))) rfl<|s_q (.int .i64 (w64 ((w64 ((w64 ((w64 ((w64 ((w64 (k_93 + 1)) + 1)) + 1)) + 1)) + 1)) + 1))) rfl (.of rfl trivial) rfl<|s_mov (.int .i64 (w64 ((w64 ((w64 ((w64 ((w64 ((w64 (k_93 + 1)) + 1)) + 1)) + 1)) + 1)) + 1))) rfl<|dk<|sr<|?_
    obtain ⟨r_127,er128,hc1⟩:=ob hc1
    obtain ⟨g129,hc1⟩:=og hc1
    refine s_mov (.own 0 0 a_95.length) rfl<|s_mov (.int .i64 i_94) rfl<|s_mov (.int .i64 (w64 ((w64 ((w64 ((w64 ((w64 ((w64 (k_93 + 1)) + 1)) + 1)) + 1)) + 1)) + 1))) rfl<|s_do (o_call (w_laws_markText _ _ er128) rfl (.refl _) rfl)<|s_do (o_iaddrown rfl rfl g129.1 g129.2 rfl rfl)<|s_q (.ptr 0 (0 + i_94.toNat) 6) rfl (.of trivial trivial) rfl<|?_;refine s_do0 (o_storerow (v':=(.str r_127)) (e':=(⟨r_117,w64 (k_93 + 1),w64 ((w64 (k_93 + 1)) + 1),w64 ((w64 ((w64 (k_93 + 1)) + 1)) + 1),w64 ((w64 ((w64 ((w64 (k_93 + 1)) + 1)) + 1)) + 1),w64 ((w64 ((w64 ((w64 ((w64 (k_93 + 1)) + 1)) + 1)) + 1)) + 1),r_127,x_120.Strong⟩:GColumn)) rfl rfl (setget (setget (setget (setget (setget (setget ex121)))))) rfl rfl rfl (by decide) (fun _ => by decide) ⟨rfl,nle⟩ (.refl _) rfl) ?_
    refine dk<|sr<|s_mov (.int .i64 (w64 ((w64 ((w64 ((w64 ((w64 ((w64 (k_93 + 1)) + 1)) + 1)) + 1)) + 1)) + 1))) rfl<|s_q (.int .i64 (w64 ((w64 ((w64 ((w64 ((w64 ((w64 ((w64 (k_93 + 1)) + 1)) + 1)) + 1)) + 1)) + 1)) + 1))) rfl (.of rfl trivial) rfl<|s_mov (.int .i64 (w64 ((w64 ((w64 ((w64 ((w64 ((w64 ((w64 (k_93 + 1)) + 1)) + 1)) + 1)) + 1)) + 1)) + 1))) rfl<|dk<|sr<|?_
    obtain ⟨g130,hc1⟩:=og hc1
    refine s_mov (.own 0 0 a_95.length) rfl<|s_mov (.int .i64 i_94) rfl<|s_mov (.int .i64 (w64 ((w64 ((w64 ((w64 ((w64 ((w64 ((w64 (k_93 + 1)) + 1)) + 1)) + 1)) + 1)) + 1)) + 1))) rfl<|s_q (.int .i64 ((w64 ((w64 ((w64 ((w64 ((w64 ((w64 ((w64 (k_93 + 1)) + 1)) + 1)) + 1)) + 1)) + 1)) + 1)).tmod 3)) rfl (.of ⟨rfl,by decide⟩ trivial) rfl<|s_q (.bool ((w64 ((w64 ((w64 ((w64 ((w64 ((w64 ((w64 (k_93 + 1)) + 1)) + 1)) + 1)) + 1)) + 1)) + 1)).tmod 3 == 0)) rfl (.of rfl trivial) rfl<|s_do (o_iaddrown rfl rfl g130.1 g130.2 rfl rfl)<|s_q (.ptr 0 (0 + i_94.toNat) 7) rfl (.of trivial trivial) rfl<|?_;refine s_do0 (o_storerow (v':=(.bool ((w64 ((w64 ((w64 ((w64 ((w64 ((w64 ((w64 (k_93 + 1)) + 1)) + 1)) + 1)) + 1)) + 1)) + 1)).tmod 3 == 0))) (e':=(⟨r_117,w64 (k_93 + 1),w64 ((w64 (k_93 + 1)) + 1),w64 ((w64 ((w64 (k_93 + 1)) + 1)) + 1),w64 ((w64 ((w64 ((w64 (k_93 + 1)) + 1)) + 1)) + 1),w64 ((w64 ((w64 ((w64 ((w64 (k_93 + 1)) + 1)) + 1)) + 1)) + 1),r_127,((w64 ((w64 ((w64 ((w64 ((w64 ((w64 ((w64 (k_93 + 1)) + 1)) + 1)) + 1)) + 1)) + 1)) + 1)).tmod 3 == 0)⟩:GColumn)) rfl rfl (setget (setget (setget (setget (setget (setget (setget ex121))))))) rfl rfl rfl (by decide) (fun _ => by decide) ⟨rfl,nle⟩ (.refl _) rfl) ?_
    refine dk<|w_reg<|s_mov (.int .i64 (w64 ((w64 ((w64 ((w64 ((w64 ((w64 ((w64 (k_93 + 1)) + 1)) + 1)) + 1)) + 1)) + 1)) + 1))) rfl<|s_q (.int .i64 (w64 ((w64 ((w64 ((w64 ((w64 ((w64 ((w64 ((w64 (k_93 + 1)) + 1)) + 1)) + 1)) + 1)) + 1)) + 1)) + 1))) rfl (.of rfl trivial) rfl<|s_mov (.int .i64 (w64 ((w64 ((w64 ((w64 ((w64 ((w64 ((w64 ((w64 (k_93 + 1)) + 1)) + 1)) + 1)) + 1)) + 1)) + 1)) + 1))) rfl<|w_done<|k_blk<|k_seq<|w_reg<|s_mov (.int .i64 i_94) rfl<|s_q (.int .i64 (w64 (i_94 + 1))) rfl (.of rfl trivial) rfl<|s_mov (.int .i64 (w64 (i_94 + 1))) rfl<|w_done<|?_;exact k_loopn ⟨(k,w64 ((w64 ((w64 ((w64 ((w64 ((w64 ((w64 ((w64 (k_93 + 1)) + 1)) + 1)) + 1)) + 1)) + 1)) + 1)) + 1),w64 (i_94 + 1),(((((((a_95.set (0 + i_94.toNat) (⟨r_117,x_120.Kind,x_120.Min,x_120.Max,x_120.Low,x_120.High,x_120.Ref,x_120.Strong⟩:GColumn)).set (0 + i_94.toNat) (⟨r_117,w64 (k_93 + 1),x_120.Min,x_120.Max,x_120.Low,x_120.High,x_120.Ref,x_120.Strong⟩:GColumn)).set (0 + i_94.toNat) (⟨r_117,w64 (k_93 + 1),w64 ((w64 (k_93 + 1)) + 1),x_120.Max,x_120.Low,x_120.High,x_120.Ref,x_120.Strong⟩:GColumn)).set (0 + i_94.toNat) (⟨r_117,w64 (k_93 + 1),w64 ((w64 (k_93 + 1)) + 1),w64 ((w64 ((w64 (k_93 + 1)) + 1)) + 1),x_120.Low,x_120.High,x_120.Ref,x_120.Strong⟩:GColumn)).set (0 + i_94.toNat) (⟨r_117,w64 (k_93 + 1),w64 ((w64 (k_93 + 1)) + 1),w64 ((w64 ((w64 (k_93 + 1)) + 1)) + 1),w64 ((w64 ((w64 ((w64 (k_93 + 1)) + 1)) + 1)) + 1),x_120.High,x_120.Ref,x_120.Strong⟩:GColumn)).set (0 + i_94.toNat) (⟨r_117,w64 (k_93 + 1),w64 ((w64 (k_93 + 1)) + 1),w64 ((w64 ((w64 (k_93 + 1)) + 1)) + 1),w64 ((w64 ((w64 ((w64 (k_93 + 1)) + 1)) + 1)) + 1),w64 ((w64 ((w64 ((w64 ((w64 (k_93 + 1)) + 1)) + 1)) + 1)) + 1),x_120.Ref,x_120.Strong⟩:GColumn)).set (0 + i_94.toNat) (⟨r_117,w64 (k_93 + 1),w64 ((w64 (k_93 + 1)) + 1),w64 ((w64 ((w64 (k_93 + 1)) + 1)) + 1),w64 ((w64 ((w64 ((w64 (k_93 + 1)) + 1)) + 1)) + 1),w64 ((w64 ((w64 ((w64 ((w64 (k_93 + 1)) + 1)) + 1)) + 1)) + 1),r_127,x_120.Strong⟩:GColumn)).set (0 + i_94.toNat) (⟨r_117,w64 (k_93 + 1),w64 ((w64 (k_93 + 1)) + 1),w64 ((w64 ((w64 (k_93 + 1)) + 1)) + 1),w64 ((w64 ((w64 ((w64 (k_93 + 1)) + 1)) + 1)) + 1),w64 ((w64 ((w64 ((w64 ((w64 (k_93 + 1)) + 1)) + 1)) + 1)) + 1),r_127,((w64 ((w64 ((w64 ((w64 ((w64 ((w64 ((w64 (k_93 + 1)) + 1)) + 1)) + 1)) + 1)) + 1)) + 1)).tmod 3 == 0)⟩:GColumn)),hc1⟩ (Nat.lt_succ_self _) ⟨[],[0],_,_,rfl,rfl,⟨.of_eq (congrArg (AV.own _ 0) (by simp)),⟨.refl _,⟨.refl _,trivial⟩⟩⟩,(.refl _)⟩
   ·refine w_condf rfl (bf c116)<|w_exit<|k_seqx<|k_loopx<|k_blkx<|?_;obtain rfl:=os hc1;exact ⟨[],[0],_,_,rfl,rfl,⟨.refl _,trivial⟩,(.refl _)⟩
 ·obtain ⟨k_112,l_113⟩:=p114
  refine sr<|s_mov (.int .i64 k_112) rfl<|s_mov (.int .i64 k_112) rfl<|dk<|w_ret<|?_;obtain rfl:=os hf;exact r_heap [] [0] rfl ⟨.of trivial trivial,trivial⟩ rfl (.refl _) (.refl _)

/- laws.markIntS -/
def c20_h0:ACode :=
 (.seq (.reg (tm 4 (.c (.int .i64 0)) .done))
 (.seq (.seq (.reg (tm 5 (.c (.int .i64 0)) .done))
 (.block 0 (.loop (.seq (.seq (.reg (tm 6 (.t 5) (tm 7 (.t 0) (tq 8 (.len (.t 7)) (tq 9 (.bin .lss (.t 6) (.t 8)) .done)))))
 (.cond (.t 9) .skip
 (.exit 0)))
 (.seq (.block 1 (.seq (.reg (tm 12 (.t 0) (tm 13 (.t 5) (tm 14 (.t 1) (tq 15 (.iaddr 1 (.t 12) (.t 13)) (.q ⟨none,none,.store 1 (.t 15) (.t 14)⟩
 .done))))))
 (.reg (tm 16 (.t 1) (tq 17 (.bin .add (.t 16) (.c (.int .i64 1))) (tm 1 (.t 17) .done))))))
 (.reg (tm 10 (.t 5) (tq 11 (.bin .add (.t 10) (.c (.int .i64 1))) (tm 5 (.t 11) .done)))))))))
 (.cut (.seq (.reg (tm 18 (.t 1) (tm 4 (.t 18) .done)))
 .ret))))
theorem fc20_h0:fcomp Tryz.prog Tryz.f20 = some (c20_h0.erase,[.mov (.t 4)],19):=by kernel_rfl
def laws_markIntS_L1 :Nat → Int → Int → (List Int) → Option (Int × (List Int))
  | 0,_,_,_ => none
  | k + 1,k_38,i_39,a_40 =>
    if (decide (i_39 < (a_40.length:Int))) then
    if 0 ≤ i_39 ∧ i_39 < (a_40.length:Int) then
    (a_40[(0 + i_39.toNat)]?).bind fun x_52 =>
    laws_markIntS_L1 k (w64 (k_38 + 1)) (w64 (i_39 + 1)) (a_40.set (0 + i_39.toNat) k_38)
    else none
    else
    some (k_38,a_40)

def laws_markIntS (a_1:(List Int)) (k_2:Int):Option (Int × (List Int)) :=
    (laws_markIntS_L1 FUEL k_2 0 a_1).bind fun p48 =>
    (match p48 with
    | (k_46,l_47) =>
    some (k_46,l_47))
theorem w_laws_markIntS (a_1:(List Int)) (k_2:Int) (r:(Int × (List Int))) (hf:laws_markIntS a_1 k_2 = some r):CallHeap Tryz.prog ⟨true,true⟩ 20 [(.own 0 0 a_1.length),(.int .i64 k_2)] [.row 1 (a_1.map encI)] (.int .i64 r.1) [.row 1 (r.2.map encI)]:=by
 refine CallHeap.of_awp mixed Tryz.func20 fc20_h0 nle ?_;rw [argT_eq];unfold laws_markIntS at hf;unfold c20_h0;refine (show awp Tryz.prog ⟨true,true⟩ 1 _ (ofL [(0,(.own 0 0 a_1.length)),(1,(.int .i64 k_2))]) [.row 1 (a_1.map encI)] _ from ?_);refine sr<|s_mov (.int .i64 0) rfl<|dk<|awp_seq<|sr<|s_mov (.int .i64 0) rfl<|dk<|?_
 obtain ⟨p48,hb1,hf⟩:=ob hf
 refine awp_cut ([(1,(.int .i64 p48.1))],[.row 1 (p48.2.map encI)]) ?_ ?_
 ·refine awp_loop (X:={q:(Nat × Int × Int × (List Int)) // laws_markIntS_L1 q.1 q.2.1 q.2.2.1 q.2.2.2 = some p48}) (fun q => ([(0,(.own 0 0 q.1.2.2.2.length)),(1,(.int .i64 q.1.2.1)),(5,(.int .i64 q.1.2.2.1))],[.row 1 (q.1.2.2.2.map encI)])) (fun q => q.1.1) ⟨(FUEL,k_2,0,a_1),hb1⟩ ⟨[],[0],_,_,rfl,rfl,⟨.refl _,⟨.refl _,⟨.refl _,trivial⟩⟩⟩,(.refl _)⟩ ?_
  rintro ⟨⟨k,k_38,i_39,a_40⟩,hc1⟩
  have hc1:laws_markIntS_L1 k k_38 i_39 a_40 = some p48:=hc1
  refine (show awp Tryz.prog ⟨true,true⟩ 1 _ (ofL [(0,(.own 0 0 a_40.length)),(1,(.int .i64 k_38)),(5,(.int .i64 i_39))]) [.row 1 (a_40.map encI)] _ from ?_)
  rcases k with _ | k
  ·rw [laws_markIntS_L1.eq_1] at hc1
   cases hc1
  ·rw [laws_markIntS_L1.eq_2] at hc1;refine awp_seq<|sr<|s_mov (.int .i64 i_39) rfl<|s_mov (.own 0 0 a_40.length) rfl<|s_dof (o_lenown rfl rfl) fun hl49 => s_q (.bool (decide (i_39 < (a_40.length:Int)))) rfl (.of rfl trivial) rfl<|dk<|?_
   rcases oi hc1 with ⟨c50,hc1⟩ | ⟨c50,hc1⟩
   ·refine w_condt rfl c50<|w_skip<|k_seq<|awp_seq<|w_blk<|sr<|?_
    obtain ⟨g51,hc1⟩:=og hc1
    obtain ⟨x_52,ex53,hc1⟩:=ob hc1
    refine s_mov (.own 0 0 a_40.length) rfl<|s_mov (.int .i64 i_39) rfl<|s_mov (.int .i64 k_38) rfl<|s_do (o_iaddrown rfl rfl g51.1 g51.2 rfl rfl)<|?_;refine s_do0 (o_storerow (v':=(.int .i64 k_38)) (e':=k_38) rfl rfl ex53 rfl rfl rfl (by decide) (fun _ => by decide) ⟨rfl,rfl,rfl⟩ (.refl _) rfl) ?_;refine dk<|w_reg<|s_mov (.int .i64 k_38) rfl<|s_q (.int .i64 (w64 (k_38 + 1))) rfl (.of rfl trivial) rfl<|s_mov (.int .i64 (w64 (k_38 + 1))) rfl<|w_done<|k_blk<|k_seq<|w_reg<|s_mov (.int .i64 i_39) rfl<|s_q (.int .i64 (w64 (i_39 + 1))) rfl (.of rfl trivial) rfl<|s_mov (.int .i64 (w64 (i_39 + 1))) rfl<|w_done<|?_;exact k_loopn ⟨(k,w64 (k_38 + 1),w64 (i_39 + 1),a_40.set (0 + i_39.toNat) k_38),hc1⟩ (Nat.lt_succ_self _) ⟨[],[0],_,_,rfl,rfl,⟨.of_eq (congrArg (AV.own _ 0) (by simp)),⟨.refl _,⟨.refl _,trivial⟩⟩⟩,(.refl _)⟩
   ·refine w_condf rfl (bf c50)<|w_exit<|k_seqx<|k_loopx<|k_blkx<|?_;obtain rfl:=os hc1;exact ⟨[],[0],_,_,rfl,rfl,⟨.refl _,trivial⟩,(.refl _)⟩
 ·obtain ⟨k_46,l_47⟩:=p48
  refine sr<|s_mov (.int .i64 k_46) rfl<|s_mov (.int .i64 k_46) rfl<|dk<|w_ret<|?_;obtain rfl:=os hf;exact r_heap [] [0] rfl ⟨.of trivial trivial,trivial⟩ rfl (.refl _) (.refl _)

/- laws.markTable -/
def c33_h0:ACode :=
 (.seq (.reg (tq 2 (.box 4 (.t 0)) (tm 4 (.c (.int .i64 0)) .done)))
 (.seq (.reg (tq 5 (.faddr 1 (.t 2)) (tq 6 (.load 1 false (.t 5)) (tm 7 (.t 1) (tq 8 (.call 99 [(.t 6),(.t 7)]) (tm 1 (.t 8) .done))))))
 (.seq (.reg (tq 9 (.faddr 2 (.t 2)) (tq 10 (.load 1 false (.t 9)) (tm 11 (.t 1) (tq 12 (.call 20 [(.t 10),(.t 11)]) (tm 1 (.t 12) .done))))))
 (.seq (.reg (tm 13 (.t 1) (tm 4 (.t 13) .done)))
 .ret))))
theorem fc33_h0:fcomp Tryz.prog Tryz.f33 = some (c33_h0.erase,[.mov (.t 4)],14):=by kernel_rfl
def laws_markTable (a_1:GTable) (k_2:Int):Option (Int × GTable) :=
    (laws_markColumnS a_1.Columns k_2).bind fun r_3 =>
    (laws_markIntS a_1.Unique r_3.1).bind fun r_6 =>
    some (r_6.1,(⟨a_1.Name,r_3.2,r_6.2,a_1.Root⟩:GTable))
theorem w_laws_markTable (a_1:GTable) (k_2:Int) (r:(Int × GTable)) (hf:laws_markTable a_1 k_2 = some r):CallHeap Tryz.prog ⟨true,true⟩ 33 [(.agg [(.str a_1.Name),(.own 0 0 a_1.Columns.length),(.own 1 0 a_1.Unique.length),(.bool a_1.Root)]),(.int .i64 k_2)] [.row 8 (a_1.Columns.map encGColumn),.row 1 (a_1.Unique.map encI)] (.int .i64 r.1) [.row 8 (r.2.Columns.map encGColumn),.row 1 (r.2.Unique.map encI)]:=by
 refine CallHeap.of_awp mixed Tryz.func33 fc33_h0 nle ?_;rw [argT_eq];unfold laws_markTable at hf;unfold c33_h0;refine (show awp Tryz.prog ⟨true,true⟩ 2 _ (ofL [(0,(.agg [(.str a_1.Name),(.own 0 0 a_1.Columns.length),(.own 1 0 a_1.Unique.length),(.bool a_1.Root)])),(1,(.int .i64 k_2))]) [.row 8 (a_1.Columns.map encGColumn),.row 1 (a_1.Unique.map encI)] _ from ?_);refine sr<|s_do (o_box (j:=2) (c:=(.agg [(.str a_1.Name),(.own 0 0 a_1.Columns.length),(.own 1 0 a_1.Unique.length),(.bool a_1.Root)])) rfl trivial rfl rfl)<|s_mov (.int .i64 0) rfl<|dk<|sr<|?_
 obtain ⟨r_3,er4,hf⟩:=ob hf
 refine s_q (.ptr 2 0 1) rfl (.of trivial trivial) rfl<|s_q (.own 0 0 a_1.Columns.length) rfl (.of nle trivial) rfl<|s_mov (.int .i64 k_2) rfl<|?_;refine s_dof (o_callhs (v:=(.int .i64 r_3.1)) (h2:=[.row 8 (r_3.2.map encGColumn),.row 1 (a_1.Unique.map encI),.box 4 (.agg [(.str a_1.Name),(.own 0 0 a_1.Columns.length),(.own 1 0 a_1.Unique.length),(.bool a_1.Root)])]) [] [0] (fun _ => rfl) (w_laws_markColumnS _ _ _ er4) rfl (.refl _) (.refl _) rfl rfl) fun hl5 => ?_;refine s_mov (.int .i64 r_3.1) rfl<|dk<|sr<|?_
 obtain ⟨r_6,er7,hf⟩:=ob hf
 refine s_q (.ptr 2 0 2) rfl (.of trivial trivial) rfl<|s_q (.own 1 0 a_1.Unique.length) rfl (.of nle trivial) rfl<|s_mov (.int .i64 r_3.1) rfl<|?_;refine s_dof (o_callhs (v:=(.int .i64 r_6.1)) (h2:=[.row 8 (r_3.2.map encGColumn),.row 1 (r_6.2.map encI),.box 4 (.agg [(.str a_1.Name),(.own 0 0 a_1.Columns.length),(.own 1 0 a_1.Unique.length),(.bool a_1.Root)])]) [] [1] (fun _ => rfl) (w_laws_markIntS _ _ _ er7) rfl (.refl _) (.refl _) rfl rfl) fun hl8 => ?_;refine s_mov (.int .i64 r_6.1) rfl<|dk<|sr<|s_mov (.int .i64 r_6.1) rfl<|s_mov (.int .i64 r_6.1) rfl<|dk<|w_ret<|?_;obtain rfl:=os hf;exact r_heap [] [0,1] rfl ⟨.of trivial trivial,trivial⟩ rfl (.refl _) (.refl _)

/- laws.markAtomS -/
def c101_h0:ACode :=
 (.seq (.reg (tm 4 (.c (.int .i64 0)) .done))
 (.seq (.seq (.reg (tm 5 (.c (.int .i64 0)) .done))
 (.block 0 (.loop (.seq (.seq (.reg (tm 6 (.t 5) (tm 7 (.t 0) (tq 8 (.len (.t 7)) (tq 9 (.bin .lss (.t 6) (.t 8)) .done)))))
 (.cond (.t 9) .skip
 (.exit 0)))
 (.seq (.block 1 (.seq (.reg (tm 12 (.t 0) (tm 13 (.t 5) (tm 14 (.t 1) (tq 15 (.iaddr 3 (.t 12) (.t 13)) (tq 16 (.faddr 0 (.t 15)) (.q ⟨none,none,.store 1 (.t 16) (.t 14)⟩
 .done)))))))
 (.seq (.reg (tm 17 (.t 1) (tq 18 (.bin .add (.t 17) (.c (.int .i64 1))) (tm 1 (.t 18) .done))))
 (.seq (.reg (tm 19 (.t 0) (tm 20 (.t 5) (tm 21 (.t 1) (tq 22 (.iaddr 3 (.t 19) (.t 20)) (tq 23 (.faddr 1 (.t 22)) (.q ⟨none,none,.store 1 (.t 23) (.t 21)⟩
 .done)))))))
 (.seq (.reg (tm 24 (.t 1) (tq 25 (.bin .add (.t 24) (.c (.int .i64 1))) (tm 1 (.t 25) .done))))
 (.seq (.reg (tm 26 (.t 0) (tm 27 (.t 5) (tm 28 (.t 1) (tq 29 (.call 74 [(.t 28)]) (tq 30 (.iaddr 3 (.t 26) (.t 27)) (tq 31 (.faddr 2 (.t 30)) (.q ⟨none,none,.store 1 (.t 31) (.t 29)⟩
 .done))))))))
 (.reg (tm 32 (.t 1) (tq 33 (.bin .add (.t 32) (.c (.int .i64 1))) (tm 1 (.t 33) .done))))))))))
 (.reg (tm 10 (.t 5) (tq 11 (.bin .add (.t 10) (.c (.int .i64 1))) (tm 5 (.t 11) .done)))))))))
 (.cut (.seq (.reg (tm 34 (.t 1) (tm 4 (.t 34) .done)))
 .ret))))
theorem fc101_h0:fcomp Tryz.prog Tryz.f101 = some (c101_h0.erase,[.mov (.t 4)],35):=by kernel_rfl
def laws_markAtomS_L1 :Nat → Int → Int → (List GAtom) → Option (Int × (List GAtom))
  | 0,_,_,_ => none
  | k + 1,k_58,i_59,a_60 =>
    if (decide (i_59 < (a_60.length:Int))) then
    if 0 ≤ i_59 ∧ i_59 < (a_60.length:Int) then
    (a_60[(0 + i_59.toNat)]?).bind fun x_76 =>
    if 0 ≤ i_59 ∧ i_59 < (a_60.length:Int) then
    (laws_markText (w64 ((w64 (k_58 + 1)) + 1))).bind fun r_79 =>
    if 0 ≤ i_59 ∧ i_59 < (a_60.length:Int) then
    laws_markAtomS_L1 k (w64 ((w64 ((w64 (k_58 + 1)) + 1)) + 1)) (w64 (i_59 + 1)) (((a_60.set (0 + i_59.toNat) (⟨k_58,x_76.N,x_76.T⟩:GAtom)).set (0 + i_59.toNat) (⟨k_58,w64 (k_58 + 1),x_76.T⟩:GAtom)).set (0 + i_59.toNat) (⟨k_58,w64 (k_58 + 1),r_79⟩:GAtom))
    else none
    else none
    else none
    else
    some (k_58,a_60)

def laws_markAtomS (a_1:(List GAtom)) (k_2:Int):Option (Int × (List GAtom)) :=
    (laws_markAtomS_L1 FUEL k_2 0 a_1).bind fun p72 =>
    (match p72 with
    | (k_70,l_71) =>
    some (k_70,l_71))
theorem w_laws_markAtomS (a_1:(List GAtom)) (k_2:Int) (r:(Int × (List GAtom))) (hf:laws_markAtomS a_1 k_2 = some r):CallHeap Tryz.prog ⟨true,true⟩ 101 [(.own 0 0 a_1.length),(.int .i64 k_2)] [.row 3 (a_1.map encGAtom)] (.int .i64 r.1) [.row 3 (r.2.map encGAtom)]:=by
 refine CallHeap.of_awp mixed Tryz.func101 fc101_h0 nle ?_;rw [argT_eq];unfold laws_markAtomS at hf;unfold c101_h0;refine (show awp Tryz.prog ⟨true,true⟩ 1 _ (ofL [(0,(.own 0 0 a_1.length)),(1,(.int .i64 k_2))]) [.row 3 (a_1.map encGAtom)] _ from ?_);refine sr<|s_mov (.int .i64 0) rfl<|dk<|awp_seq<|sr<|s_mov (.int .i64 0) rfl<|dk<|?_
 obtain ⟨p72,hb1,hf⟩:=ob hf
 refine awp_cut ([(1,(.int .i64 p72.1))],[.row 3 (p72.2.map encGAtom)]) ?_ ?_
 ·refine awp_loop (X:={q:(Nat × Int × Int × (List GAtom)) // laws_markAtomS_L1 q.1 q.2.1 q.2.2.1 q.2.2.2 = some p72}) (fun q => ([(0,(.own 0 0 q.1.2.2.2.length)),(1,(.int .i64 q.1.2.1)),(5,(.int .i64 q.1.2.2.1))],[.row 3 (q.1.2.2.2.map encGAtom)])) (fun q => q.1.1) ⟨(FUEL,k_2,0,a_1),hb1⟩ ⟨[],[0],_,_,rfl,rfl,⟨.refl _,⟨.refl _,⟨.refl _,trivial⟩⟩⟩,(.refl _)⟩ ?_
  rintro ⟨⟨k,k_58,i_59,a_60⟩,hc1⟩
  have hc1:laws_markAtomS_L1 k k_58 i_59 a_60 = some p72:=hc1
  refine (show awp Tryz.prog ⟨true,true⟩ 1 _ (ofL [(0,(.own 0 0 a_60.length)),(1,(.int .i64 k_58)),(5,(.int .i64 i_59))]) [.row 3 (a_60.map encGAtom)] _ from ?_)
  rcases k with _ | k
  ·rw [laws_markAtomS_L1.eq_1] at hc1
   cases hc1
  ·rw [laws_markAtomS_L1.eq_2] at hc1;refine awp_seq<|sr<|s_mov (.int .i64 i_59) rfl<|s_mov (.own 0 0 a_60.length) rfl<|s_dof (o_lenown rfl rfl) fun hl73 => s_q (.bool (decide (i_59 < (a_60.length:Int)))) rfl (.of rfl trivial) rfl<|dk<|?_
   rcases oi hc1 with ⟨c74,hc1⟩ | ⟨c74,hc1⟩
   ·refine w_condt rfl c74<|w_skip<|k_seq<|awp_seq<|w_blk<|sr<|?_
    obtain ⟨g75,hc1⟩:=og hc1
    obtain ⟨x_76,ex77,hc1⟩:=ob hc1
    refine s_mov (.own 0 0 a_60.length) rfl<|s_mov (.int .i64 i_59) rfl<|s_mov (.int .i64 k_58) rfl<|s_do (o_iaddrown rfl rfl g75.1 g75.2 rfl rfl)<|s_q (.ptr 0 (0 + i_59.toNat) 0) rfl (.of trivial trivial) rfl<|?_;refine s_do0 (o_storerow (v':=(.int .i64 k_58)) (e':=(⟨k_58,x_76.N,x_76.T⟩:GAtom)) rfl rfl ex77 rfl rfl rfl (by decide) (fun _ => by decide) ⟨rfl,nle⟩ (.refl _) rfl) ?_;refine dk<|sr<|s_mov (.int .i64 k_58) rfl<|s_q (.int .i64 (w64 (k_58 + 1))) rfl (.of rfl trivial) rfl<|s_mov (.int .i64 (w64 (k_58 + 1))) rfl<|dk<|sr<|?_
    obtain ⟨g78,hc1⟩:=og hc1
    refine s_mov (.own 0 0 a_60.length) rfl<|s_mov (.int .i64 i_59) rfl<|s_mov (.int .i64 (w64 (k_58 + 1))) rfl<|s_do (o_iaddrown rfl rfl g78.1 g78.2 rfl rfl)<|s_q (.ptr 0 (0 + i_59.toNat) 1) rfl (.of trivial trivial) rfl<|?_;refine s_do0 (o_storerow (v':=(.int .i64 (w64 (k_58 + 1)))) (e':=(⟨k_58,w64 (k_58 + 1),x_76.T⟩:GAtom)) rfl rfl (setget ex77) rfl rfl rfl (by decide) (fun _ => by decide) ⟨rfl,nle⟩ (.refl _) rfl) ?_;refine dk<|sr<|s_mov (.int .i64 (w64 (k_58 + 1))) rfl<|s_q (.int .i64 (w64 ((w64 (k_58 + 1)) + 1))) rfl (.of rfl trivial) rfl<|s_mov (.int .i64 (w64 ((w64 (k_58 + 1)) + 1))) rfl<|dk<|sr<|?_
    obtain ⟨r_79,er80,hc1⟩:=ob hc1
    obtain ⟨g81,hc1⟩:=og hc1
    refine s_mov (.own 0 0 a_60.length) rfl<|s_mov (.int .i64 i_59) rfl<|s_mov (.int .i64 (w64 ((w64 (k_58 + 1)) + 1))) rfl<|s_do (o_call (w_laws_markText _ _ er80) rfl (.refl _) rfl)<|s_do (o_iaddrown rfl rfl g81.1 g81.2 rfl rfl)<|s_q (.ptr 0 (0 + i_59.toNat) 2) rfl (.of trivial trivial) rfl<|?_;refine s_do0 (o_storerow (v':=(.str r_79)) (e':=(⟨k_58,w64 (k_58 + 1),r_79⟩:GAtom)) rfl rfl (setget (setget ex77)) rfl rfl rfl (by decide) (fun _ => by decide) ⟨rfl,nle⟩ (.refl _) rfl) ?_;refine dk<|w_reg<|s_mov (.int .i64 (w64 ((w64 (k_58 + 1)) + 1))) rfl<|s_q (.int .i64 (w64 ((w64 ((w64 (k_58 + 1)) + 1)) + 1))) rfl (.of rfl trivial) rfl<|s_mov (.int .i64 (w64 ((w64 ((w64 (k_58 + 1)) + 1)) + 1))) rfl<|?_
    refine w_done<|k_blk<|k_seq<|w_reg<|s_mov (.int .i64 i_59) rfl<|s_q (.int .i64 (w64 (i_59 + 1))) rfl (.of rfl trivial) rfl<|s_mov (.int .i64 (w64 (i_59 + 1))) rfl<|w_done<|?_;exact k_loopn ⟨(k,w64 ((w64 ((w64 (k_58 + 1)) + 1)) + 1),w64 (i_59 + 1),((a_60.set (0 + i_59.toNat) (⟨k_58,x_76.N,x_76.T⟩:GAtom)).set (0 + i_59.toNat) (⟨k_58,w64 (k_58 + 1),x_76.T⟩:GAtom)).set (0 + i_59.toNat) (⟨k_58,w64 (k_58 + 1),r_79⟩:GAtom)),hc1⟩ (Nat.lt_succ_self _) ⟨[],[0],_,_,rfl,rfl,⟨.of_eq (congrArg (AV.own _ 0) (by simp)),⟨.refl _,⟨.refl _,trivial⟩⟩⟩,(.refl _)⟩
   ·refine w_condf rfl (bf c74)<|w_exit<|k_seqx<|k_loopx<|k_blkx<|?_;obtain rfl:=os hc1;exact ⟨[],[0],_,_,rfl,rfl,⟨.refl _,trivial⟩,(.refl _)⟩
 ·obtain ⟨k_70,l_71⟩:=p72
  refine sr<|s_mov (.int .i64 k_70) rfl<|s_mov (.int .i64 k_70) rfl<|dk<|w_ret<|?_;obtain rfl:=os hf;exact r_heap [] [0] rfl ⟨.of trivial trivial,trivial⟩ rfl (.refl _) (.refl _)

/- laws.markAtomSS -/
def c100_h0:ACode :=
 (.seq (.reg (tm 4 (.c (.int .i64 0)) .done))
 (.seq (.seq (.reg (tm 5 (.c (.int .i64 0)) .done))
 (.block 0 (.loop (.seq (.seq (.reg (tm 6 (.t 5) (tm 7 (.t 0) (tq 8 (.len (.t 7)) (tq 9 (.bin .lss (.t 6) (.t 8)) .done)))))
 (.cond (.t 9) .skip
 (.exit 0)))
 (.seq (.block 1 (.rev (.reg (tm 12 (.t 0) (tm 13 (.t 5) (tq 14 (.iaddr 1 (.t 12) (.t 13)) (tq 15 (.load 1 false (.t 14)) (tm 16 (.t 1) (tq 17 (.call 101 [(.t 15),(.t 16)]) (tm 1 (.t 17) .done))))))))))
 (.reg (tm 10 (.t 5) (tq 11 (.bin .add (.t 10) (.c (.int .i64 1))) (tm 5 (.t 11) .done)))))))))
 (.cut (.seq (.reg (tm 18 (.t 1) (tm 4 (.t 18) .done)))
 .ret))))
theorem fc100_h0:fcomp Tryz.prog Tryz.f100 = some (c100_h0.erase,[.mov (.t 4)],19):=by kernel_rfl
def laws_markAtomSS_L1 :Nat → Int → Int → (List (List GAtom)) → Option (Int × (List (List GAtom)))
  | 0,_,_,_ => none
  | k + 1,k_58,i_59,a_60 =>
    if (decide (i_59 < (a_60.length:Int))) then
    ((a_60[(0 + i_59.toNat)]?)).bind fun x_76 =>
    if 0 ≤ i_59 ∧ i_59 < (a_60.length:Int) then
    (laws_markAtomS x_76 k_58).bind fun r_80 =>
    laws_markAtomSS_L1 k r_80.1 (w64 (i_59 + 1)) (a_60.set (0 + i_59.toNat) r_80.2)
    else none
    else
    some (k_58,a_60)

def laws_markAtomSS (a_1:(List (List GAtom))) (k_2:Int):Option (Int × (List (List GAtom))) :=
    (laws_markAtomSS_L1 FUEL k_2 0 a_1).bind fun p72 =>
    (match p72 with
    | (k_70,l_71) =>
    some (k_70,l_71))
theorem w_laws_markAtomSS (a_1:(List (List GAtom))) (k_2:Int) (r:(Int × (List (List GAtom)))) (hf:laws_markAtomSS a_1 k_2 = some r):CallHeap Tryz.prog ⟨true,true⟩ 100 [(.own 0 0 a_1.length),(.int .i64 k_2)] [.row 1 (a_1.map (encL 3 encGAtom))] (.int .i64 r.1) [.row 1 (r.2.map (encL 3 encGAtom))]:=by
 refine CallHeap.of_awp mixed Tryz.func100 fc100_h0 nle ?_;rw [argT_eq];unfold laws_markAtomSS at hf;unfold c100_h0;refine (show awp Tryz.prog ⟨true,true⟩ 1 _ (ofL [(0,(.own 0 0 a_1.length)),(1,(.int .i64 k_2))]) [.row 1 (a_1.map (encL 3 encGAtom))] _ from ?_);refine sr<|s_mov (.int .i64 0) rfl<|dk<|awp_seq<|sr<|s_mov (.int .i64 0) rfl<|dk<|?_
 obtain ⟨p72,hb1,hf⟩:=ob hf
 refine awp_cut ([(1,(.int .i64 p72.1))],[.row 1 (p72.2.map (encL 3 encGAtom))]) ?_ ?_
 ·refine awp_loop (X:={q:(Nat × Int × Int × (List (List GAtom))) // laws_markAtomSS_L1 q.1 q.2.1 q.2.2.1 q.2.2.2 = some p72}) (fun q => ([(0,(.own 0 0 q.1.2.2.2.length)),(1,(.int .i64 q.1.2.1)),(5,(.int .i64 q.1.2.2.1))],[.row 1 (q.1.2.2.2.map (encL 3 encGAtom))])) (fun q => q.1.1) ⟨(FUEL,k_2,0,a_1),hb1⟩ ⟨[],[0],_,_,rfl,rfl,⟨.refl _,⟨.refl _,⟨.refl _,trivial⟩⟩⟩,(.refl _)⟩ ?_
  rintro ⟨⟨k,k_58,i_59,a_60⟩,hc1⟩
  have hc1:laws_markAtomSS_L1 k k_58 i_59 a_60 = some p72:=hc1
  refine (show awp Tryz.prog ⟨true,true⟩ 1 _ (ofL [(0,(.own 0 0 a_60.length)),(1,(.int .i64 k_58)),(5,(.int .i64 i_59))]) [.row 1 (a_60.map (encL 3 encGAtom))] _ from ?_)
  rcases k with _ | k
  ·rw [laws_markAtomSS_L1.eq_1] at hc1
   cases hc1
  ·rw [laws_markAtomSS_L1.eq_2] at hc1;refine awp_seq<|sr<|s_mov (.int .i64 i_59) rfl<|s_mov (.own 0 0 a_60.length) rfl<|s_dof (o_lenown rfl rfl) fun hl73 => s_q (.bool (decide (i_59 < (a_60.length:Int)))) rfl (.of rfl trivial) rfl<|dk<|?_
   rcases oi hc1 with ⟨c74,hc1⟩ | ⟨c74,hc1⟩
   ·refine w_condt rfl c74<|w_skip<|k_seq<|awp_seq<|w_blk<|?_
    obtain ⟨x_76,ex77,hc1⟩:=ob hc1
    refine w_rev (o:=0) (f:=0) (l':=x_76) (enc':=encGAtom) (el:=(.lst 3 (x_76.map encGAtom))) rfl ex77 rfl rfl fun v_78 => ?_;refine w_reg ?_
    obtain ⟨g79,hc1⟩:=og hc1
    obtain ⟨r_80,er81,hc1⟩:=ob hc1
    refine s_mov (.own 0 0 a_60.length) rfl<|s_mov (.int .i64 i_59) rfl<|s_do (o_iaddrown rfl rfl g79.1 g79.2 rfl rfl)<|s_do (o_loadhdr rfl rfl (getset ex77) ⟨rfl,rfl⟩ rfl)<|s_mov (.int .i64 k_58) rfl<|s_do (o_callm (o:=0) (l:=a_60) (enc:=(encL 3 encGAtom)) (enc':=encGAtom) (l'':=r_80.2) (y:=r_80.2) (j:=0) (el:=(.hdr v_78 3 (x_76.map encGAtom))) rfl rfl (w_laws_markAtomS _ _ _ er81) rfl rfl ex77 rfl (by decide) rfl)<|s_mov (.int .i64 r_80.1) rfl<|w_done<|k_blk<|k_seq<|w_reg<|s_mov (.int .i64 i_59) rfl<|s_q (.int .i64 (w64 (i_59 + 1))) rfl (.of rfl trivial) rfl<|s_mov (.int .i64 (w64 (i_59 + 1))) rfl<|w_done<|?_;exact k_loopn ⟨(k,r_80.1,w64 (i_59 + 1),a_60.set (0 + i_59.toNat) r_80.2),hc1⟩ (Nat.lt_succ_self _) ⟨[],[0],_,_,rfl,rfl,⟨.of_eq (congrArg (AV.own _ 0) (by simp)),⟨.refl _,⟨.refl _,trivial⟩⟩⟩,(.refl _)⟩
   ·refine w_condf rfl (bf c74)<|w_exit<|k_seqx<|k_loopx<|k_blkx<|?_;obtain rfl:=os hc1;exact ⟨[],[0],_,_,rfl,rfl,⟨.refl _,trivial⟩,(.refl _)⟩
 ·obtain ⟨k_70,l_71⟩:=p72
  refine sr<|s_mov (.int .i64 k_70) rfl<|s_mov (.int .i64 k_70) rfl<|dk<|w_ret<|?_;obtain rfl:=os hf;exact r_heap [] [0] rfl ⟨.of trivial trivial,trivial⟩ rfl (.refl _) (.refl _)

/- laws.markRow -/
def c34_h0:ACode :=
 (.seq (.reg (tq 2 (.box 2 (.t 0)) (tm 4 (.c (.int .i64 0)) .done)))
 (.seq (.reg (tq 5 (.faddr 1 (.t 2)) (tq 6 (.load 1 false (.t 5)) (tm 7 (.t 1) (tq 8 (.call 100 [(.t 6),(.t 7)]) (tm 1 (.t 8) .done))))))
 (.seq (.reg (tm 9 (.t 1) (tm 4 (.t 9) .done)))
 .ret)))
theorem fc34_h0:fcomp Tryz.prog Tryz.f34 = some (c34_h0.erase,[.mov (.t 4)],10):=by kernel_rfl
def laws_markRow (a_1:GRow) (k_2:Int):Option (Int × GRow) :=
    (laws_markAtomSS a_1.Cells k_2).bind fun r_3 =>
    some (r_3.1,(⟨a_1.Id,r_3.2⟩:GRow))
theorem w_laws_markRow (a_1:GRow) (k_2:Int) (r:(Int × GRow)) (hf:laws_markRow a_1 k_2 = some r):CallHeap Tryz.prog ⟨true,true⟩ 34 [(.agg [(.int .i64 a_1.Id),(.own 0 0 a_1.Cells.length)]),(.int .i64 k_2)] [.row 1 (a_1.Cells.map (encL 3 encGAtom))] (.int .i64 r.1) [.row 1 (r.2.Cells.map (encL 3 encGAtom))]:=by
 refine CallHeap.of_awp mixed Tryz.func34 fc34_h0 nle ?_;rw [argT_eq];unfold laws_markRow at hf;unfold c34_h0;refine (show awp Tryz.prog ⟨true,true⟩ 1 _ (ofL [(0,(.agg [(.int .i64 a_1.Id),(.own 0 0 a_1.Cells.length)])),(1,(.int .i64 k_2))]) [.row 1 (a_1.Cells.map (encL 3 encGAtom))] _ from ?_);refine sr<|s_do (o_box (j:=1) (c:=(.agg [(.int .i64 a_1.Id),(.own 0 0 a_1.Cells.length)])) rfl trivial rfl rfl)<|s_mov (.int .i64 0) rfl<|dk<|sr<|?_
 obtain ⟨r_3,er4,hf⟩:=ob hf
 refine s_q (.ptr 1 0 1) rfl (.of trivial trivial) rfl<|s_q (.own 0 0 a_1.Cells.length) rfl (.of nle trivial) rfl<|s_mov (.int .i64 k_2) rfl<|?_;refine s_dof (o_callhs (v:=(.int .i64 r_3.1)) (h2:=[.row 1 (r_3.2.map (encL 3 encGAtom)),.box 2 (.agg [(.int .i64 a_1.Id),(.own 0 0 a_1.Cells.length)])]) [] [0] (fun _ => rfl) (w_laws_markAtomSS _ _ _ er4) rfl (.refl _) (.refl _) rfl rfl) fun hl5 => ?_;refine s_mov (.int .i64 r_3.1) rfl<|dk<|sr<|s_mov (.int .i64 r_3.1) rfl<|s_mov (.int .i64 r_3.1) rfl<|dk<|w_ret<|?_;obtain rfl:=os hf;exact r_heap [] [0] rfl ⟨.of trivial trivial,trivial⟩ rfl (.refl _) (.refl _)

/- laws.markStringS -/
def c77_h0:ACode :=
 (.seq (.reg (tm 4 (.c (.int .i64 0)) .done))
 (.seq (.seq (.reg (tm 5 (.c (.int .i64 0)) .done))
 (.block 0 (.loop (.seq (.seq (.reg (tm 6 (.t 5) (tm 7 (.t 0) (tq 8 (.len (.t 7)) (tq 9 (.bin .lss (.t 6) (.t 8)) .done)))))
 (.cond (.t 9) .skip
 (.exit 0)))
 (.seq (.block 1 (.seq (.reg (tm 12 (.t 0) (tm 13 (.t 5) (tm 14 (.t 1) (tq 15 (.call 74 [(.t 14)]) (tq 16 (.iaddr 1 (.t 12) (.t 13)) (.q ⟨none,none,.store 1 (.t 16) (.t 15)⟩
 .done)))))))
 (.reg (tm 17 (.t 1) (tq 18 (.bin .add (.t 17) (.c (.int .i64 1))) (tm 1 (.t 18) .done))))))
 (.reg (tm 10 (.t 5) (tq 11 (.bin .add (.t 10) (.c (.int .i64 1))) (tm 5 (.t 11) .done)))))))))
 (.cut (.seq (.reg (tm 19 (.t 1) (tm 4 (.t 19) .done)))
 .ret))))
theorem fc77_h0:fcomp Tryz.prog Tryz.f77 = some (c77_h0.erase,[.mov (.t 4)],20):=by kernel_rfl
def laws_markStringS_L1 :Nat → Int → Int → (List Str) → Option (Int × (List Str))
  | 0,_,_,_ => none
  | k + 1,k_48,i_49,a_50 =>
    if (decide (i_49 < (a_50.length:Int))) then
    (laws_markText k_48).bind fun r_63 =>
    if 0 ≤ i_49 ∧ i_49 < (a_50.length:Int) then
    (a_50[(0 + i_49.toNat)]?).bind fun x_66 =>
    laws_markStringS_L1 k (w64 (k_48 + 1)) (w64 (i_49 + 1)) (a_50.set (0 + i_49.toNat) r_63)
    else none
    else
    some (k_48,a_50)

def laws_markStringS (a_1:(List Str)) (k_2:Int):Option (Int × (List Str)) :=
    (laws_markStringS_L1 FUEL k_2 0 a_1).bind fun p60 =>
    (match p60 with
    | (k_58,l_59) =>
    some (k_58,l_59))
theorem w_laws_markStringS (a_1:(List Str)) (k_2:Int) (r:(Int × (List Str))) (hf:laws_markStringS a_1 k_2 = some r):CallHeap Tryz.prog ⟨true,true⟩ 77 [(.own 0 0 a_1.length),(.int .i64 k_2)] [.row 1 (a_1.map AV.str)] (.int .i64 r.1) [.row 1 (r.2.map AV.str)]:=by
 refine CallHeap.of_awp mixed Tryz.func77 fc77_h0 nle ?_;rw [argT_eq];unfold laws_markStringS at hf;unfold c77_h0;refine (show awp Tryz.prog ⟨true,true⟩ 1 _ (ofL [(0,(.own 0 0 a_1.length)),(1,(.int .i64 k_2))]) [.row 1 (a_1.map AV.str)] _ from ?_);refine sr<|s_mov (.int .i64 0) rfl<|dk<|awp_seq<|sr<|s_mov (.int .i64 0) rfl<|dk<|?_
 obtain ⟨p60,hb1,hf⟩:=ob hf
 refine awp_cut ([(1,(.int .i64 p60.1))],[.row 1 (p60.2.map AV.str)]) ?_ ?_
 ·refine awp_loop (X:={q:(Nat × Int × Int × (List Str)) // laws_markStringS_L1 q.1 q.2.1 q.2.2.1 q.2.2.2 = some p60}) (fun q => ([(0,(.own 0 0 q.1.2.2.2.length)),(1,(.int .i64 q.1.2.1)),(5,(.int .i64 q.1.2.2.1))],[.row 1 (q.1.2.2.2.map AV.str)])) (fun q => q.1.1) ⟨(FUEL,k_2,0,a_1),hb1⟩ ⟨[],[0],_,_,rfl,rfl,⟨.refl _,⟨.refl _,⟨.refl _,trivial⟩⟩⟩,(.refl _)⟩ ?_
  rintro ⟨⟨k,k_48,i_49,a_50⟩,hc1⟩
  have hc1:laws_markStringS_L1 k k_48 i_49 a_50 = some p60:=hc1
  refine (show awp Tryz.prog ⟨true,true⟩ 1 _ (ofL [(0,(.own 0 0 a_50.length)),(1,(.int .i64 k_48)),(5,(.int .i64 i_49))]) [.row 1 (a_50.map AV.str)] _ from ?_)
  rcases k with _ | k
  ·rw [laws_markStringS_L1.eq_1] at hc1
   cases hc1
  ·rw [laws_markStringS_L1.eq_2] at hc1;refine awp_seq<|sr<|s_mov (.int .i64 i_49) rfl<|s_mov (.own 0 0 a_50.length) rfl<|s_dof (o_lenown rfl rfl) fun hl61 => s_q (.bool (decide (i_49 < (a_50.length:Int)))) rfl (.of rfl trivial) rfl<|dk<|?_
   rcases oi hc1 with ⟨c62,hc1⟩ | ⟨c62,hc1⟩
   ·refine w_condt rfl c62<|w_skip<|k_seq<|awp_seq<|w_blk<|sr<|?_
    obtain ⟨r_63,er64,hc1⟩:=ob hc1
    obtain ⟨g65,hc1⟩:=og hc1
    obtain ⟨x_66,ex67,hc1⟩:=ob hc1
    refine s_mov (.own 0 0 a_50.length) rfl<|s_mov (.int .i64 i_49) rfl<|s_mov (.int .i64 k_48) rfl<|s_do (o_call (w_laws_markText _ _ er64) rfl (.refl _) rfl)<|s_do (o_iaddrown rfl rfl g65.1 g65.2 rfl rfl)<|?_;refine s_do0 (o_storerow (v':=(.str r_63)) (e':=r_63) rfl rfl ex67 rfl rfl rfl (by decide) (fun _ => by decide) ⟨rfl,rfl,rfl⟩ (.refl _) rfl) ?_;refine dk<|w_reg<|s_mov (.int .i64 k_48) rfl<|s_q (.int .i64 (w64 (k_48 + 1))) rfl (.of rfl trivial) rfl<|s_mov (.int .i64 (w64 (k_48 + 1))) rfl<|w_done<|k_blk<|k_seq<|w_reg<|s_mov (.int .i64 i_49) rfl<|s_q (.int .i64 (w64 (i_49 + 1))) rfl (.of rfl trivial) rfl<|s_mov (.int .i64 (w64 (i_49 + 1))) rfl<|w_done<|?_;exact k_loopn ⟨(k,w64 (k_48 + 1),w64 (i_49 + 1),a_50.set (0 + i_49.toNat) r_63),hc1⟩ (Nat.lt_succ_self _) ⟨[],[0],_,_,rfl,rfl,⟨.of_eq (congrArg (AV.own _ 0) (by simp)),⟨.refl _,⟨.refl _,trivial⟩⟩⟩,(.refl _)⟩
   ·refine w_condf rfl (bf c62)<|w_exit<|k_seqx<|k_loopx<|k_blkx<|?_;obtain rfl:=os hc1;exact ⟨[],[0],_,_,rfl,rfl,⟨.refl _,trivial⟩,(.refl _)⟩
 ·obtain ⟨k_58,l_59⟩:=p60
  refine sr<|s_mov (.int .i64 k_58) rfl<|s_mov (.int .i64 k_58) rfl<|dk<|w_ret<|?_;obtain rfl:=os hf;exact r_heap [] [0] rfl ⟨.of trivial trivial,trivial⟩ rfl (.refl _) (.refl _)

/- laws.markSetS -/
def c35_h0:ACode :=
 (.seq (.reg (tm 4 (.c (.int .i64 0)) .done))
 (.seq (.seq (.reg (tm 5 (.c (.int .i64 0)) .done))
 (.block 0 (.loop (.seq (.seq (.reg (tm 6 (.t 5) (tm 7 (.t 0) (tq 8 (.len (.t 7)) (tq 9 (.bin .lss (.t 6) (.t 8)) .done)))))
 (.cond (.t 9) .skip
 (.exit 0)))
 (.seq (.block 1 (.seq (.reg (tm 12 (.t 0) (tm 13 (.t 5) (tm 14 (.t 1) (tq 15 (.call 74 [(.t 14)]) (tq 16 (.iaddr 3 (.t 12) (.t 13)) (tq 17 (.faddr 0 (.t 16)) (.q ⟨none,none,.store 1 (.t 17) (.t 15)⟩
 .done))))))))
 (.seq (.reg (tm 18 (.t 1) (tq 19 (.bin .add (.t 18) (.c (.int .i64 1))) (tm 1 (.t 19) .done))))
 (.seq (.rev (.reg (tm 20 (.t 0) (tm 21 (.t 5) (tq 22 (.iaddr 3 (.t 20) (.t 21)) (tq 23 (.faddr 1 (.t 22)) (tq 24 (.load 1 false (.t 23)) (tm 25 (.t 1) (tq 26 (.call 101 [(.t 24),(.t 25)]) (tm 1 (.t 26) .done))))))))))
 (.rev (.reg (tm 27 (.t 0) (tm 28 (.t 5) (tq 29 (.iaddr 3 (.t 27) (.t 28)) (tq 30 (.faddr 2 (.t 29)) (tq 31 (.load 1 false (.t 30)) (tm 32 (.t 1) (tq 33 (.call 77 [(.t 31),(.t 32)]) (tm 1 (.t 33) .done))))))))))))))
 (.reg (tm 10 (.t 5) (tq 11 (.bin .add (.t 10) (.c (.int .i64 1))) (tm 5 (.t 11) .done)))))))))
 (.cut (.seq (.reg (tm 34 (.t 1) (tm 4 (.t 34) .done)))
 .ret))))
theorem fc35_h0:fcomp Tryz.prog Tryz.f35 = some (c35_h0.erase,[.mov (.t 4)],35):=by kernel_rfl
def laws_markSetS_L1 :Nat → Int → Int → (List GSet) → Option (Int × (List GSet))
  | 0,_,_,_ => none
  | k + 1,k_98,i_99,a_100 =>
    if (decide (i_99 < (a_100.length:Int))) then
    (laws_markText k_98).bind fun r_123 =>
    if 0 ≤ i_99 ∧ i_99 < (a_100.length:Int) then
    (a_100[(0 + i_99.toNat)]?).bind fun x_126 =>
    if 0 ≤ i_99 ∧ i_99 < (a_100.length:Int) then
    (laws_markAtomS x_126.Value (w64 (k_98 + 1))).bind fun r_131 =>
    if 0 ≤ i_99 ∧ i_99 < (a_100.length:Int) then
    (laws_markStringS x_126.Names r_131.1).bind fun r_136 =>
    laws_markSetS_L1 k r_136.1 (w64 (i_99 + 1)) (((a_100.set (0 + i_99.toNat) (⟨r_123,x_126.Value,x_126.Names⟩:GSet)).set (0 + i_99.toNat) (⟨r_123,r_131.2,x_126.Names⟩:GSet)).set (0 + i_99.toNat) (⟨r_123,r_131.2,r_136.2⟩:GSet))
    else none
    else none
    else none
    else
    some (k_98,a_100)

def laws_markSetS (a_1:(List GSet)) (k_2:Int):Option (Int × (List GSet)) :=
    (laws_markSetS_L1 FUEL k_2 0 a_1).bind fun p120 =>
    (match p120 with
    | (k_118,l_119) =>
    some (k_118,l_119))
theorem w_laws_markSetS (a_1:(List GSet)) (k_2:Int) (r:(Int × (List GSet))) (hf:laws_markSetS a_1 k_2 = some r):CallHeap Tryz.prog ⟨true,true⟩ 35 [(.own 0 0 a_1.length),(.int .i64 k_2)] [.row 3 (a_1.map encGSet)] (.int .i64 r.1) [.row 3 (r.2.map encGSet)]:=by
 refine CallHeap.of_awp mixed Tryz.func35 fc35_h0 nle ?_;rw [argT_eq];unfold laws_markSetS at hf;unfold c35_h0;refine (show awp Tryz.prog ⟨true,true⟩ 1 _ (ofL [(0,(.own 0 0 a_1.length)),(1,(.int .i64 k_2))]) [.row 3 (a_1.map encGSet)] _ from ?_);refine sr<|s_mov (.int .i64 0) rfl<|dk<|awp_seq<|sr<|s_mov (.int .i64 0) rfl<|dk<|?_
 obtain ⟨p120,hb1,hf⟩:=ob hf
 refine awp_cut ([(1,(.int .i64 p120.1))],[.row 3 (p120.2.map encGSet)]) ?_ ?_
 ·refine awp_loop (X:={q:(Nat × Int × Int × (List GSet)) // laws_markSetS_L1 q.1 q.2.1 q.2.2.1 q.2.2.2 = some p120}) (fun q => ([(0,(.own 0 0 q.1.2.2.2.length)),(1,(.int .i64 q.1.2.1)),(5,(.int .i64 q.1.2.2.1))],[.row 3 (q.1.2.2.2.map encGSet)])) (fun q => q.1.1) ⟨(FUEL,k_2,0,a_1),hb1⟩ ⟨[],[0],_,_,rfl,rfl,⟨.refl _,⟨.refl _,⟨.refl _,trivial⟩⟩⟩,(.refl _)⟩ ?_
  rintro ⟨⟨k,k_98,i_99,a_100⟩,hc1⟩
  have hc1:laws_markSetS_L1 k k_98 i_99 a_100 = some p120:=hc1
  refine (show awp Tryz.prog ⟨true,true⟩ 1 _ (ofL [(0,(.own 0 0 a_100.length)),(1,(.int .i64 k_98)),(5,(.int .i64 i_99))]) [.row 3 (a_100.map encGSet)] _ from ?_)
  rcases k with _ | k
  ·rw [laws_markSetS_L1.eq_1] at hc1
   cases hc1
  ·rw [laws_markSetS_L1.eq_2] at hc1;refine awp_seq<|sr<|s_mov (.int .i64 i_99) rfl<|s_mov (.own 0 0 a_100.length) rfl<|s_dof (o_lenown rfl rfl) fun hl121 => s_q (.bool (decide (i_99 < (a_100.length:Int)))) rfl (.of rfl trivial) rfl<|dk<|?_
   rcases oi hc1 with ⟨c122,hc1⟩ | ⟨c122,hc1⟩
   ·refine w_condt rfl c122<|w_skip<|k_seq<|awp_seq<|w_blk<|sr<|?_
    obtain ⟨r_123,er124,hc1⟩:=ob hc1
    obtain ⟨g125,hc1⟩:=og hc1
    obtain ⟨x_126,ex127,hc1⟩:=ob hc1
    refine s_mov (.own 0 0 a_100.length) rfl<|s_mov (.int .i64 i_99) rfl<|s_mov (.int .i64 k_98) rfl<|s_do (o_call (w_laws_markText _ _ er124) rfl (.refl _) rfl)<|s_do (o_iaddrown rfl rfl g125.1 g125.2 rfl rfl)<|s_q (.ptr 0 (0 + i_99.toNat) 0) rfl (.of trivial trivial) rfl<|?_;refine s_do0 (o_storerow (v':=(.str r_123)) (e':=(⟨r_123,x_126.Value,x_126.Names⟩:GSet)) rfl rfl ex127 rfl rfl rfl (by decide) (fun _ => by decide) ⟨rfl,nle⟩ (.refl _) rfl) ?_;refine dk<|sr<|s_mov (.int .i64 k_98) rfl<|s_q (.int .i64 (w64 (k_98 + 1))) rfl (.of rfl trivial) rfl<|s_mov (.int .i64 (w64 (k_98 + 1))) rfl<|dk<|awp_seq<|?_;refine w_rev (o:=0) (f:=1) (l':=x_126.Value) (enc':=encGAtom) (el:=(.agg [(.str r_123),(.lst 3 (x_126.Value.map encGAtom)),(.lst 1 (x_126.Names.map AV.str))])) rfl (setget ex127) rfl rfl fun v_129 => ?_
    refine w_reg ?_
    obtain ⟨g130,hc1⟩:=og hc1
    obtain ⟨r_131,er132,hc1⟩:=ob hc1
    refine s_mov (.own 0 0 a_100.length) rfl<|s_mov (.int .i64 i_99) rfl<|s_do (o_iaddrown rfl rfl g130.1 g130.2 rfl rfl)<|s_q (.ptr 0 (0 + i_99.toNat) 1) rfl (.of trivial trivial) rfl<|s_do (o_loadhdr rfl rfl (getset (setget ex127)) nle rfl)<|s_mov (.int .i64 (w64 (k_98 + 1))) rfl<|s_do (o_callm (o:=0) (l:=(a_100.set (0 + i_99.toNat) (⟨r_123,x_126.Value,x_126.Names⟩:GSet))) (enc:=encGSet) (enc':=encGAtom) (l'':=r_131.2) (y:=(⟨r_123,r_131.2,x_126.Names⟩:GSet)) (j:=1) (el:=(.agg [(.str r_123),(.hdr v_129 3 (x_126.Value.map encGAtom)),(.lst 1 (x_126.Names.map AV.str))])) rfl rfl (w_laws_markAtomS _ _ _ er132) rfl rfl (setget ex127) rfl (by decide) rfl)<|s_mov (.int .i64 r_131.1) rfl<|?_
    refine dk<|?_;refine w_rev (o:=0) (f:=2) (l':=x_126.Names) (enc':=AV.str) (el:=(.agg [(.str r_123),(.lst 3 (r_131.2.map encGAtom)),(.lst 1 (x_126.Names.map AV.str))])) rfl (setget (setget ex127)) rfl rfl fun v_134 => ?_;refine w_reg ?_
    obtain ⟨g135,hc1⟩:=og hc1
    obtain ⟨r_136,er137,hc1⟩:=ob hc1
    refine s_mov (.own 0 0 a_100.length) rfl<|s_mov (.int .i64 i_99) rfl<|s_do (o_iaddrown rfl rfl g135.1 g135.2 rfl rfl)<|s_q (.ptr 0 (0 + i_99.toNat) 2) rfl (.of trivial trivial) rfl<|s_do (o_loadhdr rfl rfl (getset (setget (setget ex127))) nle rfl)<|s_mov (.int .i64 r_131.1) rfl<|s_do (o_callm (o:=0) (l:=((a_100.set (0 + i_99.toNat) (⟨r_123,x_126.Value,x_126.Names⟩:GSet)).set (0 + i_99.toNat) (⟨r_123,r_131.2,x_126.Names⟩:GSet))) (enc:=encGSet) (enc':=AV.str) (l'':=r_136.2) (y:=(⟨r_123,r_131.2,r_136.2⟩:GSet)) (j:=2) (el:=(.agg [(.str r_123),(.lst 3 (r_131.2.map encGAtom)),(.hdr v_134 1 (x_126.Names.map AV.str))])) rfl rfl (w_laws_markStringS _ _ _ er137) rfl rfl (setget (setget ex127)) rfl (by decide) rfl)<|?_
    refine s_mov (.int .i64 r_136.1) rfl<|w_done<|k_blk<|k_seq<|w_reg<|s_mov (.int .i64 i_99) rfl<|s_q (.int .i64 (w64 (i_99 + 1))) rfl (.of rfl trivial) rfl<|s_mov (.int .i64 (w64 (i_99 + 1))) rfl<|w_done<|?_;exact k_loopn ⟨(k,r_136.1,w64 (i_99 + 1),((a_100.set (0 + i_99.toNat) (⟨r_123,x_126.Value,x_126.Names⟩:GSet)).set (0 + i_99.toNat) (⟨r_123,r_131.2,x_126.Names⟩:GSet)).set (0 + i_99.toNat) (⟨r_123,r_131.2,r_136.2⟩:GSet)),hc1⟩ (Nat.lt_succ_self _) ⟨[],[0],_,_,rfl,rfl,⟨.of_eq (congrArg (AV.own _ 0) (by simp)),⟨.refl _,⟨.refl _,trivial⟩⟩⟩,(.refl _)⟩
   ·refine w_condf rfl (bf c122)<|w_exit<|k_seqx<|k_loopx<|k_blkx<|?_;obtain rfl:=os hc1;exact ⟨[],[0],_,_,rfl,rfl,⟨.refl _,trivial⟩,(.refl _)⟩
 ·obtain ⟨k_118,l_119⟩:=p120
  refine sr<|s_mov (.int .i64 k_118) rfl<|s_mov (.int .i64 k_118) rfl<|dk<|w_ret<|?_;obtain rfl:=os hf;exact r_heap [] [0] rfl ⟨.of trivial trivial,trivial⟩ rfl (.refl _) (.refl _)

/- laws.heldAtomS -/
def c179:ACode :=
 (.seq (.reg (tm 4 (.c (.int .i64 0)) .done))
 (.seq (.seq (.reg (tm 5 (.c (.int .i64 0)) .done))
 (.block 0 (.loop (.seq (.seq (.reg (tm 6 (.t 5) (tm 7 (.t 0) (tq 8 (.len (.t 7)) (tq 9 (.bin .lss (.t 6) (.t 8)) .done)))))
 (.cond (.t 9) .skip
 (.exit 0)))
 (.seq (.block 1 (.seq (.seq (.reg (tm 12 (.t 0) (tm 13 (.t 5) (tq 14 (.iaddr 3 (.t 12) (.t 13)) (tq 15 (.faddr 0 (.t 14)) (tq 16 (.load 1 false (.t 15)) (tm 17 (.t 1) (tq 18 (.bin .neq (.t 16) (.t 17)) .done))))))))
 (.cond (.t 18) (.seq (.reg (tq 4 (.mov (.c (.int .i64 (-1)))) .done))
 .ret)
 .skip))
 (.seq (.reg (tm 19 (.t 1) (tq 20 (.bin .add (.t 19) (.c (.int .i64 1))) (tm 1 (.t 20) .done))))
 (.seq (.seq (.reg (tm 21 (.t 0) (tm 22 (.t 5) (tq 23 (.iaddr 3 (.t 21) (.t 22)) (tq 24 (.faddr 1 (.t 23)) (tq 25 (.load 1 false (.t 24)) (tm 26 (.t 1) (tq 27 (.bin .neq (.t 25) (.t 26)) .done))))))))
 (.cond (.t 27) (.seq (.reg (tq 4 (.mov (.c (.int .i64 (-1)))) .done))
 .ret)
 .skip))
 (.seq (.reg (tm 28 (.t 1) (tq 29 (.bin .add (.t 28) (.c (.int .i64 1))) (tm 1 (.t 29) .done))))
 (.seq (.seq (.reg (tm 30 (.t 0) (tm 31 (.t 5) (tq 32 (.iaddr 3 (.t 30) (.t 31)) (tq 33 (.faddr 2 (.t 32)) (tq 34 (.load 1 false (.t 33)) (tm 35 (.t 1) (.l ⟨(some 36),none,.call 74 [(.t 35)]⟩ [⟨(some 34),none,.load 1 false (.t 33)⟩,⟨(some 33),none,.faddr 2 (.t 32)⟩,⟨(some 32),none,.iaddr 3 (.t 30) (.t 31)⟩]
 (tq 37 (.bin .neq (.t 34) (.t 36)) .done) .non))))))))
 (.cond (.t 37) (.seq (.reg (tq 4 (.mov (.c (.int .i64 (-1)))) .done))
 .ret)
 .skip))
 (.reg (tm 38 (.t 1) (tq 39 (.bin .add (.t 38) (.c (.int .i64 1))) (tm 1 (.t 39) .done))))))))))
 (.reg (tm 10 (.t 5) (tq 11 (.bin .add (.t 10) (.c (.int .i64 1))) (tm 5 (.t 11) .done)))))))))
 (.cut (.seq (.reg (tm 40 (.t 1) (tm 4 (.t 40) .done)))
 .ret))))
theorem fc179:fcomp Tryz.prog Tryz.f179 = some (c179.erase,[.mov (.t 4)],41):=by kernel_rfl
def laws_heldAtomS_L1 :List GAtom → Int → Option (Fl Int Int)
  | [],k_31 =>
    some (.go k_31)
  | x_55 :: xs,k_31 =>
    if (x_55.Kind != k_31) then
    some (.ret (-1))
    else
    if (x_55.N != w64 (k_31 + 1)) then
    some (.ret (-1))
    else
    (laws_markText (w64 ((w64 (k_31 + 1)) + 1))).bind fun r_60 =>
    if (!(x_55.T == r_60)) then
    some (.ret (-1))
    else
    laws_heldAtomS_L1 xs (w64 ((w64 ((w64 (k_31 + 1)) + 1)) + 1)) 

def laws_heldAtomS (a_1:(List GAtom)) (k_2:Int):Option Int :=
    (laws_heldAtomS_L1 a_1 k_2).bind fun q => (match q with
    | .ret r => some r
    | .go k_47 =>
    some k_47)
theorem w_laws_heldAtomS (a_1:(List GAtom)) (k_2:Int) (r:Int) (hf:laws_heldAtomS a_1 k_2 = some r):CallOK Tryz.prog 179 .flat [(.lst 3 (a_1.map encGAtom)),(.int .i64 k_2)] (.int .i64 r):=by
 refine CallOK.of_awp mixed Tryz.func179 fc179 nle ?_;rw [argT_eq];unfold laws_heldAtomS at hf;unfold c179;refine (show awp Tryz.prog false 0 _ (ofL [(0,(.lst 3 (a_1.map encGAtom))),(1,(.int .i64 k_2))]) [] _ from ?_);refine sr<|s_mov (.int .i64 0) rfl<|dk<|awp_seq<|sr<|s_mov (.int .i64 0) rfl<|dk<|?_
 obtain ⟨p48,hb1,hf⟩:=ob hf
 refine awp_cutx (X:={q:Int // p48 = .go q}) (fun q => ([(1,(.int .i64 q.1))],[])) ?_ ?_
 ·refine awp_loop (X:={q:(Int × Nat) // laws_heldAtomS_L1 (a_1.drop q.2) q.1 = some p48}) (fun q => ([(0,(.lst 3 (a_1.map encGAtom))),(1,(.int .i64 q.1.1)),(5,(.int .i64 (q.1.2:Int)))],[])) (fun q => a_1.length - q.1.2) ⟨(k_2,0),hb1⟩ ⟨[],[],_,_,rfl,rfl,⟨.refl _,⟨.refl _,⟨.refl _,trivial⟩⟩⟩,(.refl _)⟩ ?_
  rintro ⟨⟨k_31,i_32⟩,hc1⟩
  have hc1:laws_heldAtomS_L1 (a_1.drop i_32) k_31 = some p48:=hc1
  refine (show awp Tryz.prog false 0 _ (ofL [(0,(.lst 3 (a_1.map encGAtom))),(1,(.int .i64 k_31)),(5,(.int .i64 (i_32:Int)))]) [] _ from ?_)
  rcases dropc a_1 i_32 with ⟨hie51,hd54⟩ | ⟨hlt49,x_55,hx50,hd54⟩
  ·rw [hd54,laws_heldAtomS_L1.eq_1] at hc1
   have hq53:=dlf hie51
   refine awp_seq<|sr<|s_mov (.int .i64 (i_32:Int)) rfl<|s_mov (.lst 3 (a_1.map encGAtom)) rfl<|s_dof (o_len (enc:=encGAtom) rfl) fun hl56 => s_q (.bool (decide ((i_32:Int) < (a_1.length:Int)))) rfl rfl rfl<|dk<|w_condf rfl hq53<|w_exit<|k_seqx<|k_loopx<|k_blkx<|?_;obtain rfl:=os hc1;exact k_cutn ⟨_,rfl⟩ ⟨[],[],_,_,rfl,rfl,⟨.refl _,trivial⟩,(.refl _)⟩
  ·rw [hd54,laws_heldAtomS_L1.eq_2] at hc1
   have hq53:=dlt hlt49
   refine awp_seq<|sr<|s_mov (.int .i64 (i_32:Int)) rfl<|s_mov (.lst 3 (a_1.map encGAtom)) rfl<|s_dof (o_len (enc:=encGAtom) rfl) fun hl57 => s_q (.bool (decide ((i_32:Int) < (a_1.length:Int)))) rfl rfl rfl<|dk<|w_condt rfl hq53<|w_skip<|k_seq<|awp_seq<|w_blk<|awp_seq<|sr<|s_mov (.lst 3 (a_1.map encGAtom)) rfl<|s_mov (.int .i64 (i_32:Int)) rfl<|s_do (o_iaddrn (enc:=encGAtom) rfl rfl hx50)<|s_q (.iptr (encGAtom x_55) 0) rfl trivial rfl<|s_q (.int .i64 x_55.Kind) rfl nle rfl<|s_mov (.int .i64 k_31) rfl<|s_q (.bool (x_55.Kind != k_31)) rfl rfl rfl<|dk<|?_
   rcases oi hc1 with ⟨c58,hc1⟩ | ⟨c58,hc1⟩
   ·refine w_condt rfl c58<|sr<|s_mov (.int .i64 (-1)) rfl<|dk<|w_ret<|?_;obtain rfl:=os hc1;obtain rfl:=os hf;exact r_flat ⟨trivial,trivial⟩ rfl (.refl _)
   ·refine w_condf rfl (bf c58)<|w_skip<|k_seq<|sr<|s_mov (.int .i64 k_31) rfl<|s_q (.int .i64 (w64 (k_31 + 1))) rfl rfl rfl<|s_mov (.int .i64 (w64 (k_31 + 1))) rfl<|dk<|awp_seq<|sr<|s_mov (.lst 3 (a_1.map encGAtom)) rfl<|s_mov (.int .i64 (i_32:Int)) rfl<|s_do (o_iaddrn (enc:=encGAtom) rfl rfl hx50)<|s_q (.iptr (encGAtom x_55) 1) rfl trivial rfl<|s_q (.int .i64 x_55.N) rfl nle rfl<|s_mov (.int .i64 (w64 (k_31 + 1))) rfl<|s_q (.bool (x_55.N != w64 (k_31 + 1))) rfl rfl rfl<|dk<|?_
    rcases oi hc1 with ⟨c59,hc1⟩ | ⟨c59,hc1⟩
    ·refine w_condt rfl c59<|sr<|s_mov (.int .i64 (-1)) rfl<|dk<|w_ret<|?_;obtain rfl:=os hc1;obtain rfl:=os hf;exact r_flat ⟨trivial,trivial⟩ rfl (.refl _)
    ·refine w_condf rfl (bf c59)<|w_skip<|k_seq<|sr<|s_mov (.int .i64 (w64 (k_31 + 1))) rfl<|s_q (.int .i64 (w64 ((w64 (k_31 + 1)) + 1))) rfl rfl rfl<|s_mov (.int .i64 (w64 ((w64 (k_31 + 1)) + 1))) rfl<|dk<|awp_seq<|sr<|?_
     obtain ⟨r_60,er61,hc1⟩:=ob hc1
     refine s_mov (.lst 3 (a_1.map encGAtom)) rfl<|s_mov (.int .i64 (i_32:Int)) rfl<|s_do (o_iaddrn (enc:=encGAtom) rfl rfl hx50)<|s_q (.iptr (encGAtom x_55) 2) rfl trivial rfl<|s_q (.str x_55.T) rfl nle rfl<|s_mov (.int .i64 (w64 ((w64 (k_31 + 1)) + 1))) rfl<|s_dol (o_call (w_laws_markText _ _ er61) rfl (.refl _) rfl) a_same trivial<|s_q (.bool (!(x_55.T == r_60))) rfl trivial rfl<|dk<|?_
     rcases oi hc1 with ⟨c62,hc1⟩ | ⟨c62,hc1⟩
     ·refine w_condt rfl c62<|sr<|s_mov (.int .i64 (-1)) rfl<|dk<|w_ret<|?_;obtain rfl:=os hc1;obtain rfl:=os hf;exact r_flat ⟨trivial,trivial⟩ rfl (.refl _)
     ·refine w_condf rfl (bf c62)<|w_skip<|k_seq<|w_reg<|s_mov (.int .i64 (w64 ((w64 (k_31 + 1)) + 1))) rfl<|s_q (.int .i64 (w64 ((w64 ((w64 (k_31 + 1)) + 1)) + 1))) rfl rfl rfl<|s_mov (.int .i64 (w64 ((w64 ((w64 (k_31 + 1)) + 1)) + 1))) rfl<|w_done<|k_blk<|k_seq<|w_reg<|s_mov (.int .i64 (i_32:Int)) rfl<|s_q (.int .i64 (w64 ((i_32:Int) + 1))) rfl rfl rfl<|s_mov (.int .i64 (w64 ((i_32:Int) + 1))) rfl<|w_done<|?_;exact k_loopn ⟨(w64 ((w64 ((w64 (k_31 + 1)) + 1)) + 1),(i_32 + 1)),hc1⟩ (mul hlt49) ⟨[],[],_,_,rfl,rfl,⟨.refl _,⟨.refl _,⟨.of_eq (congrArg (AV.int _) (w64_incr hlt49 hl57)),trivial⟩⟩⟩,(.refl _)⟩
 ·rintro ⟨k_47,rfl⟩
  refine sr<|s_mov (.int .i64 k_47) rfl<|s_mov (.int .i64 k_47) rfl<|dk<|w_ret<|?_;obtain rfl:=os hf;exact r_flat ⟨trivial,trivial⟩ rfl (.refl _)

/- laws.heldAtomSS -/
def c102:ACode :=
 (.seq (.reg (tm 4 (.c (.int .i64 0)) .done))
 (.seq (.seq (.reg (tm 5 (.c (.int .i64 0)) .done))
 (.block 0 (.loop (.seq (.seq (.reg (tm 6 (.t 5) (tm 7 (.t 0) (tq 8 (.len (.t 7)) (tq 9 (.bin .lss (.t 6) (.t 8)) .done)))))
 (.cond (.t 9) .skip
 (.exit 0)))
 (.seq (.block 1 (.seq (.reg (tm 12 (.t 0) (tm 13 (.t 5) (tq 14 (.iaddr 1 (.t 12) (.t 13)) (tq 15 (.load 1 false (.t 14)) (tm 16 (.t 1) (tq 17 (.call 179 [(.t 15),(.t 16)]) (tm 1 (.t 17) .done))))))))
 (.seq (.reg (tm 18 (.t 1) (tq 19 (.bin .lss (.t 18) (.c (.int .i64 0))) .done)))
 (.cond (.t 19) (.seq (.reg (tq 4 (.mov (.c (.int .i64 (-1)))) .done))
 .ret)
 .skip))))
 (.reg (tm 10 (.t 5) (tq 11 (.bin .add (.t 10) (.c (.int .i64 1))) (tm 5 (.t 11) .done)))))))))
 (.cut (.seq (.reg (tm 20 (.t 1) (tm 4 (.t 20) .done)))
 .ret))))
theorem fc102:fcomp Tryz.prog Tryz.f102 = some (c102.erase,[.mov (.t 4)],21):=by kernel_rfl
def laws_heldAtomSS_L1 :List (List GAtom) → Int → Option (Fl Int Int)
  | [],k_19 =>
    some (.go k_19)
  | x_37 :: xs,k_19 =>
    (laws_heldAtomS x_37 k_19).bind fun r_40 =>
    if (decide (r_40 < 0)) then
    some (.ret (-1))
    else
    laws_heldAtomSS_L1 xs r_40 

def laws_heldAtomSS (a_1:(List (List GAtom))) (k_2:Int):Option Int :=
    (laws_heldAtomSS_L1 a_1 k_2).bind fun q => (match q with
    | .ret r => some r
    | .go k_29 =>
    some k_29)
theorem w_laws_heldAtomSS (a_1:(List (List GAtom))) (k_2:Int) (r:Int) (hf:laws_heldAtomSS a_1 k_2 = some r):CallOK Tryz.prog 102 .flat [(.lst 1 (a_1.map (encL 3 encGAtom))),(.int .i64 k_2)] (.int .i64 r):=by
 refine CallOK.of_awp mixed Tryz.func102 fc102 nle ?_;rw [argT_eq];unfold laws_heldAtomSS at hf;unfold c102;refine (show awp Tryz.prog false 0 _ (ofL [(0,(.lst 1 (a_1.map (encL 3 encGAtom)))),(1,(.int .i64 k_2))]) [] _ from ?_);refine sr<|s_mov (.int .i64 0) rfl<|dk<|awp_seq<|sr<|s_mov (.int .i64 0) rfl<|dk<|?_
 obtain ⟨p30,hb1,hf⟩:=ob hf
 refine awp_cutx (X:={q:Int // p30 = .go q}) (fun q => ([(1,(.int .i64 q.1))],[])) ?_ ?_
 ·refine awp_loop (X:={q:(Int × Nat) // laws_heldAtomSS_L1 (a_1.drop q.2) q.1 = some p30}) (fun q => ([(0,(.lst 1 (a_1.map (encL 3 encGAtom)))),(1,(.int .i64 q.1.1)),(5,(.int .i64 (q.1.2:Int)))],[])) (fun q => a_1.length - q.1.2) ⟨(k_2,0),hb1⟩ ⟨[],[],_,_,rfl,rfl,⟨.refl _,⟨.refl _,⟨.refl _,trivial⟩⟩⟩,(.refl _)⟩ ?_
  rintro ⟨⟨k_19,i_20⟩,hc1⟩
  have hc1:laws_heldAtomSS_L1 (a_1.drop i_20) k_19 = some p30:=hc1
  refine (show awp Tryz.prog false 0 _ (ofL [(0,(.lst 1 (a_1.map (encL 3 encGAtom)))),(1,(.int .i64 k_19)),(5,(.int .i64 (i_20:Int)))]) [] _ from ?_)
  rcases dropc a_1 i_20 with ⟨hie33,hd36⟩ | ⟨hlt31,x_37,hx32,hd36⟩
  ·rw [hd36,laws_heldAtomSS_L1.eq_1] at hc1
   have hq35:=dlf hie33
   refine awp_seq<|sr<|s_mov (.int .i64 (i_20:Int)) rfl<|s_mov (.lst 1 (a_1.map (encL 3 encGAtom))) rfl<|s_dof (o_len (enc:=(encL 3 encGAtom)) rfl) fun hl38 => s_q (.bool (decide ((i_20:Int) < (a_1.length:Int)))) rfl rfl rfl<|dk<|w_condf rfl hq35<|w_exit<|k_seqx<|k_loopx<|k_blkx<|?_;obtain rfl:=os hc1;exact k_cutn ⟨_,rfl⟩ ⟨[],[],_,_,rfl,rfl,⟨.refl _,trivial⟩,(.refl _)⟩
  ·rw [hd36,laws_heldAtomSS_L1.eq_2] at hc1
   have hq35:=dlt hlt31
   refine awp_seq<|sr<|s_mov (.int .i64 (i_20:Int)) rfl<|s_mov (.lst 1 (a_1.map (encL 3 encGAtom))) rfl<|s_dof (o_len (enc:=(encL 3 encGAtom)) rfl) fun hl39 => s_q (.bool (decide ((i_20:Int) < (a_1.length:Int)))) rfl rfl rfl<|dk<|w_condt rfl hq35<|w_skip<|k_seq<|awp_seq<|w_blk<|sr<|?_
   obtain ⟨r_40,er41,hc1⟩:=ob hc1
   refine s_mov (.lst 1 (a_1.map (encL 3 encGAtom))) rfl<|s_mov (.int .i64 (i_20:Int)) rfl<|s_do (o_iaddrn (enc:=(encL 3 encGAtom)) rfl rfl hx32)<|s_q (.lst 3 (x_37.map encGAtom)) rfl ⟨rfl,rfl⟩ rfl<|s_mov (.int .i64 k_19) rfl<|s_do (o_call (w_laws_heldAtomS _ _ _ er41) rfl (.refl _) rfl)<|s_mov (.int .i64 r_40) rfl<|dk<|sr<|s_mov (.int .i64 r_40) rfl<|s_q (.bool (decide (r_40 < 0))) rfl rfl rfl<|dk<|?_
   rcases oi hc1 with ⟨c42,hc1⟩ | ⟨c42,hc1⟩
   ·refine w_condt rfl c42<|sr<|s_mov (.int .i64 (-1)) rfl<|dk<|w_ret<|?_;obtain rfl:=os hc1;obtain rfl:=os hf;exact r_flat ⟨trivial,trivial⟩ rfl (.refl _)
   ·refine w_condf rfl (bf c42)<|w_skip<|k_blk<|k_seq<|w_reg<|s_mov (.int .i64 (i_20:Int)) rfl<|s_q (.int .i64 (w64 ((i_20:Int) + 1))) rfl rfl rfl<|s_mov (.int .i64 (w64 ((i_20:Int) + 1))) rfl<|w_done<|?_;exact k_loopn ⟨(r_40,(i_20 + 1)),hc1⟩ (mul hlt31) ⟨[],[],_,_,rfl,rfl,⟨.refl _,⟨.refl _,⟨.of_eq (congrArg (AV.int _) (w64_incr hlt31 hl39)),trivial⟩⟩⟩,(.refl _)⟩
 ·rintro ⟨k_29,rfl⟩
  refine sr<|s_mov (.int .i64 k_29) rfl<|s_mov (.int .i64 k_29) rfl<|dk<|w_ret<|?_;obtain rfl:=os hf;exact r_flat ⟨trivial,trivial⟩ rfl (.refl _)

/- laws.heldRow -/
def c36:ACode :=
 (.seq (.reg (tq 2 (.box 2 (.t 0)) (tm 4 (.c (.int .i64 0)) .done)))
 (.seq (.reg (tq 5 (.faddr 1 (.t 2)) (tq 6 (.load 1 false (.t 5)) (tm 7 (.t 1) (tq 8 (.call 102 [(.t 6),(.t 7)]) (tm 1 (.t 8) .done))))))
 (.seq (.seq (.reg (tm 9 (.t 1) (tq 10 (.bin .lss (.t 9) (.c (.int .i64 0))) .done)))
 (.cond (.t 10) (.seq (.reg (tq 4 (.mov (.c (.int .i64 (-1)))) .done))
 .ret)
 .skip))
 (.seq (.reg (tm 11 (.t 1) (tm 4 (.t 11) .done)))
 .ret))))
theorem fc36:fcomp Tryz.prog Tryz.f36 = some (c36.erase,[.mov (.t 4)],12):=by kernel_rfl
def laws_heldRow (a_1:GRow) (k_2:Int):Option Int :=
    (laws_heldAtomSS a_1.Cells k_2).bind fun r_3 =>
    if (decide (r_3 < 0)) then
    some (-1)
    else
    some r_3
theorem w_laws_heldRow (a_1:GRow) (k_2:Int) (r:Int) (hf:laws_heldRow a_1 k_2 = some r):CallOK Tryz.prog 36 .flat [(encGRow a_1),(.int .i64 k_2)] (.int .i64 r):=by
 refine CallOK.of_awp mixed Tryz.func36 fc36 nle ?_;rw [argT_eq];unfold laws_heldRow at hf;unfold c36;refine (show awp Tryz.prog false 0 _ (ofL [(0,(encGRow a_1)),(1,(.int .i64 k_2))]) [] _ from ?_);refine sr<|s_do (o_box (j:=0) (c:=(.agg [(.int .i64 a_1.Id),(.lst 1 (a_1.Cells.map (encL 3 encGAtom)))])) rfl trivial rfl rfl)<|s_mov (.int .i64 0) rfl<|dk<|sr<|?_
 obtain ⟨r_3,er4,hf⟩:=ob hf
 refine s_q (.ptr 0 0 1) rfl trivial rfl<|s_q (.lst 1 (a_1.Cells.map (encL 3 encGAtom))) rfl nle rfl<|s_mov (.int .i64 k_2) rfl<|s_do (o_call (w_laws_heldAtomSS _ _ _ er4) rfl (.refl _) rfl)<|s_mov (.int .i64 r_3) rfl<|dk<|awp_seq<|sr<|s_mov (.int .i64 r_3) rfl<|s_q (.bool (decide (r_3 < 0))) rfl rfl rfl<|dk<|?_
 rcases oi hf with ⟨c5,hf⟩ | ⟨c5,hf⟩
 ·refine w_condt rfl c5<|sr<|s_mov (.int .i64 (-1)) rfl<|dk<|w_ret<|?_;obtain rfl:=os hf;exact r_flat ⟨trivial,trivial⟩ rfl (.refl _)
 ·refine w_condf rfl (bf c5)<|w_skip<|k_seq<|sr<|s_mov (.int .i64 r_3) rfl<|s_mov (.int .i64 r_3) rfl<|dk<|w_ret<|?_;obtain rfl:=os hf;exact r_flat ⟨trivial,trivial⟩ rfl (.refl _)

/- laws.FnExactSetRow -/
def c5:ACode :=
 (.seq (.reg (tq 3 (.box 4 (.t 0)) (tq 4 (.box 2 (.t 1)) (tm 6 (.c (.bool false)) .done))))
 (.seq (.reg (tm 7 (.c (.int .i64 1048576)) .done))
 (.seq (.reg (tq 20 (.load 4 true (.t 3)) (tm 21 (.t 7) (tq 22 (.call 22 [(.t 20),(.t 21)]) (tm 7 (.t 22) .done)))))
 (.seq (.seq (.reg (tm 23 (.t 7) (tq 24 (.bin .lss (.t 23) (.c (.int .i64 0))) .done)))
 (.cond (.t 24) (.seq (.reg (tm 6 (.c (.bool true)) .done))
 .ret)
 .skip))
 (.seq (.reg (tq 25 (.load 2 true (.t 4)) (tm 26 (.t 7) (tq 27 (.call 23 [(.t 25),(.t 26)]) (tm 7 (.t 27) .done)))))
 (.seq (.seq (.reg (tm 28 (.t 7) (tq 29 (.bin .lss (.t 28) (.c (.int .i64 0))) .done)))
 (.cond (.t 29) (.seq (.reg (tm 6 (.c (.bool true)) .done))
 .ret)
 .skip))
 (.seq (.reg (tm 30 (.t 2) (tm 31 (.t 7) (tq 32 (.call 24 [(.t 30),(.t 31)]) (tm 7 (.t 32) .done)))))
 (.seq (.seq (.reg (tm 33 (.t 7) (tq 34 (.bin .lss (.t 33) (.c (.int .i64 0))) .done)))
 (.cond (.t 34) (.seq (.reg (tm 6 (.c (.bool true)) .done))
 .ret)
 .skip))
 (.seq (.reg (tq 36 (.load 4 true (.t 3)) (tq 38 (.load 2 true (.t 4)) (tm 40 (.t 2) (.l ⟨(some 37),none,.call 26 [(.t 36)]⟩ [⟨(some 38),none,.load 2 true (.t 4)⟩]
 (.l ⟨(some 39),none,.call 27 [(.t 38)]⟩ []
 (.l ⟨(some 41),none,.call 28 [(.t 40)]⟩ []
 (.l ⟨(some 42),none,.call 25 [(.t 37),(.t 39),(.t 41)]⟩ []
 (tm 35 (.t 42) (tq 43 (.extract 0 (.t 35)) (tq 44 (.extract 1 (.t 35)) (.l ⟨(some 8),none,.box 2 (.c (.agg [(.int .i64 0),.nil]))⟩ [⟨(some 38),none,.load 2 true (.t 4)⟩,⟨(some 36),none,.load 4 true (.t 3)⟩]
 (.l ⟨none,none,.store 2 (.t 8) (.t 43)⟩ []
 (tm 9 (.t 44) .done) .non) .non)))) (.l ⟨(some 8),none,.box 2 (.c (.agg [(.int .i64 0),.nil]))⟩ [⟨(some 38),none,.load 2 true (.t 4)⟩,⟨(some 36),none,.load 4 true (.t 3)⟩]
 (.l ⟨(some 42),none,.call 25 [(.t 37),(.t 39),(.t 41)]⟩ []
 (tm 35 (.t 42) (tq 43 (.extract 0 (.t 35)) (tq 44 (.extract 1 (.t 35)) (.l ⟨none,none,.store 2 (.t 8) (.t 43)⟩ []
 (tm 9 (.t 44) .done) .non)))) .non) .non)) (.l ⟨(some 8),none,.box 2 (.c (.agg [(.int .i64 0),.nil]))⟩ [⟨(some 38),none,.load 2 true (.t 4)⟩,⟨(some 36),none,.load 4 true (.t 3)⟩]
 (.l ⟨(some 41),none,.call 28 [(.t 40)]⟩ []
 (.l ⟨(some 42),none,.call 25 [(.t 37),(.t 39),(.t 41)]⟩ []
 (tm 35 (.t 42) (tq 43 (.extract 0 (.t 35)) (tq 44 (.extract 1 (.t 35)) (.l ⟨none,none,.store 2 (.t 8) (.t 43)⟩ []
 (tm 9 (.t 44) .done) .non)))) .non) .non) .non)) (.l ⟨(some 8),none,.box 2 (.c (.agg [(.int .i64 0),.nil]))⟩ [⟨(some 38),none,.load 2 true (.t 4)⟩,⟨(some 36),none,.load 4 true (.t 3)⟩]
 (.l ⟨(some 39),none,.call 27 [(.t 38)]⟩ []
 (.l ⟨(some 41),none,.call 28 [(.t 40)]⟩ []
 (.l ⟨(some 42),none,.call 25 [(.t 37),(.t 39),(.t 41)]⟩ []
 (tm 35 (.t 42) (tq 43 (.extract 0 (.t 35)) (tq 44 (.extract 1 (.t 35)) (.l ⟨none,none,.store 2 (.t 8) (.t 43)⟩ []
 (tm 9 (.t 44) .done) .non)))) .non) .non) .non) .non)) (.l ⟨(some 8),none,.box 2 (.c (.agg [(.int .i64 0),.nil]))⟩ [⟨(some 38),none,.load 2 true (.t 4)⟩,⟨(some 36),none,.load 4 true (.t 3)⟩]
 (.l ⟨(some 37),none,.call 26 [(.t 36)]⟩ [⟨(some 38),none,.load 2 true (.t 4)⟩]
 (.l ⟨(some 39),none,.call 27 [(.t 38)]⟩ []
 (.l ⟨(some 41),none,.call 28 [(.t 40)]⟩ []
 (.l ⟨(some 42),none,.call 25 [(.t 37),(.t 39),(.t 41)]⟩ []
 (tm 35 (.t 42) (tq 43 (.extract 0 (.t 35)) (tq 44 (.extract 1 (.t 35)) (.l ⟨none,none,.store 2 (.t 8) (.t 43)⟩ []
 (tm 9 (.t 44) .done) .non)))) .non) .non) .non) .non) .non))))))
 (.cut (.seq (.reg (tq 45 (.load 4 true (.t 3)) (tq 46 (.call 26 [(.t 45)]) (tq 10 (.box 4 (.c (.agg [(.str []),.nil,.nil,(.bool false)]))) (.q ⟨none,none,.store 4 (.t 10) (.t 46)⟩
 .done)))))
 (.seq (.reg (tq 47 (.load 2 true (.t 4)) (tq 48 (.call 27 [(.t 47)]) (tq 11 (.box 2 (.c (.agg [(.int .i64 0),.nil]))) (.q ⟨none,none,.store 2 (.t 11) (.t 48)⟩
 .done)))))
 (.seq (.reg (tm 49 (.t 2) (tq 50 (.call 28 [(.t 49)]) (tm 12 (.t 50) .done))))
 (.seq (.reg (tq 52 (.load 4 true (.t 10)) (tq 53 (.load 2 true (.t 11)) (tm 54 (.t 12) (tq 55 (.call 29 [(.t 52),(.t 53),(.t 54)]) (tm 51 (.t 55) (tq 56 (.extract 0 (.t 51)) (tq 57 (.extract 1 (.t 51)) (tq 13 (.box 2 (.c (.agg [(.int .i64 0),.nil]))) (.q ⟨none,none,.store 2 (.t 13) (.t 56)⟩
 (tm 14 (.t 57) .done)))))))))))
 (.seq (.seq (.reg (tq 58 (.load 2 true (.t 13)) (tq 59 (.load 2 true (.t 8)) (tq 60 (.call 30 [(.t 58),(.t 59)]) (tq 61 (.not (.t 60)) (tm 62 (.t 61) (tg 63 62 false (.mov (.t 14)) (tg 64 62 false (.mov (.t 9)) (tg 65 62 false (.bin .neq (.t 63) (.t 64)) (tq 66 (.pick (.t 62) (.c (.bool true)) (.t 65)) .done))))))))))
 (.cut (.cond (.t 66) (.seq (.reg (tm 6 (.c (.bool false)) .done))
 .ret)
 .skip)))
 (.seq (.seq (.reg (tq 67 (.load 4 true (.t 10)) (tq 68 (.load 4 true (.t 3)) (.l ⟨(some 69),none,.call 26 [(.t 68)]⟩ [⟨(some 67),none,.load 4 true (.t 10)⟩]
 (.l ⟨(some 70),none,.call 31 [(.t 67),(.t 69)]⟩ []
 (tq 71 (.not (.t 70)) .done) .non) .non))))
 (.cond (.t 71) (.seq (.reg (tm 6 (.c (.bool false)) .done))
 .ret)
 .skip))
 (.seq (.seq (.reg (tq 72 (.load 2 true (.t 11)) (tq 73 (.load 2 true (.t 4)) (.l ⟨(some 74),none,.call 27 [(.t 73)]⟩ [⟨(some 72),none,.load 2 true (.t 11)⟩]
 (.l ⟨(some 75),none,.call 30 [(.t 72),(.t 74)]⟩ []
 (tq 76 (.not (.t 75)) .done) .non) .non))))
 (.cond (.t 76) (.seq (.reg (tm 6 (.c (.bool false)) .done))
 .ret)
 .skip))
 (.seq (.seq (.reg (tm 77 (.t 12) (tm 78 (.t 2) (tq 79 (.call 28 [(.t 78)]) (tq 80 (.call 32 [(.t 77),(.t 79)]) (tq 81 (.not (.t 80)) .done))))))
 (.cond (.t 81) (.seq (.reg (tm 6 (.c (.bool false)) .done))
 .ret)
 .skip))
 (.seq (.reg (tm 15 (.c (.int .i64 1)) .done))
 (.seq (.reg (tq 82 (.load 4 true (.t 10)) (tm 83 (.t 15) (tq 84 (.call 33 [(.t 82),(.t 83)]) (tm 15 (.t 84) .done)))))
 (.seq (.reg (tq 85 (.load 2 true (.t 11)) (tm 86 (.t 15) (tq 87 (.call 34 [(.t 85),(.t 86)]) (tm 15 (.t 87) .done)))))
 (.seq (.reg (tm 88 (.t 12) (tm 89 (.t 15) (tq 90 (.call 35 [(.t 88),(.t 89)]) (tm 15 (.t 90) .done)))))
 (.seq (.seq (.reg (tm 91 (.t 15) (tq 92 (.bin .lss (.t 91) (.c (.int .i64 0))) (tm 93 (.t 92) (tg 94 93 false (.load 2 true (.t 13)) (tg 95 93 false (.load 2 true (.t 8)) (tg 96 93 false (.call 30 [(.t 94),(.t 95)]) (tg 97 93 false (.not (.t 96)) (tq 98 (.pick (.t 93) (.c (.bool true)) (.t 97)) (tm 99 (.t 98) (tg 100 99 false (.mov (.t 14)) (tg 101 99 false (.mov (.t 9)) (tg 102 99 false (.bin .neq (.t 100) (.t 101)) (tq 103 (.pick (.t 99) (.c (.bool true)) (.t 102)) .done))))))))))))))
 (.cut (.cond (.t 103) (.seq (.reg (tm 6 (.c (.bool false)) .done))
 .ret)
 .skip)))
 (.seq (.reg (tm 16 (.c (.int .i64 1)) .done))
 (.seq (.reg (tq 104 (.load 2 true (.t 13)) (tm 105 (.t 16) (tq 106 (.call 34 [(.t 104),(.t 105)]) (tm 16 (.t 106) .done)))))
 (.seq (.reg (tm 17 (.c (.int .i64 1)) .done))
 (.seq (.reg (tq 107 (.load 2 true (.t 13)) (tm 108 (.t 17) (tq 109 (.call 36 [(.t 107),(.t 108)]) (tm 17 (.t 109) .done)))))
 (.seq (.seq (.reg (tm 110 (.t 17) (tq 111 (.bin .lss (.t 110) (.c (.int .i64 0))) .done)))
 (.cond (.t 111) (.seq (.reg (tm 6 (.c (.bool false)) .done))
 .ret)
 .skip))
 (.seq (.seq (.reg (tm 112 (.t 17) (tm 113 (.t 16) (tq 114 (.bin .neq (.t 112) (.t 113)) .done))))
 (.cond (.t 114) (.seq (.reg (tm 6 (.c (.bool false)) .done))
 .ret)
 .skip))
 (.seq (.reg (tq 116 (.load 4 true (.t 3)) (tq 118 (.load 2 true (.t 4)) (tm 120 (.t 2) (.l ⟨(some 117),none,.call 26 [(.t 116)]⟩ [⟨(some 118),none,.load 2 true (.t 4)⟩]
 (.l ⟨(some 119),none,.call 27 [(.t 118)]⟩ []
 (.l ⟨(some 121),none,.call 28 [(.t 120)]⟩ []
 (.l ⟨(some 122),none,.call 29 [(.t 117),(.t 119),(.t 121)]⟩ []
 (tm 115 (.t 122) (tq 123 (.extract 0 (.t 115)) (tq 124 (.extract 1 (.t 115)) (.l ⟨(some 18),none,.box 2 (.c (.agg [(.int .i64 0),.nil]))⟩ [⟨(some 118),none,.load 2 true (.t 4)⟩,⟨(some 116),none,.load 4 true (.t 3)⟩]
 (.l ⟨none,none,.store 2 (.t 18) (.t 123)⟩ []
 (tm 19 (.t 124) .done) .non) .non)))) (.l ⟨(some 18),none,.box 2 (.c (.agg [(.int .i64 0),.nil]))⟩ [⟨(some 118),none,.load 2 true (.t 4)⟩,⟨(some 116),none,.load 4 true (.t 3)⟩]
 (.l ⟨(some 122),none,.call 29 [(.t 117),(.t 119),(.t 121)]⟩ []
 (tm 115 (.t 122) (tq 123 (.extract 0 (.t 115)) (tq 124 (.extract 1 (.t 115)) (.l ⟨none,none,.store 2 (.t 18) (.t 123)⟩ []
 (tm 19 (.t 124) .done) .non)))) .non) .non)) (.l ⟨(some 18),none,.box 2 (.c (.agg [(.int .i64 0),.nil]))⟩ [⟨(some 118),none,.load 2 true (.t 4)⟩,⟨(some 116),none,.load 4 true (.t 3)⟩]
 (.l ⟨(some 121),none,.call 28 [(.t 120)]⟩ []
 (.l ⟨(some 122),none,.call 29 [(.t 117),(.t 119),(.t 121)]⟩ []
 (tm 115 (.t 122) (tq 123 (.extract 0 (.t 115)) (tq 124 (.extract 1 (.t 115)) (.l ⟨none,none,.store 2 (.t 18) (.t 123)⟩ []
 (tm 19 (.t 124) .done) .non)))) .non) .non) .non)) (.l ⟨(some 18),none,.box 2 (.c (.agg [(.int .i64 0),.nil]))⟩ [⟨(some 118),none,.load 2 true (.t 4)⟩,⟨(some 116),none,.load 4 true (.t 3)⟩]
 (.l ⟨(some 119),none,.call 27 [(.t 118)]⟩ []
 (.l ⟨(some 121),none,.call 28 [(.t 120)]⟩ []
 (.l ⟨(some 122),none,.call 29 [(.t 117),(.t 119),(.t 121)]⟩ []
 (tm 115 (.t 122) (tq 123 (.extract 0 (.t 115)) (tq 124 (.extract 1 (.t 115)) (.l ⟨none,none,.store 2 (.t 18) (.t 123)⟩ []
 (tm 19 (.t 124) .done) .non)))) .non) .non) .non) .non)) (.l ⟨(some 18),none,.box 2 (.c (.agg [(.int .i64 0),.nil]))⟩ [⟨(some 118),none,.load 2 true (.t 4)⟩,⟨(some 116),none,.load 4 true (.t 3)⟩]
 (.l ⟨(some 117),none,.call 26 [(.t 116)]⟩ [⟨(some 118),none,.load 2 true (.t 4)⟩]
 (.l ⟨(some 119),none,.call 27 [(.t 118)]⟩ []
 (.l ⟨(some 121),none,.call 28 [(.t 120)]⟩ []
 (.l ⟨(some 122),none,.call 29 [(.t 117),(.t 119),(.t 121)]⟩ []
 (tm 115 (.t 122) (tq 123 (.extract 0 (.t 115)) (tq 124 (.extract 1 (.t 115)) (.l ⟨none,none,.store 2 (.t 18) (.t 123)⟩ []
 (tm 19 (.t 124) .done) .non)))) .non) .non) .non) .non) .non))))))
 (.cut (.seq (.seq (.reg (tq 125 (.load 2 true (.t 18)) (tq 126 (.load 2 true (.t 8)) (tq 127 (.call 30 [(.t 125),(.t 126)]) (tq 128 (.not (.t 127)) (tm 129 (.t 128) (tg 130 129 false (.mov (.t 19)) (tg 131 129 false (.mov (.t 9)) (tg 132 129 false (.bin .neq (.t 130) (.t 131)) (tq 133 (.pick (.t 129) (.c (.bool true)) (.t 132)) .done))))))))))
 (.cut (.cond (.t 133) (.seq (.reg (tm 6 (.c (.bool false)) .done))
 .ret)
 .skip)))
 (.seq (.reg (tm 17 (.c (.int .i64 1)) .done))
 (.seq (.reg (tq 134 (.load 2 true (.t 13)) (tm 135 (.t 17) (tq 136 (.call 36 [(.t 134),(.t 135)]) (tm 17 (.t 136) .done)))))
 (.seq (.seq (.reg (tm 137 (.t 17) (tq 138 (.bin .lss (.t 137) (.c (.int .i64 0))) .done)))
 (.cond (.t 138) (.seq (.reg (tm 6 (.c (.bool false)) .done))
 .ret)
 .skip))
 (.seq (.seq (.reg (tm 139 (.t 17) (tm 140 (.t 16) (tq 141 (.bin .neq (.t 139) (.t 140)) .done))))
 (.cond (.t 141) (.seq (.reg (tm 6 (.c (.bool false)) .done))
 .ret)
 .skip))
 (.seq (.reg (tm 6 (.c (.bool true)) .done))
 .ret)))))))))))))))))))))))))))))))))))))
theorem fc5:fcomp Tryz.prog Tryz.f5 = some (c5.erase,[.mov (.t 6)],142):=by kernel_rfl
def laws_FnExactSetRow (aT_1:GTable) (aR_2:GRow) (aList_3:(List GSet)):Option Bool :=
    (laws_szTable aT_1 1048576).bind fun r_4 =>
    if (decide (r_4 < 0)) then
    some true
    else
    (laws_szRow aR_2 r_4).bind fun r_7 =>
    if (decide (r_7 < 0)) then
    some true
    else
    (laws_szSetS aList_3 r_7).bind fun r_10 =>
    if (decide (r_10 < 0)) then
    some true
    else
    (((laws_toTable aT_1).bind fun r_25 =>
    (laws_toRow aR_2).bind fun r_27 =>
    (laws_toSetS aList_3).bind fun r_29 =>
    (spec_SetRow r_25 r_27 r_29).bind fun r_31 =>
    some (r_31.2,r_31.1.Id,r_31.1.Cells):Option (Int × Int × (List (List GAtom))))).bind fun p24 =>
    (match p24 with
    | (w1_21,x_22,x_23) =>
    (laws_toTable aT_1).bind fun r_33 =>
    (laws_toRow aR_2).bind fun r_35 =>
    (laws_toSetS aList_3).bind fun r_37 =>
    (impl_SetRow r_33 r_35 r_37).bind fun r_39 =>
    (((laws_eqRow r_39.1 (⟨x_22,x_23⟩:GRow)).bind fun r_46 =>
    if (!r_46) then
    some true
    else
    some (r_39.2 != w1_21):Option Bool)).bind fun s66_44 =>
    if s66_44 then
    some false
    else
    (laws_toTable aT_1).bind fun r_50 =>
    (laws_eqTable r_33 r_50).bind fun r_52 =>
    if (!r_52) then
    some false
    else
    (laws_toRow aR_2).bind fun r_55 =>
    (laws_eqRow r_35 r_55).bind fun r_57 =>
    if (!r_57) then
    some false
    else
    (laws_toSetS aList_3).bind fun r_60 =>
    (laws_eqSetS r_37 r_60).bind fun r_62 =>
    if (!r_62) then
    some false
    else
    (laws_markTable r_33 1).bind fun r_65 =>
    (laws_markRow r_35 r_65.1).bind fun r_68 =>
    (laws_markSetS r_37 r_68.1).bind fun r_71 =>
    ((if (decide (r_71.1 < 0)) then
    some true
    else
    (laws_eqRow r_39.1 (⟨x_22,x_23⟩:GRow)).bind fun r_80 =>
    some (bif (!r_80) then true else (r_39.2 != w1_21)):Option Bool)).bind fun s103_77 =>
    if s103_77 then
    some false
    else
    (laws_markRow r_39.1 1).bind fun r_83 =>
    (laws_heldRow (⟨r_39.1.Id,r_83.2.Cells⟩:GRow) 1).bind fun r_86 =>
    if (decide (r_86 < 0)) then
    some false
    else
    if (r_86 != r_83.1) then
    some false
    else
    (((laws_toTable aT_1).bind fun r_102 =>
    (laws_toRow aR_2).bind fun r_104 =>
    (laws_toSetS aList_3).bind fun r_106 =>
    (impl_SetRow r_102 r_104 r_106).bind fun r_108 =>
    some (r_108.2,r_108.1.Id,r_108.1.Cells):Option (Int × Int × (List (List GAtom))))).bind fun p101 =>
    (match p101 with
    | (h1_98,x_99,x_100) =>
    (((laws_eqRow (⟨x_99,x_100⟩:GRow) (⟨x_22,x_23⟩:GRow)).bind fun r_115 =>
    if (!r_115) then
    some true
    else
    some (h1_98 != w1_21):Option Bool)).bind fun s133_113 =>
    if s133_113 then
    some false
    else
    (laws_heldRow (⟨r_39.1.Id,r_83.2.Cells⟩:GRow) 1).bind fun r_119 =>
    if (decide (r_119 < 0)) then
    some false
    else
    if (r_119 != r_83.1) then
    some false
    else
    some true))
theorem w_laws_FnExactSetRow (aT_1:GTable) (aR_2:GRow) (aList_3:(List GSet)) (r:Bool) (hf:laws_FnExactSetRow aT_1 aR_2 aList_3 = some r):CallOK Tryz.prog 5 .flat [(encGTable aT_1),(encGRow aR_2),(.lst 3 (aList_3.map encGSet))] (.bool r):=by
 refine CallOK.of_awp' (md:=⟨true,true⟩) (fun _ => rfl) (fun h => by cases h) (fun h => by cases h) mixed Tryz.func5 fc5 nle ?_;rw [argT_eq];unfold laws_FnExactSetRow at hf;unfold c5;refine (show awp Tryz.prog ⟨true,true⟩ 0 _ (ofL [(0,(encGTable aT_1)),(1,(encGRow aR_2)),(2,(.lst 3 (aList_3.map encGSet)))]) [] _ from ?_);refine sr<|s_do (o_box (j:=0) (c:=(.agg [(.str aT_1.Name),(.lst 8 (aT_1.Columns.map encGColumn)),(.lst 1 (aT_1.Unique.map encI)),(.bool aT_1.Root)])) rfl trivial rfl rfl)<|s_do (o_box (j:=1) (c:=(.agg [(.int .i64 aR_2.Id),(.lst 1 (aR_2.Cells.map (encL 3 encGAtom)))])) rfl trivial rfl rfl)<|s_mov (.bool false) rfl<|dk<|sr<|?_
 refine s_mov (.int .i64 1048576) rfl<|dk<|sr<|?_
 obtain ⟨r_4,er5,hf⟩:=ob hf
 refine s_q (.agg [(.str aT_1.Name),(.lst 8 (aT_1.Columns.map encGColumn)),(.lst 1 (aT_1.Unique.map encI)),(.bool aT_1.Root)]) rfl (.of nle trivial) rfl<|s_mov (.int .i64 1048576) rfl<|s_do (o_call (w_laws_szTable _ _ _ er5) rfl (.refl _) rfl)<|s_mov (.int .i64 r_4) rfl<|dk<|awp_seq<|sr<|s_mov (.int .i64 r_4) rfl<|s_q (.bool (decide (r_4 < 0))) rfl (.of rfl trivial) rfl<|dk<|?_
 rcases oi hf with ⟨c6,hf⟩ | ⟨c6,hf⟩
 ·refine w_condt rfl c6<|sr<|s_mov (.bool true) rfl<|dk<|w_ret<|?_;obtain rfl:=os hf;exact r_flat ⟨.of trivial trivial,trivial⟩ rfl (.refl _)
 ·refine w_condf rfl (bf c6)<|w_skip<|k_seq<|sr<|?_
  obtain ⟨r_7,er8,hf⟩:=ob hf
  refine s_q (.agg [(.int .i64 aR_2.Id),(.lst 1 (aR_2.Cells.map (encL 3 encGAtom)))]) rfl (.of nle trivial) rfl<|s_mov (.int .i64 r_4) rfl<|s_do (o_call (w_laws_szRow _ _ _ er8) rfl (.refl _) rfl)<|s_mov (.int .i64 r_7) rfl<|dk<|awp_seq<|sr<|s_mov (.int .i64 r_7) rfl<|s_q (.bool (decide (r_7 < 0))) rfl (.of rfl trivial) rfl<|dk<|?_
  rcases oi hf with ⟨c9,hf⟩ | ⟨c9,hf⟩
  ·refine w_condt rfl c9<|sr<|s_mov (.bool true) rfl<|dk<|w_ret<|?_;obtain rfl:=os hf;exact r_flat ⟨.of trivial trivial,trivial⟩ rfl (.refl _)
  ·refine w_condf rfl (bf c9)<|w_skip<|k_seq<|sr<|?_
   obtain ⟨r_10,er11,hf⟩:=ob hf
   refine s_mov (.lst 3 (aList_3.map encGSet)) rfl<|s_mov (.int .i64 r_7) rfl<|s_do (o_call (w_laws_szSetS _ _ _ er11) rfl (.refl _) rfl)<|s_mov (.int .i64 r_10) rfl<|dk<|awp_seq<|sr<|s_mov (.int .i64 r_10) rfl<|s_q (.bool (decide (r_10 < 0))) rfl (.of rfl trivial) rfl<|dk<|?_
   rcases oi hf with ⟨c12,hf⟩ | ⟨c12,hf⟩
   ·refine w_condt rfl c12<|sr<|s_mov (.bool true) rfl<|dk<|w_ret<|?_;obtain rfl:=os hf;exact r_flat ⟨.of trivial trivial,trivial⟩ rfl (.refl _)
   ·refine w_condf rfl (bf c12)<|w_skip<|k_seq<|awp_seq<|?_
    obtain ⟨p24,hb1,hf⟩:=ob hf
    refine awp_cut ([(2,(.lst 3 (aList_3.map encGSet))),(3,(.ptr 0 0 0)),(4,(.ptr 1 0 0)),(8,(.ptr 2 0 0)),(9,(.int .i64 p24.1))],[.box 4 (.agg [(.str aT_1.Name),(.lst 8 (aT_1.Columns.map encGColumn)),(.lst 1 (aT_1.Unique.map encI)),(.bool aT_1.Root)]),.box 2 (.agg [(.int .i64 aR_2.Id),(.lst 1 (aR_2.Cells.map (encL 3 encGAtom)))]),.box 2 (.agg [(.int .i64 p24.2.1),(.own 3 0 p24.2.2.length)]),.row 1 (p24.2.2.map (encL 3 encGAtom))]) ?_ ?_
    ·refine w_reg ?_
     obtain ⟨r_25,er26,hb1⟩:=ob hb1
     obtain ⟨r_27,er28,hb1⟩:=ob hb1
     obtain ⟨r_29,er30,hb1⟩:=ob hb1
     obtain ⟨r_31,er32,hb1⟩:=ob hb1
     refine s_q (.agg [(.str aT_1.Name),(.lst 8 (aT_1.Columns.map encGColumn)),(.lst 1 (aT_1.Unique.map encI)),(.bool aT_1.Root)]) rfl (.of nle trivial) rfl<|s_q (.agg [(.int .i64 aR_2.Id),(.lst 1 (aR_2.Cells.map (encL 3 encGAtom)))]) rfl (.of nle trivial) rfl<|s_mov (.lst 3 (aList_3.map encGSet)) rfl<|?_;refine s_dol (o_callf (v:=(.agg [(.str r_25.Name),(.own 2 0 r_25.Columns.length),(.own 3 0 r_25.Unique.length),(.bool r_25.Root)])) (h':=[.row 8 (r_25.Columns.map encGColumn),.row 1 (r_25.Unique.map encI)]) (w_laws_toTable _ _ er26) rfl (.refl _) (by simp only [openV,openVs,List.length_map,encGTable_eq,List.nil_append,List.append_nil,List.cons_append];rfl)) (.inr ⟨⟨(.of nle trivial),rfl⟩,trivial⟩) ?_ ?_
     ·refine s_dol (o_box (j:=2) (c:=(.agg [(.int .i64 0),.nil])) rfl trivial rfl rfl) (.inr ⟨⟨(.of nle trivial),rfl⟩,⟨⟨(.of nle trivial),rfl⟩,trivial⟩⟩) trivial<|s_dol (o_callf (v:=(.agg [(.str r_25.Name),(.own 3 0 r_25.Columns.length),(.own 4 0 r_25.Unique.length),(.bool r_25.Root)])) (h':=[.row 8 (r_25.Columns.map encGColumn),.row 1 (r_25.Unique.map encI)]) (w_laws_toTable _ _ er26) rfl (.refl _) (by simp only [openV,openVs,List.length_map,encGTable_eq,List.nil_append,List.append_nil,List.cons_append];rfl)) (.inr ⟨⟨(.of nle trivial),rfl⟩,trivial⟩) trivial<|s_dol (o_callf (v:=(.agg [(.int .i64 r_27.Id),(.own 5 0 r_27.Cells.length)])) (h':=[.row 1 (r_27.Cells.map (encL 3 encGAtom))]) (w_laws_toRow _ _ er28) rfl (.refl _) (by simp only [openV,openVs,List.length_map,encGRow_eq,List.nil_append,List.append_nil,List.cons_append];rfl)) trivial trivial<|?_
      refine s_dol (o_callf (v:=(.own 6 0 r_29.length)) (h':=[.row 3 (r_29.map encGSet)]) (w_laws_toSetS _ _ er30) rfl (.refl _) (by simp only [openV,openVs,List.length_map,List.nil_append,List.append_nil,List.cons_append];rfl)) trivial trivial<|s_dol (o_callf (v:=(.tup [(.agg [(.int .i64 r_31.1.Id),(.own 7 0 r_31.1.Cells.length)]),(.int .i64 r_31.2)])) (h':=[.row 1 (r_31.1.Cells.map (encL 3 encGAtom))]) (w_spec_SetRow _ _ _ _ er32) rfl (.cons (.agg (.cons (.refl _) (.cons (.of_eq (congrArg (AV.lst _) (tko (enc:=encGColumn) r_25.Columns))) (.cons (.of_eq (congrArg (AV.lst _) (tko (enc:=encI) r_25.Unique))) (.cons (.refl _) .nil))))) (.cons (.agg (.cons (.refl _) (.cons (.of_eq (congrArg (AV.lst _) (tko (enc:=(encL 3 encGAtom)) r_27.Cells))) .nil))) (.cons (.of_eq (congrArg (AV.lst _) (tko r_29))) .nil))) (by simp only [openV,openVs,List.length_map,encGRow_eq,List.nil_append,List.append_nil,List.cons_append];rfl)) trivial trivial<|?_
      refine s_mov (.tup [(.agg [(.int .i64 r_31.1.Id),(.own 7 0 r_31.1.Cells.length)]),(.int .i64 r_31.2)]) rfl<|s_q (.agg [(.int .i64 r_31.1.Id),(.own 7 0 r_31.1.Cells.length)]) rfl (.of nle trivial) rfl<|s_q (.int .i64 r_31.2) rfl (.of nle trivial) rfl<|s_dol0 (o_storebox (v:=(.agg [(.int .i64 r_31.1.Id),(.own 7 0 r_31.1.Cells.length)])) (y':=(.agg [(.int .i64 r_31.1.Id),(.own 7 0 r_31.1.Cells.length)])) rfl rfl rfl trivial ⟨rfl,nle⟩ ⟨⟨rfl,trivial⟩,⟨⟨rfl,trivial⟩,trivial⟩⟩ rfl) trivial trivial<|s_mov (.int .i64 r_31.2) rfl<|w_done<|?_;obtain rfl:=os hb1;exact ⟨[],[0,1,2,7],_,_,rfl,rfl,⟨.refl _,⟨.refl _,⟨.refl _,⟨.refl _,⟨.refl _,trivial⟩⟩⟩⟩⟩,(.refl _)⟩
     ·refine s_dol (o_callf (v:=(.agg [(.int .i64 r_27.Id),(.own 4 0 r_27.Cells.length)])) (h':=[.row 1 (r_27.Cells.map (encL 3 encGAtom))]) (w_laws_toRow _ _ er28) rfl (.refl _) (by simp only [openV,openVs,List.length_map,encGRow_eq,List.nil_append,List.append_nil,List.cons_append];rfl)) trivial ?_ ?_
      ·refine s_dol (o_box (j:=4) (c:=(.agg [(.int .i64 0),.nil])) rfl trivial rfl rfl) (.inr ⟨⟨(.of nle trivial),rfl⟩,⟨⟨(.of nle trivial),rfl⟩,trivial⟩⟩) trivial<|s_dol (o_callf (v:=(.agg [(.int .i64 r_27.Id),(.own 5 0 r_27.Cells.length)])) (h':=[.row 1 (r_27.Cells.map (encL 3 encGAtom))]) (w_laws_toRow _ _ er28) rfl (.refl _) (by simp only [openV,openVs,List.length_map,encGRow_eq,List.nil_append,List.append_nil,List.cons_append];rfl)) trivial trivial<|s_dol (o_callf (v:=(.own 6 0 r_29.length)) (h':=[.row 3 (r_29.map encGSet)]) (w_laws_toSetS _ _ er30) rfl (.refl _) (by simp only [openV,openVs,List.length_map,List.nil_append,List.append_nil,List.cons_append];rfl)) trivial trivial<|?_
       refine s_dol (o_callf (v:=(.tup [(.agg [(.int .i64 r_31.1.Id),(.own 7 0 r_31.1.Cells.length)]),(.int .i64 r_31.2)])) (h':=[.row 1 (r_31.1.Cells.map (encL 3 encGAtom))]) (w_spec_SetRow _ _ _ _ er32) rfl (.cons (.agg (.cons (.refl _) (.cons (.of_eq (congrArg (AV.lst _) (tko (enc:=encGColumn) r_25.Columns))) (.cons (.of_eq (congrArg (AV.lst _) (tko (enc:=encI) r_25.Unique))) (.cons (.refl _) .nil))))) (.cons (.agg (.cons (.refl _) (.cons (.of_eq (congrArg (AV.lst _) (tko (enc:=(encL 3 encGAtom)) r_27.Cells))) .nil))) (.cons (.of_eq (congrArg (AV.lst _) (tko r_29))) .nil))) (by simp only [openV,openVs,List.length_map,encGRow_eq,List.nil_append,List.append_nil,List.cons_append];rfl)) trivial trivial ?_
       refine s_mov (.tup [(.agg [(.int .i64 r_31.1.Id),(.own 7 0 r_31.1.Cells.length)]),(.int .i64 r_31.2)]) rfl<|s_q (.agg [(.int .i64 r_31.1.Id),(.own 7 0 r_31.1.Cells.length)]) rfl (.of nle trivial) rfl<|s_q (.int .i64 r_31.2) rfl (.of nle trivial) rfl<|s_dol0 (o_storebox (v:=(.agg [(.int .i64 r_31.1.Id),(.own 7 0 r_31.1.Cells.length)])) (y':=(.agg [(.int .i64 r_31.1.Id),(.own 7 0 r_31.1.Cells.length)])) rfl rfl rfl trivial ⟨rfl,nle⟩ ⟨⟨rfl,trivial⟩,⟨⟨rfl,trivial⟩,trivial⟩⟩ rfl) trivial trivial<|s_mov (.int .i64 r_31.2) rfl<|w_done<|?_;obtain rfl:=os hb1;exact ⟨[],[0,1,4,7],_,_,rfl,rfl,⟨.refl _,⟨.refl _,⟨.refl _,⟨.refl _,⟨.refl _,trivial⟩⟩⟩⟩⟩,(.refl _)⟩
      ·refine s_dol (o_callf (v:=(.own 5 0 r_29.length)) (h':=[.row 3 (r_29.map encGSet)]) (w_laws_toSetS _ _ er30) rfl (.refl _) (by simp only [openV,openVs,List.length_map,List.nil_append,List.append_nil,List.cons_append];rfl)) trivial ?_ ?_
       ·refine s_dol (o_box (j:=5) (c:=(.agg [(.int .i64 0),.nil])) rfl trivial rfl rfl) (.inr ⟨⟨(.of nle trivial),rfl⟩,⟨⟨(.of nle trivial),rfl⟩,trivial⟩⟩) trivial<|s_dol (o_callf (v:=(.own 6 0 r_29.length)) (h':=[.row 3 (r_29.map encGSet)]) (w_laws_toSetS _ _ er30) rfl (.refl _) (by simp only [openV,openVs,List.length_map,List.nil_append,List.append_nil,List.cons_append];rfl)) trivial trivial<|s_dol (o_callf (v:=(.tup [(.agg [(.int .i64 r_31.1.Id),(.own 7 0 r_31.1.Cells.length)]),(.int .i64 r_31.2)])) (h':=[.row 1 (r_31.1.Cells.map (encL 3 encGAtom))]) (w_spec_SetRow _ _ _ _ er32) rfl (.cons (.agg (.cons (.refl _) (.cons (.of_eq (congrArg (AV.lst _) (tko (enc:=encGColumn) r_25.Columns))) (.cons (.of_eq (congrArg (AV.lst _) (tko (enc:=encI) r_25.Unique))) (.cons (.refl _) .nil))))) (.cons (.agg (.cons (.refl _) (.cons (.of_eq (congrArg (AV.lst _) (tko (enc:=(encL 3 encGAtom)) r_27.Cells))) .nil))) (.cons (.of_eq (congrArg (AV.lst _) (tko r_29))) .nil))) (by simp only [openV,openVs,List.length_map,encGRow_eq,List.nil_append,List.append_nil,List.cons_append];rfl)) trivial trivial<|?_
        refine s_mov (.tup [(.agg [(.int .i64 r_31.1.Id),(.own 7 0 r_31.1.Cells.length)]),(.int .i64 r_31.2)]) rfl<|s_q (.agg [(.int .i64 r_31.1.Id),(.own 7 0 r_31.1.Cells.length)]) rfl (.of nle trivial) rfl<|s_q (.int .i64 r_31.2) rfl (.of nle trivial) rfl<|s_dol0 (o_storebox (v:=(.agg [(.int .i64 r_31.1.Id),(.own 7 0 r_31.1.Cells.length)])) (y':=(.agg [(.int .i64 r_31.1.Id),(.own 7 0 r_31.1.Cells.length)])) rfl rfl rfl trivial ⟨rfl,nle⟩ ⟨⟨rfl,trivial⟩,⟨⟨rfl,trivial⟩,trivial⟩⟩ rfl) trivial trivial<|s_mov (.int .i64 r_31.2) rfl<|w_done<|?_;obtain rfl:=os hb1;exact ⟨[],[0,1,5,7],_,_,rfl,rfl,⟨.refl _,⟨.refl _,⟨.refl _,⟨.refl _,⟨.refl _,trivial⟩⟩⟩⟩⟩,(.refl _)⟩
       ·refine s_dol (o_callf (v:=(.tup [(.agg [(.int .i64 r_31.1.Id),(.own 6 0 r_31.1.Cells.length)]),(.int .i64 r_31.2)])) (h':=[.row 1 (r_31.1.Cells.map (encL 3 encGAtom))]) (w_spec_SetRow _ _ _ _ er32) rfl (.cons (.agg (.cons (.refl _) (.cons (.of_eq (congrArg (AV.lst _) (tko (enc:=encGColumn) r_25.Columns))) (.cons (.of_eq (congrArg (AV.lst _) (tko (enc:=encI) r_25.Unique))) (.cons (.refl _) .nil))))) (.cons (.agg (.cons (.refl _) (.cons (.of_eq (congrArg (AV.lst _) (tko (enc:=(encL 3 encGAtom)) r_27.Cells))) .nil))) (.cons (.of_eq (congrArg (AV.lst _) (tko r_29))) .nil))) (by simp only [openV,openVs,List.length_map,encGRow_eq,List.nil_append,List.append_nil,List.cons_append];rfl)) trivial ?_ ?_
        ·refine s_dol (o_box (j:=6) (c:=(.agg [(.int .i64 0),.nil])) rfl trivial rfl rfl) (.inr ⟨⟨(.of nle trivial),rfl⟩,⟨⟨(.of nle trivial),rfl⟩,trivial⟩⟩) trivial<|s_dol (o_callf (v:=(.tup [(.agg [(.int .i64 r_31.1.Id),(.own 7 0 r_31.1.Cells.length)]),(.int .i64 r_31.2)])) (h':=[.row 1 (r_31.1.Cells.map (encL 3 encGAtom))]) (w_spec_SetRow _ _ _ _ er32) rfl (.cons (.agg (.cons (.refl _) (.cons (.of_eq (congrArg (AV.lst _) (tko (enc:=encGColumn) r_25.Columns))) (.cons (.of_eq (congrArg (AV.lst _) (tko (enc:=encI) r_25.Unique))) (.cons (.refl _) .nil))))) (.cons (.agg (.cons (.refl _) (.cons (.of_eq (congrArg (AV.lst _) (tko (enc:=(encL 3 encGAtom)) r_27.Cells))) .nil))) (.cons (.of_eq (congrArg (AV.lst _) (tko r_29))) .nil))) (by simp only [openV,openVs,List.length_map,encGRow_eq,List.nil_append,List.append_nil,List.cons_append];rfl)) trivial trivial<|?_
         refine s_mov (.tup [(.agg [(.int .i64 r_31.1.Id),(.own 7 0 r_31.1.Cells.length)]),(.int .i64 r_31.2)]) rfl<|s_q (.agg [(.int .i64 r_31.1.Id),(.own 7 0 r_31.1.Cells.length)]) rfl (.of nle trivial) rfl<|s_q (.int .i64 r_31.2) rfl (.of nle trivial) rfl<|s_dol0 (o_storebox (v:=(.agg [(.int .i64 r_31.1.Id),(.own 7 0 r_31.1.Cells.length)])) (y':=(.agg [(.int .i64 r_31.1.Id),(.own 7 0 r_31.1.Cells.length)])) rfl rfl rfl trivial ⟨rfl,nle⟩ ⟨⟨rfl,trivial⟩,⟨⟨rfl,trivial⟩,trivial⟩⟩ rfl) trivial trivial<|s_mov (.int .i64 r_31.2) rfl<|w_done<|?_;obtain rfl:=os hb1;exact ⟨[],[0,1,6,7],_,_,rfl,rfl,⟨.refl _,⟨.refl _,⟨.refl _,⟨.refl _,⟨.refl _,trivial⟩⟩⟩⟩⟩,(.refl _)⟩
        ·refine s_mov (.tup [(.agg [(.int .i64 r_31.1.Id),(.own 6 0 r_31.1.Cells.length)]),(.int .i64 r_31.2)]) rfl<|s_q (.agg [(.int .i64 r_31.1.Id),(.own 6 0 r_31.1.Cells.length)]) rfl (.of nle trivial) rfl<|s_q (.int .i64 r_31.2) rfl (.of nle trivial) rfl<|s_dol (o_box (j:=7) (c:=(.agg [(.int .i64 0),.nil])) rfl trivial rfl rfl) (.inr ⟨⟨(.of nle trivial),rfl⟩,⟨⟨(.of nle trivial),rfl⟩,trivial⟩⟩) trivial<|s_dol0 (o_storebox (v:=(.agg [(.int .i64 r_31.1.Id),(.own 6 0 r_31.1.Cells.length)])) (y':=(.agg [(.int .i64 r_31.1.Id),(.own 6 0 r_31.1.Cells.length)])) rfl rfl rfl trivial ⟨rfl,nle⟩ ⟨⟨rfl,trivial⟩,⟨⟨rfl,trivial⟩,trivial⟩⟩ rfl) trivial trivial<|s_mov (.int .i64 r_31.2) rfl<|?_
         refine w_done ?_;obtain rfl:=os hb1;exact ⟨[],[0,1,7,6],_,_,rfl,rfl,⟨.refl _,⟨.refl _,⟨.refl _,⟨.refl _,⟨.refl _,trivial⟩⟩⟩⟩⟩,(.refl _)⟩
    ·obtain ⟨w1_21,x_22,x_23⟩:=p24
     refine sr<|?_
     obtain ⟨r_33,er34,hf⟩:=ob hf
     refine s_q (.agg [(.str aT_1.Name),(.lst 8 (aT_1.Columns.map encGColumn)),(.lst 1 (aT_1.Unique.map encI)),(.bool aT_1.Root)]) rfl (.of nle trivial) rfl<|s_do (o_callf (v:=(.agg [(.str r_33.Name),(.own 4 0 r_33.Columns.length),(.own 5 0 r_33.Unique.length),(.bool r_33.Root)])) (h':=[.row 8 (r_33.Columns.map encGColumn),.row 1 (r_33.Unique.map encI)]) (w_laws_toTable _ _ er34) rfl (.refl _) (by simp only [openV,openVs,List.length_map,encGTable_eq,List.nil_append,List.append_nil,List.cons_append];rfl))<|s_do (o_box (j:=6) (c:=(.agg [(.str []),.nil,.nil,(.bool false)])) rfl trivial rfl rfl)<|s_do0 (o_storebox (v:=(.agg [(.str r_33.Name),(.own 4 0 r_33.Columns.length),(.own 5 0 r_33.Unique.length),(.bool r_33.Root)])) (y':=(.agg [(.str r_33.Name),(.own 4 0 r_33.Columns.length),(.own 5 0 r_33.Unique.length),(.bool r_33.Root)])) rfl rfl rfl trivial ⟨rfl,nle⟩ ⟨⟨rfl,trivial⟩,⟨⟨rfl,trivial⟩,⟨⟨rfl,trivial⟩,⟨⟨rfl,trivial⟩,trivial⟩⟩⟩⟩ rfl)<|?_
     refine dk<|sr<|?_
     obtain ⟨r_35,er36,hf⟩:=ob hf
     refine s_q (.agg [(.int .i64 aR_2.Id),(.lst 1 (aR_2.Cells.map (encL 3 encGAtom)))]) rfl (.of nle trivial) rfl<|s_do (o_callf (v:=(.agg [(.int .i64 r_35.Id),(.own 7 0 r_35.Cells.length)])) (h':=[.row 1 (r_35.Cells.map (encL 3 encGAtom))]) (w_laws_toRow _ _ er36) rfl (.refl _) (by simp only [openV,openVs,List.length_map,encGRow_eq,List.nil_append,List.append_nil,List.cons_append];rfl))<|s_do (o_box (j:=8) (c:=(.agg [(.int .i64 0),.nil])) rfl trivial rfl rfl)<|s_do0 (o_storebox (v:=(.agg [(.int .i64 r_35.Id),(.own 7 0 r_35.Cells.length)])) (y':=(.agg [(.int .i64 r_35.Id),(.own 7 0 r_35.Cells.length)])) rfl rfl rfl trivial ⟨rfl,nle⟩ ⟨⟨rfl,trivial⟩,⟨⟨rfl,trivial⟩,trivial⟩⟩ rfl)<|?_
     refine dk<|sr<|?_
     obtain ⟨r_37,er38,hf⟩:=ob hf
     refine s_mov (.lst 3 (aList_3.map encGSet)) rfl<|s_do (o_callf (v:=(.own 9 0 r_37.length)) (h':=[.row 3 (r_37.map encGSet)]) (w_laws_toSetS _ _ er38) rfl (.refl _) (by simp only [openV,openVs,List.length_map,List.nil_append,List.append_nil,List.cons_append];rfl))<|s_mov (.own 9 0 r_37.length) rfl<|dk<|sr<|?_
     obtain ⟨r_39,er40,hf⟩:=ob hf
     refine s_q (.agg [(.str r_33.Name),(.own 4 0 r_33.Columns.length),(.own 5 0 r_33.Unique.length),(.bool r_33.Root)]) rfl (.of nle trivial) rfl<|s_q (.agg [(.int .i64 r_35.Id),(.own 7 0 r_35.Cells.length)]) rfl (.of nle trivial) rfl<|s_mov (.own 9 0 r_37.length) rfl<|s_do (o_callf (v:=(.tup [(.agg [(.int .i64 r_39.1.Id),(.own 10 0 r_39.1.Cells.length)]),(.int .i64 r_39.2)])) (h':=[.row 1 (r_39.1.Cells.map (encL 3 encGAtom))]) (w_impl_SetRow _ _ _ _ er40) rfl (.cons (.agg (.cons (.refl _) (.cons (.of_eq (congrArg (AV.lst _) (tko (enc:=encGColumn) r_33.Columns))) (.cons (.of_eq (congrArg (AV.lst _) (tko (enc:=encI) r_33.Unique))) (.cons (.refl _) .nil))))) (.cons (.agg (.cons (.refl _) (.cons (.of_eq (congrArg (AV.lst _) (tko (enc:=(encL 3 encGAtom)) r_35.Cells))) .nil))) (.cons (.of_eq (congrArg (AV.lst _) (tko r_37))) .nil))) (by simp only [openV,openVs,List.length_map,encGRow_eq,List.nil_append,List.append_nil,List.cons_append];rfl))<|?_
     refine s_mov (.tup [(.agg [(.int .i64 r_39.1.Id),(.own 10 0 r_39.1.Cells.length)]),(.int .i64 r_39.2)]) rfl<|s_q (.agg [(.int .i64 r_39.1.Id),(.own 10 0 r_39.1.Cells.length)]) rfl (.of nle trivial) rfl<|s_q (.int .i64 r_39.2) rfl (.of nle trivial) rfl<|s_do (o_box (j:=11) (c:=(.agg [(.int .i64 0),.nil])) rfl trivial rfl rfl)<|s_do0 (o_storebox (v:=(.agg [(.int .i64 r_39.1.Id),(.own 10 0 r_39.1.Cells.length)])) (y':=(.agg [(.int .i64 r_39.1.Id),(.own 10 0 r_39.1.Cells.length)])) rfl rfl rfl trivial ⟨rfl,nle⟩ ⟨⟨rfl,trivial⟩,⟨⟨rfl,trivial⟩,trivial⟩⟩ rfl)<|s_mov (.int .i64 r_39.2) rfl<|dk<|awp_seq<|awp_seq<|?_
     obtain ⟨s66_44,hb1,hf⟩:=ob hf
     refine awp_cut ([(2,(.lst 3 (aList_3.map encGSet))),(3,(.ptr 0 0 0)),(4,(.ptr 1 0 0)),(8,(.ptr 2 0 0)),(9,(.int .i64 w1_21)),(10,(.ptr 3 0 0)),(11,(.ptr 4 0 0)),(12,(.own 5 0 r_37.length)),(13,(.ptr 6 0 0)),(14,(.int .i64 r_39.2)),(66,(.bool s66_44))],[.box 4 (.agg [(.str aT_1.Name),(.lst 8 (aT_1.Columns.map encGColumn)),(.lst 1 (aT_1.Unique.map encI)),(.bool aT_1.Root)]),.box 2 (.agg [(.int .i64 aR_2.Id),(.lst 1 (aR_2.Cells.map (encL 3 encGAtom)))]),.box 2 (.agg [(.int .i64 x_22),(.own 7 0 x_23.length)]),.box 4 (.agg [(.str r_33.Name),(.own 8 0 r_33.Columns.length),(.own 9 0 r_33.Unique.length),(.bool r_33.Root)]),.box 2 (.agg [(.int .i64 r_35.Id),(.own 10 0 r_35.Cells.length)]),.row 3 (r_37.map encGSet),.box 2 (.agg [(.int .i64 r_39.1.Id),(.own 11 0 r_39.1.Cells.length)]),.row 1 (x_23.map (encL 3 encGAtom)),.row 8 (r_33.Columns.map encGColumn),.row 1 (r_33.Unique.map encI),.row 1 (r_35.Cells.map (encL 3 encGAtom)),.row 1 (r_39.1.Cells.map (encL 3 encGAtom))]) ?_ ?_
     ·refine w_reg ?_
      obtain ⟨r_46,er47,hb1⟩:=ob hb1
      rcases oi hb1 with ⟨c48,hb1⟩ | ⟨c48,hb1⟩
      ·refine s_q (.agg [(.int .i64 r_39.1.Id),(.own 10 0 r_39.1.Cells.length)]) rfl (.of nle trivial) rfl<|s_q (.agg [(.int .i64 x_22),(.own 3 0 x_23.length)]) rfl (.of nle trivial) rfl<|s_do (o_call (w_laws_eqRow _ _ _ er47) rfl (.cons (.agg (.cons (.refl _) (.cons (.of_eq (congrArg (AV.lst _) (tko (enc:=(encL 3 encGAtom)) r_39.1.Cells))) .nil))) (.cons (.agg (.cons (.refl _) (.cons (.of_eq (congrArg (AV.lst _) (tko (enc:=(encL 3 encGAtom)) x_23))) .nil))) .nil)) rfl)<|s_q (.bool (!r_46)) rfl (.of trivial trivial) rfl<|s_mov (.bool (!r_46)) rfl<|s_lit (s:=62) (b:=true) rfl c48<|s_off rfl rfl<|s_off rfl rfl<|s_off rfl rfl<|s_q (.bool true) rfl (.of trivial trivial) rfl<|w_done<|?_
       obtain rfl:=os hb1;exact ⟨[],[0,1,2,6,8,9,11,3,4,5,7,10],_,_,rfl,rfl,⟨.refl _,⟨.refl _,⟨.refl _,⟨.refl _,⟨.refl _,⟨.refl _,⟨.refl _,⟨.refl _,⟨.refl _,⟨.refl _,⟨.refl _,trivial⟩⟩⟩⟩⟩⟩⟩⟩⟩⟩⟩,(.refl _)⟩
      ·refine s_q (.agg [(.int .i64 r_39.1.Id),(.own 10 0 r_39.1.Cells.length)]) rfl (.of nle trivial) rfl<|s_q (.agg [(.int .i64 x_22),(.own 3 0 x_23.length)]) rfl (.of nle trivial) rfl<|s_do (o_call (w_laws_eqRow _ _ _ er47) rfl (.cons (.agg (.cons (.refl _) (.cons (.of_eq (congrArg (AV.lst _) (tko (enc:=(encL 3 encGAtom)) r_39.1.Cells))) .nil))) (.cons (.agg (.cons (.refl _) (.cons (.of_eq (congrArg (AV.lst _) (tko (enc:=(encL 3 encGAtom)) x_23))) .nil))) .nil)) rfl)<|s_q (.bool (!r_46)) rfl (.of trivial trivial) rfl<|s_mov (.bool (!r_46)) rfl<|s_lit (s:=62) (b:=false) rfl (bf c48)<|s_on rfl<|s_mov (.int .i64 r_39.2) rfl<|s_on rfl<|s_mov (.int .i64 w1_21) rfl<|s_on rfl<|s_q (.bool (r_39.2 != w1_21)) rfl (.of rfl trivial) rfl<|?_
       refine s_q (.bool (r_39.2 != w1_21)) rfl (.of trivial trivial) rfl<|w_done<|?_;obtain rfl:=os hb1;exact ⟨[],[0,1,2,6,8,9,11,3,4,5,7,10],_,_,rfl,rfl,⟨.refl _,⟨.refl _,⟨.refl _,⟨.refl _,⟨.refl _,⟨.refl _,⟨.refl _,⟨.refl _,⟨.refl _,⟨.refl _,⟨.refl _,trivial⟩⟩⟩⟩⟩⟩⟩⟩⟩⟩⟩,(.refl _)⟩
     ·rcases oi hf with ⟨c49,hf⟩ | ⟨c49,hf⟩
      ·refine w_condt rfl c49<|sr<|s_mov (.bool false) rfl<|dk<|w_ret<|?_;obtain rfl:=os hf;exact r_flat ⟨.of trivial trivial,trivial⟩ rfl (.refl _)
      ·refine w_condf rfl (bf c49)<|w_skip<|k_seq<|awp_seq<|sr<|?_
       obtain ⟨r_50,er51,hf⟩:=ob hf
       obtain ⟨r_52,er53,hf⟩:=ob hf
       refine s_q (.agg [(.str r_33.Name),(.own 8 0 r_33.Columns.length),(.own 9 0 r_33.Unique.length),(.bool r_33.Root)]) rfl (.of nle trivial) rfl<|s_q (.agg [(.str aT_1.Name),(.lst 8 (aT_1.Columns.map encGColumn)),(.lst 1 (aT_1.Unique.map encI)),(.bool aT_1.Root)]) rfl (.of nle trivial) rfl<|s_dol (o_callf (v:=(.agg [(.str r_50.Name),(.own 12 0 r_50.Columns.length),(.own 13 0 r_50.Unique.length),(.bool r_50.Root)])) (h':=[.row 8 (r_50.Columns.map encGColumn),.row 1 (r_50.Unique.map encI)]) (w_laws_toTable _ _ er51) rfl (.refl _) (by simp only [openV,openVs,List.length_map,encGTable_eq,List.nil_append,List.append_nil,List.cons_append];rfl)) (.inr ⟨⟨(.of nle trivial),rfl⟩,trivial⟩) trivial<|?_
       refine s_dol (o_call (w_laws_eqTable _ _ _ er53) rfl (.cons (.agg (.cons (.refl _) (.cons (.of_eq (congrArg (AV.lst _) (tko (enc:=encGColumn) r_33.Columns))) (.cons (.of_eq (congrArg (AV.lst _) (tko (enc:=encI) r_33.Unique))) (.cons (.refl _) .nil))))) (.cons (.agg (.cons (.refl _) (.cons (.of_eq (congrArg (AV.lst _) (tko (enc:=encGColumn) r_50.Columns))) (.cons (.of_eq (congrArg (AV.lst _) (tko (enc:=encI) r_50.Unique))) (.cons (.refl _) .nil))))) .nil)) rfl) a_same trivial<|s_q (.bool (!r_52)) rfl (.of trivial trivial) rfl<|dk<|?_
       rcases oi hf with ⟨c54,hf⟩ | ⟨c54,hf⟩
       ·refine w_condt rfl c54<|sr<|s_mov (.bool false) rfl<|dk<|w_ret<|?_;obtain rfl:=os hf;exact r_flat ⟨.of trivial trivial,trivial⟩ rfl (.refl _)
       ·refine w_condf rfl (bf c54)<|w_skip<|k_seq<|awp_seq<|sr<|?_
        obtain ⟨r_55,er56,hf⟩:=ob hf
        obtain ⟨r_57,er58,hf⟩:=ob hf
        refine s_q (.agg [(.int .i64 r_35.Id),(.own 10 0 r_35.Cells.length)]) rfl (.of nle trivial) rfl<|s_q (.agg [(.int .i64 aR_2.Id),(.lst 1 (aR_2.Cells.map (encL 3 encGAtom)))]) rfl (.of nle trivial) rfl<|s_dol (o_callf (v:=(.agg [(.int .i64 r_55.Id),(.own 14 0 r_55.Cells.length)])) (h':=[.row 1 (r_55.Cells.map (encL 3 encGAtom))]) (w_laws_toRow _ _ er56) rfl (.refl _) (by simp only [openV,openVs,List.length_map,encGRow_eq,List.nil_append,List.append_nil,List.cons_append];rfl)) (.inr ⟨⟨(.of nle trivial),rfl⟩,trivial⟩) trivial<|s_dol (o_call (w_laws_eqRow _ _ _ er58) rfl (.cons (.agg (.cons (.refl _) (.cons (.of_eq (congrArg (AV.lst _) (tko (enc:=(encL 3 encGAtom)) r_35.Cells))) .nil))) (.cons (.agg (.cons (.refl _) (.cons (.of_eq (congrArg (AV.lst _) (tko (enc:=(encL 3 encGAtom)) r_55.Cells))) .nil))) .nil)) rfl) a_same trivial<|?_
        refine s_q (.bool (!r_57)) rfl (.of trivial trivial) rfl<|dk<|?_
        rcases oi hf with ⟨c59,hf⟩ | ⟨c59,hf⟩
        ·refine w_condt rfl c59<|sr<|s_mov (.bool false) rfl<|dk<|w_ret<|?_;obtain rfl:=os hf;exact r_flat ⟨.of trivial trivial,trivial⟩ rfl (.refl _)
        ·refine w_condf rfl (bf c59)<|w_skip<|k_seq<|awp_seq<|sr<|?_
         obtain ⟨r_60,er61,hf⟩:=ob hf
         obtain ⟨r_62,er63,hf⟩:=ob hf
         refine s_mov (.own 5 0 r_37.length) rfl<|s_mov (.lst 3 (aList_3.map encGSet)) rfl<|s_do (o_callf (v:=(.own 15 0 r_60.length)) (h':=[.row 3 (r_60.map encGSet)]) (w_laws_toSetS _ _ er61) rfl (.refl _) (by simp only [openV,openVs,List.length_map,List.nil_append,List.append_nil,List.cons_append];rfl))<|s_do (o_call (w_laws_eqSetS _ _ _ er63) rfl (.cons (.of_eq (congrArg (AV.lst _) (tko r_37))) (.cons (.of_eq (congrArg (AV.lst _) (tko r_60))) .nil)) rfl)<|s_q (.bool (!r_62)) rfl (.of trivial trivial) rfl<|dk<|?_
         rcases oi hf with ⟨c64,hf⟩ | ⟨c64,hf⟩
         ·refine w_condt rfl c64<|sr<|s_mov (.bool false) rfl<|dk<|w_ret<|?_;obtain rfl:=os hf;exact r_flat ⟨.of trivial trivial,trivial⟩ rfl (.refl _)
         ·refine w_condf rfl (bf c64)<|w_skip<|k_seq<|sr<|s_mov (.int .i64 1) rfl<|dk<|sr<|?_
          obtain ⟨r_65,er66,hf⟩:=ob hf
          refine s_q (.agg [(.str r_33.Name),(.own 8 0 r_33.Columns.length),(.own 9 0 r_33.Unique.length),(.bool r_33.Root)]) rfl (.of nle trivial) rfl<|s_mov (.int .i64 1) rfl<|?_;refine s_dof (o_callhs (v:=(.int .i64 r_65.1)) (h2:=[.box 4 (.agg [(.str aT_1.Name),(.lst 8 (aT_1.Columns.map encGColumn)),(.lst 1 (aT_1.Unique.map encI)),(.bool aT_1.Root)]),.box 2 (.agg [(.int .i64 aR_2.Id),(.lst 1 (aR_2.Cells.map (encL 3 encGAtom)))]),.box 2 (.agg [(.int .i64 x_22),(.own 7 0 x_23.length)]),.box 4 (.agg [(.str r_33.Name),(.own 8 0 r_33.Columns.length),(.own 9 0 r_33.Unique.length),(.bool r_33.Root)]),.box 2 (.agg [(.int .i64 r_35.Id),(.own 10 0 r_35.Cells.length)]),.row 3 (r_37.map encGSet),.box 2 (.agg [(.int .i64 r_39.1.Id),(.own 11 0 r_39.1.Cells.length)]),.row 1 (x_23.map (encL 3 encGAtom)),.row 8 (r_65.2.Columns.map encGColumn),.row 1 (r_65.2.Unique.map encI),.row 1 (r_35.Cells.map (encL 3 encGAtom)),.row 1 (r_39.1.Cells.map (encL 3 encGAtom)),.row 8 (r_50.Columns.map encGColumn),.row 1 (r_50.Unique.map encI),.row 1 (r_55.Cells.map (encL 3 encGAtom)),.row 3 (r_60.map encGSet)]) [] [8,9] (fun _ => rfl) (w_laws_markTable _ _ _ er66) rfl (.refl _) (.refl _) rfl rfl) fun hl67 => ?_
          refine s_mov (.int .i64 r_65.1) rfl<|dk<|sr<|?_
          obtain ⟨r_68,er69,hf⟩:=ob hf
          refine s_q (.agg [(.int .i64 r_35.Id),(.own 10 0 r_35.Cells.length)]) rfl (.of nle trivial) rfl<|s_mov (.int .i64 r_65.1) rfl<|?_;refine s_dof (o_callhs (v:=(.int .i64 r_68.1)) (h2:=[.box 4 (.agg [(.str aT_1.Name),(.lst 8 (aT_1.Columns.map encGColumn)),(.lst 1 (aT_1.Unique.map encI)),(.bool aT_1.Root)]),.box 2 (.agg [(.int .i64 aR_2.Id),(.lst 1 (aR_2.Cells.map (encL 3 encGAtom)))]),.box 2 (.agg [(.int .i64 x_22),(.own 7 0 x_23.length)]),.box 4 (.agg [(.str r_33.Name),(.own 8 0 r_33.Columns.length),(.own 9 0 r_33.Unique.length),(.bool r_33.Root)]),.box 2 (.agg [(.int .i64 r_35.Id),(.own 10 0 r_35.Cells.length)]),.row 3 (r_37.map encGSet),.box 2 (.agg [(.int .i64 r_39.1.Id),(.own 11 0 r_39.1.Cells.length)]),.row 1 (x_23.map (encL 3 encGAtom)),.row 8 (r_65.2.Columns.map encGColumn),.row 1 (r_65.2.Unique.map encI),.row 1 (r_68.2.Cells.map (encL 3 encGAtom)),.row 1 (r_39.1.Cells.map (encL 3 encGAtom)),.row 8 (r_50.Columns.map encGColumn),.row 1 (r_50.Unique.map encI),.row 1 (r_55.Cells.map (encL 3 encGAtom)),.row 3 (r_60.map encGSet)]) [] [10] (fun _ => rfl) (w_laws_markRow _ _ _ er69) rfl (.refl _) (.refl _) rfl rfl) fun hl70 => ?_
          refine s_mov (.int .i64 r_68.1) rfl<|dk<|sr<|?_
          obtain ⟨r_71,er72,hf⟩:=ob hf
          refine s_mov (.own 5 0 r_37.length) rfl<|s_mov (.int .i64 r_68.1) rfl<|?_;refine s_dof (o_callhs (v:=(.int .i64 r_71.1)) (h2:=[.box 4 (.agg [(.str aT_1.Name),(.lst 8 (aT_1.Columns.map encGColumn)),(.lst 1 (aT_1.Unique.map encI)),(.bool aT_1.Root)]),.box 2 (.agg [(.int .i64 aR_2.Id),(.lst 1 (aR_2.Cells.map (encL 3 encGAtom)))]),.box 2 (.agg [(.int .i64 x_22),(.own 7 0 x_23.length)]),.box 4 (.agg [(.str r_33.Name),(.own 8 0 r_33.Columns.length),(.own 9 0 r_33.Unique.length),(.bool r_33.Root)]),.box 2 (.agg [(.int .i64 r_35.Id),(.own 10 0 r_35.Cells.length)]),.row 3 (r_71.2.map encGSet),.box 2 (.agg [(.int .i64 r_39.1.Id),(.own 11 0 r_39.1.Cells.length)]),.row 1 (x_23.map (encL 3 encGAtom)),.row 8 (r_65.2.Columns.map encGColumn),.row 1 (r_65.2.Unique.map encI),.row 1 (r_68.2.Cells.map (encL 3 encGAtom)),.row 1 (r_39.1.Cells.map (encL 3 encGAtom)),.row 8 (r_50.Columns.map encGColumn),.row 1 (r_50.Unique.map encI),.row 1 (r_55.Cells.map (encL 3 encGAtom)),.row 3 (r_60.map encGSet)]) [] [5] (fun _ => rfl) (w_laws_markSetS _ _ _ er72) rfl (.refl _) (.refl _) rfl rfl) fun hl73 => ?_
          refine s_mov (.int .i64 r_71.1) rfl<|dk<|awp_seq<|awp_seq<|?_
          obtain ⟨s103_77,hb1,hf⟩:=ob hf
          refine awp_cut ([(2,(.lst 3 (aList_3.map encGSet))),(3,(.ptr 0 0 0)),(4,(.ptr 1 0 0)),(8,(.ptr 2 0 0)),(9,(.int .i64 w1_21)),(13,(.ptr 3 0 0)),(103,(.bool s103_77))],[.box 4 (.agg [(.str aT_1.Name),(.lst 8 (aT_1.Columns.map encGColumn)),(.lst 1 (aT_1.Unique.map encI)),(.bool aT_1.Root)]),.box 2 (.agg [(.int .i64 aR_2.Id),(.lst 1 (aR_2.Cells.map (encL 3 encGAtom)))]),.box 2 (.agg [(.int .i64 x_22),(.own 4 0 x_23.length)]),.box 2 (.agg [(.int .i64 r_39.1.Id),(.own 5 0 r_39.1.Cells.length)]),.row 1 (x_23.map (encL 3 encGAtom)),.row 1 (r_39.1.Cells.map (encL 3 encGAtom))]) ?_ ?_
          ·refine w_reg<|s_mov (.int .i64 r_71.1) rfl<|s_q (.bool (decide (r_71.1 < 0))) rfl (.of rfl trivial) rfl<|s_mov (.bool (decide (r_71.1 < 0))) rfl<|?_
           rcases oi hb1 with ⟨c79,hb1⟩ | ⟨c79,hb1⟩
           ·refine s_lit (s:=93) (b:=true) rfl c79<|s_off rfl rfl<|s_off rfl rfl<|s_off rfl rfl<|s_off rfl rfl<|s_q (.bool true) rfl (.of trivial trivial) rfl<|s_mov (.bool true) rfl<|s_off rfl rfl<|s_off rfl rfl<|s_off rfl rfl<|s_q (.bool true) rfl (.of trivial trivial) rfl<|w_done<|?_;obtain rfl:=os hb1;exact ⟨[],[0,1,2,6,7,11],_,_,rfl,rfl,⟨.refl _,⟨.refl _,⟨.refl _,⟨.refl _,⟨.refl _,⟨.refl _,⟨.refl _,trivial⟩⟩⟩⟩⟩⟩⟩,(.refl _)⟩
           ·refine s_lit (s:=93) (b:=false) rfl (bf c79)<|s_on rfl<|s_q (.agg [(.int .i64 r_39.1.Id),(.own 11 0 r_39.1.Cells.length)]) rfl (.of nle trivial) rfl<|s_on rfl<|s_q (.agg [(.int .i64 x_22),(.own 7 0 x_23.length)]) rfl (.of nle trivial) rfl<|s_on rfl<|?_
            obtain ⟨r_80,er81,hb1⟩:=ob hb1
            refine s_do (o_call (w_laws_eqRow _ _ _ er81) rfl (.cons (.agg (.cons (.refl _) (.cons (.of_eq (congrArg (AV.lst _) (tko (enc:=(encL 3 encGAtom)) r_39.1.Cells))) .nil))) (.cons (.agg (.cons (.refl _) (.cons (.of_eq (congrArg (AV.lst _) (tko (enc:=(encL 3 encGAtom)) x_23))) .nil))) .nil)) rfl)<|s_on rfl<|s_q (.bool (!r_80)) rfl (.of trivial trivial) rfl<|s_q (.bool (!r_80)) rfl (.of trivial trivial) rfl<|s_mov (.bool (!r_80)) rfl<|?_;refine s_g (v:=(!r_80)) (.int .i64 r_39.2) rfl (fun hv => by (try simp only [gs_on hv]);exact ⟨rfl,.of trivial trivial,rfl⟩) ?_;refine s_g (v:=(!r_80)) (.int .i64 w1_21) rfl (fun hv => by (try simp only [gs_on hv]);exact ⟨rfl,.of trivial trivial,rfl⟩) ?_
            refine s_g (v:=(!r_80)) (.bool (r_39.2 != w1_21)) rfl (fun hv => by (try simp only [gs_on hv]);exact ⟨rfl,(.of rfl trivial),rfl⟩) ?_;refine s_pick (x:=true) (y:=(r_39.2 != w1_21)) rfl (fun hv => by (try simp only [gs_on hv]);rfl) (fun hv => by (try simp only [gs_on hv]);rfl) ?_;refine w_done ?_;obtain rfl:=os hb1;exact ⟨[],[0,1,2,6,7,11],_,_,rfl,rfl,⟨.refl _,⟨.refl _,⟨.refl _,⟨.refl _,⟨.refl _,⟨.refl _,⟨.refl _,trivial⟩⟩⟩⟩⟩⟩⟩,(.refl _)⟩
          ·rcases oi hf with ⟨c82,hf⟩ | ⟨c82,hf⟩
           ·refine w_condt rfl c82<|sr<|s_mov (.bool false) rfl<|dk<|w_ret<|?_;obtain rfl:=os hf;exact r_flat ⟨.of trivial trivial,trivial⟩ rfl (.refl _)
           ·refine w_condf rfl (bf c82)<|w_skip<|k_seq<|sr<|s_mov (.int .i64 1) rfl<|dk<|sr<|?_
            obtain ⟨r_83,er84,hf⟩:=ob hf
            refine s_q (.agg [(.int .i64 r_39.1.Id),(.own 5 0 r_39.1.Cells.length)]) rfl (.of nle trivial) rfl<|s_mov (.int .i64 1) rfl<|?_;refine s_dof (o_callhs (v:=(.int .i64 r_83.1)) (h2:=[.box 4 (.agg [(.str aT_1.Name),(.lst 8 (aT_1.Columns.map encGColumn)),(.lst 1 (aT_1.Unique.map encI)),(.bool aT_1.Root)]),.box 2 (.agg [(.int .i64 aR_2.Id),(.lst 1 (aR_2.Cells.map (encL 3 encGAtom)))]),.box 2 (.agg [(.int .i64 x_22),(.own 4 0 x_23.length)]),.box 2 (.agg [(.int .i64 r_39.1.Id),(.own 5 0 r_39.1.Cells.length)]),.row 1 (x_23.map (encL 3 encGAtom)),.row 1 (r_83.2.Cells.map (encL 3 encGAtom))]) [] [5] (fun _ => rfl) (w_laws_markRow _ _ _ er84) rfl (.refl _) (.refl _) rfl rfl) fun hl85 => ?_;refine s_mov (.int .i64 r_83.1) rfl ?_
            refine dk<|sr<|s_mov (.int .i64 1) rfl<|dk<|sr<|?_
            obtain ⟨r_86,er87,hf⟩:=ob hf
            refine s_q (.agg [(.int .i64 r_39.1.Id),(.own 5 0 r_39.1.Cells.length)]) rfl (.of nle trivial) rfl<|s_mov (.int .i64 1) rfl<|s_do (o_call (w_laws_heldRow _ _ _ er87) rfl (.cons (.agg (.cons (.refl _) (.cons (.of_eq (congrArg (AV.lst _) (tkol (hl85 0 _ _ _ _ rfl rfl)))) .nil))) (.cons (.refl _) .nil)) rfl)<|s_mov (.int .i64 r_86) rfl<|dk<|awp_seq<|sr<|s_mov (.int .i64 r_86) rfl<|s_q (.bool (decide (r_86 < 0))) rfl (.of rfl trivial) rfl<|dk<|?_
            rcases oi hf with ⟨c88,hf⟩ | ⟨c88,hf⟩
            ·refine w_condt rfl c88<|sr<|s_mov (.bool false) rfl<|dk<|w_ret<|?_;obtain rfl:=os hf;exact r_flat ⟨.of trivial trivial,trivial⟩ rfl (.refl _)
            ·refine w_condf rfl (bf c88)<|w_skip<|k_seq<|awp_seq<|sr<|s_mov (.int .i64 r_86) rfl<|s_mov (.int .i64 r_83.1) rfl<|s_q (.bool (r_86 != r_83.1)) rfl (.of rfl trivial) rfl<|dk<|?_
             rcases oi hf with ⟨c89,hf⟩ | ⟨c89,hf⟩
             ·refine w_condt rfl c89<|sr<|s_mov (.bool false) rfl<|dk<|w_ret<|?_;obtain rfl:=os hf;exact r_flat ⟨.of trivial trivial,trivial⟩ rfl (.refl _)
             ·refine w_condf rfl (bf c89)<|w_skip<|k_seq<|awp_seq<|?_
              obtain ⟨p101,hb1,hf⟩:=ob hf
              refine awp_cut ([(8,(.ptr 0 0 0)),(9,(.int .i64 w1_21)),(13,(.ptr 1 0 0)),(16,(.int .i64 r_83.1)),(18,(.ptr 2 0 0)),(19,(.int .i64 p101.1))],[.box 2 (.agg [(.int .i64 x_22),(.own 3 0 x_23.length)]),.box 2 (.agg [(.int .i64 r_39.1.Id),(.own 4 0 r_83.2.Cells.length)]),.box 2 (.agg [(.int .i64 p101.2.1),(.own 5 0 p101.2.2.length)]),.row 1 (x_23.map (encL 3 encGAtom)),.row 1 (r_83.2.Cells.map (encL 3 encGAtom)),.row 1 (p101.2.2.map (encL 3 encGAtom))]) ?_ ?_
              ·refine w_reg ?_
               obtain ⟨r_102,er103,hb1⟩:=ob hb1
               obtain ⟨r_104,er105,hb1⟩:=ob hb1
               obtain ⟨r_106,er107,hb1⟩:=ob hb1
               obtain ⟨r_108,er109,hb1⟩:=ob hb1
               refine s_q (.agg [(.str aT_1.Name),(.lst 8 (aT_1.Columns.map encGColumn)),(.lst 1 (aT_1.Unique.map encI)),(.bool aT_1.Root)]) rfl (.of nle trivial) rfl<|s_q (.agg [(.int .i64 aR_2.Id),(.lst 1 (aR_2.Cells.map (encL 3 encGAtom)))]) rfl (.of nle trivial) rfl<|s_mov (.lst 3 (aList_3.map encGSet)) rfl<|?_;refine s_dol (o_callf (v:=(.agg [(.str r_102.Name),(.own 6 0 r_102.Columns.length),(.own 7 0 r_102.Unique.length),(.bool r_102.Root)])) (h':=[.row 8 (r_102.Columns.map encGColumn),.row 1 (r_102.Unique.map encI)]) (w_laws_toTable _ _ er103) rfl (.refl _) (by simp only [openV,openVs,List.length_map,encGTable_eq,List.nil_append,List.append_nil,List.cons_append];rfl)) (.inr ⟨⟨(.of nle trivial),rfl⟩,trivial⟩) ?_ ?_
               ·refine s_dol (o_box (j:=6) (c:=(.agg [(.int .i64 0),.nil])) rfl trivial rfl rfl) (.inr ⟨⟨(.of nle trivial),rfl⟩,⟨⟨(.of nle trivial),rfl⟩,trivial⟩⟩) trivial<|s_dol (o_callf (v:=(.agg [(.str r_102.Name),(.own 7 0 r_102.Columns.length),(.own 8 0 r_102.Unique.length),(.bool r_102.Root)])) (h':=[.row 8 (r_102.Columns.map encGColumn),.row 1 (r_102.Unique.map encI)]) (w_laws_toTable _ _ er103) rfl (.refl _) (by simp only [openV,openVs,List.length_map,encGTable_eq,List.nil_append,List.append_nil,List.cons_append];rfl)) (.inr ⟨⟨(.of nle trivial),rfl⟩,trivial⟩) trivial<|s_dol (o_callf (v:=(.agg [(.int .i64 r_104.Id),(.own 9 0 r_104.Cells.length)])) (h':=[.row 1 (r_104.Cells.map (encL 3 encGAtom))]) (w_laws_toRow _ _ er105) rfl (.refl _) (by simp only [openV,openVs,List.length_map,encGRow_eq,List.nil_append,List.append_nil,List.cons_append];rfl)) trivial trivial<|?_
                refine s_dol (o_callf (v:=(.own 10 0 r_106.length)) (h':=[.row 3 (r_106.map encGSet)]) (w_laws_toSetS _ _ er107) rfl (.refl _) (by simp only [openV,openVs,List.length_map,List.nil_append,List.append_nil,List.cons_append];rfl)) trivial trivial<|s_dol (o_callf (v:=(.tup [(.agg [(.int .i64 r_108.1.Id),(.own 11 0 r_108.1.Cells.length)]),(.int .i64 r_108.2)])) (h':=[.row 1 (r_108.1.Cells.map (encL 3 encGAtom))]) (w_impl_SetRow _ _ _ _ er109) rfl (.cons (.agg (.cons (.refl _) (.cons (.of_eq (congrArg (AV.lst _) (tko (enc:=encGColumn) r_102.Columns))) (.cons (.of_eq (congrArg (AV.lst _) (tko (enc:=encI) r_102.Unique))) (.cons (.refl _) .nil))))) (.cons (.agg (.cons (.refl _) (.cons (.of_eq (congrArg (AV.lst _) (tko (enc:=(encL 3 encGAtom)) r_104.Cells))) .nil))) (.cons (.of_eq (congrArg (AV.lst _) (tko r_106))) .nil))) (by simp only [openV,openVs,List.length_map,encGRow_eq,List.nil_append,List.append_nil,List.cons_append];rfl)) trivial trivial<|?_
                refine s_mov (.tup [(.agg [(.int .i64 r_108.1.Id),(.own 11 0 r_108.1.Cells.length)]),(.int .i64 r_108.2)]) rfl<|s_q (.agg [(.int .i64 r_108.1.Id),(.own 11 0 r_108.1.Cells.length)]) rfl (.of nle trivial) rfl<|s_q (.int .i64 r_108.2) rfl (.of nle trivial) rfl<|s_dol0 (o_storebox (v:=(.agg [(.int .i64 r_108.1.Id),(.own 11 0 r_108.1.Cells.length)])) (y':=(.agg [(.int .i64 r_108.1.Id),(.own 11 0 r_108.1.Cells.length)])) rfl rfl rfl trivial ⟨rfl,nle⟩ ⟨⟨rfl,trivial⟩,⟨⟨rfl,trivial⟩,trivial⟩⟩ rfl) trivial trivial<|s_mov (.int .i64 r_108.2) rfl<|w_done<|?_;obtain rfl:=os hb1;exact ⟨[],[2,3,6,4,5,11],_,_,rfl,rfl,⟨.refl _,⟨.refl _,⟨.refl _,⟨.refl _,⟨.refl _,⟨.refl _,trivial⟩⟩⟩⟩⟩⟩,(.cons (.refl _) (.cons (.box (.agg (.cons (.refl _) (.cons (.of_eq (congrArg (AV.own _ 0) (by have h:=(hl85 0 _ _ _ _ rfl rfl);simpa using h.symm))) .nil)))) (.cons (.refl _) (.cons (.refl _) (.cons (.refl _) (.cons (.refl _) .nil))))))⟩
               ·refine s_dol (o_callf (v:=(.agg [(.int .i64 r_104.Id),(.own 8 0 r_104.Cells.length)])) (h':=[.row 1 (r_104.Cells.map (encL 3 encGAtom))]) (w_laws_toRow _ _ er105) rfl (.refl _) (by simp only [openV,openVs,List.length_map,encGRow_eq,List.nil_append,List.append_nil,List.cons_append];rfl)) trivial ?_ ?_
                ·refine s_dol (o_box (j:=8) (c:=(.agg [(.int .i64 0),.nil])) rfl trivial rfl rfl) (.inr ⟨⟨(.of nle trivial),rfl⟩,⟨⟨(.of nle trivial),rfl⟩,trivial⟩⟩) trivial<|s_dol (o_callf (v:=(.agg [(.int .i64 r_104.Id),(.own 9 0 r_104.Cells.length)])) (h':=[.row 1 (r_104.Cells.map (encL 3 encGAtom))]) (w_laws_toRow _ _ er105) rfl (.refl _) (by simp only [openV,openVs,List.length_map,encGRow_eq,List.nil_append,List.append_nil,List.cons_append];rfl)) trivial trivial<|s_dol (o_callf (v:=(.own 10 0 r_106.length)) (h':=[.row 3 (r_106.map encGSet)]) (w_laws_toSetS _ _ er107) rfl (.refl _) (by simp only [openV,openVs,List.length_map,List.nil_append,List.append_nil,List.cons_append];rfl)) trivial trivial<|?_
                 refine s_dol (o_callf (v:=(.tup [(.agg [(.int .i64 r_108.1.Id),(.own 11 0 r_108.1.Cells.length)]),(.int .i64 r_108.2)])) (h':=[.row 1 (r_108.1.Cells.map (encL 3 encGAtom))]) (w_impl_SetRow _ _ _ _ er109) rfl (.cons (.agg (.cons (.refl _) (.cons (.of_eq (congrArg (AV.lst _) (tko (enc:=encGColumn) r_102.Columns))) (.cons (.of_eq (congrArg (AV.lst _) (tko (enc:=encI) r_102.Unique))) (.cons (.refl _) .nil))))) (.cons (.agg (.cons (.refl _) (.cons (.of_eq (congrArg (AV.lst _) (tko (enc:=(encL 3 encGAtom)) r_104.Cells))) .nil))) (.cons (.of_eq (congrArg (AV.lst _) (tko r_106))) .nil))) (by simp only [openV,openVs,List.length_map,encGRow_eq,List.nil_append,List.append_nil,List.cons_append];rfl)) trivial trivial ?_
                 refine s_mov (.tup [(.agg [(.int .i64 r_108.1.Id),(.own 11 0 r_108.1.Cells.length)]),(.int .i64 r_108.2)]) rfl<|s_q (.agg [(.int .i64 r_108.1.Id),(.own 11 0 r_108.1.Cells.length)]) rfl (.of nle trivial) rfl<|s_q (.int .i64 r_108.2) rfl (.of nle trivial) rfl<|s_dol0 (o_storebox (v:=(.agg [(.int .i64 r_108.1.Id),(.own 11 0 r_108.1.Cells.length)])) (y':=(.agg [(.int .i64 r_108.1.Id),(.own 11 0 r_108.1.Cells.length)])) rfl rfl rfl trivial ⟨rfl,nle⟩ ⟨⟨rfl,trivial⟩,⟨⟨rfl,trivial⟩,trivial⟩⟩ rfl) trivial trivial<|s_mov (.int .i64 r_108.2) rfl<|w_done<|?_;obtain rfl:=os hb1;exact ⟨[],[2,3,8,4,5,11],_,_,rfl,rfl,⟨.refl _,⟨.refl _,⟨.refl _,⟨.refl _,⟨.refl _,⟨.refl _,trivial⟩⟩⟩⟩⟩⟩,(.cons (.refl _) (.cons (.box (.agg (.cons (.refl _) (.cons (.of_eq (congrArg (AV.own _ 0) (by have h:=(hl85 0 _ _ _ _ rfl rfl);simpa using h.symm))) .nil)))) (.cons (.refl _) (.cons (.refl _) (.cons (.refl _) (.cons (.refl _) .nil))))))⟩
                ·refine s_dol (o_callf (v:=(.own 9 0 r_106.length)) (h':=[.row 3 (r_106.map encGSet)]) (w_laws_toSetS _ _ er107) rfl (.refl _) (by simp only [openV,openVs,List.length_map,List.nil_append,List.append_nil,List.cons_append];rfl)) trivial ?_ ?_
                 ·refine s_dol (o_box (j:=9) (c:=(.agg [(.int .i64 0),.nil])) rfl trivial rfl rfl) (.inr ⟨⟨(.of nle trivial),rfl⟩,⟨⟨(.of nle trivial),rfl⟩,trivial⟩⟩) trivial<|s_dol (o_callf (v:=(.own 10 0 r_106.length)) (h':=[.row 3 (r_106.map encGSet)]) (w_laws_toSetS _ _ er107) rfl (.refl _) (by simp only [openV,openVs,List.length_map,List.nil_append,List.append_nil,List.cons_append];rfl)) trivial trivial<|s_dol (o_callf (v:=(.tup [(.agg [(.int .i64 r_108.1.Id),(.own 11 0 r_108.1.Cells.length)]),(.int .i64 r_108.2)])) (h':=[.row 1 (r_108.1.Cells.map (encL 3 encGAtom))]) (w_impl_SetRow _ _ _ _ er109) rfl (.cons (.agg (.cons (.refl _) (.cons (.of_eq (congrArg (AV.lst _) (tko (enc:=encGColumn) r_102.Columns))) (.cons (.of_eq (congrArg (AV.lst _) (tko (enc:=encI) r_102.Unique))) (.cons (.refl _) .nil))))) (.cons (.agg (.cons (.refl _) (.cons (.of_eq (congrArg (AV.lst _) (tko (enc:=(encL 3 encGAtom)) r_104.Cells))) .nil))) (.cons (.of_eq (congrArg (AV.lst _) (tko r_106))) .nil))) (by simp only [openV,openVs,List.length_map,encGRow_eq,List.nil_append,List.append_nil,List.cons_append];rfl)) trivial trivial<|?_
                  refine s_mov (.tup [(.agg [(.int .i64 r_108.1.Id),(.own 11 0 r_108.1.Cells.length)]),(.int .i64 r_108.2)]) rfl<|s_q (.agg [(.int .i64 r_108.1.Id),(.own 11 0 r_108.1.Cells.length)]) rfl (.of nle trivial) rfl<|s_q (.int .i64 r_108.2) rfl (.of nle trivial) rfl<|s_dol0 (o_storebox (v:=(.agg [(.int .i64 r_108.1.Id),(.own 11 0 r_108.1.Cells.length)])) (y':=(.agg [(.int .i64 r_108.1.Id),(.own 11 0 r_108.1.Cells.length)])) rfl rfl rfl trivial ⟨rfl,nle⟩ ⟨⟨rfl,trivial⟩,⟨⟨rfl,trivial⟩,trivial⟩⟩ rfl) trivial trivial<|s_mov (.int .i64 r_108.2) rfl<|w_done<|?_;obtain rfl:=os hb1;exact ⟨[],[2,3,9,4,5,11],_,_,rfl,rfl,⟨.refl _,⟨.refl _,⟨.refl _,⟨.refl _,⟨.refl _,⟨.refl _,trivial⟩⟩⟩⟩⟩⟩,(.cons (.refl _) (.cons (.box (.agg (.cons (.refl _) (.cons (.of_eq (congrArg (AV.own _ 0) (by have h:=(hl85 0 _ _ _ _ rfl rfl);simpa using h.symm))) .nil)))) (.cons (.refl _) (.cons (.refl _) (.cons (.refl _) (.cons (.refl _) .nil))))))⟩
                 ·refine s_dol (o_callf (v:=(.tup [(.agg [(.int .i64 r_108.1.Id),(.own 10 0 r_108.1.Cells.length)]),(.int .i64 r_108.2)])) (h':=[.row 1 (r_108.1.Cells.map (encL 3 encGAtom))]) (w_impl_SetRow _ _ _ _ er109) rfl (.cons (.agg (.cons (.refl _) (.cons (.of_eq (congrArg (AV.lst _) (tko (enc:=encGColumn) r_102.Columns))) (.cons (.of_eq (congrArg (AV.lst _) (tko (enc:=encI) r_102.Unique))) (.cons (.refl _) .nil))))) (.cons (.agg (.cons (.refl _) (.cons (.of_eq (congrArg (AV.lst _) (tko (enc:=(encL 3 encGAtom)) r_104.Cells))) .nil))) (.cons (.of_eq (congrArg (AV.lst _) (tko r_106))) .nil))) (by simp only [openV,openVs,List.length_map,encGRow_eq,List.nil_append,List.append_nil,List.cons_append];rfl)) trivial ?_ ?_
                  ·refine s_dol (o_box (j:=10) (c:=(.agg [(.int .i64 0),.nil])) rfl trivial rfl rfl) (.inr ⟨⟨(.of nle trivial),rfl⟩,⟨⟨(.of nle trivial),rfl⟩,trivial⟩⟩) trivial<|s_dol (o_callf (v:=(.tup [(.agg [(.int .i64 r_108.1.Id),(.own 11 0 r_108.1.Cells.length)]),(.int .i64 r_108.2)])) (h':=[.row 1 (r_108.1.Cells.map (encL 3 encGAtom))]) (w_impl_SetRow _ _ _ _ er109) rfl (.cons (.agg (.cons (.refl _) (.cons (.of_eq (congrArg (AV.lst _) (tko (enc:=encGColumn) r_102.Columns))) (.cons (.of_eq (congrArg (AV.lst _) (tko (enc:=encI) r_102.Unique))) (.cons (.refl _) .nil))))) (.cons (.agg (.cons (.refl _) (.cons (.of_eq (congrArg (AV.lst _) (tko (enc:=(encL 3 encGAtom)) r_104.Cells))) .nil))) (.cons (.of_eq (congrArg (AV.lst _) (tko r_106))) .nil))) (by simp only [openV,openVs,List.length_map,encGRow_eq,List.nil_append,List.append_nil,List.cons_append];rfl)) trivial trivial<|?_
                   refine s_mov (.tup [(.agg [(.int .i64 r_108.1.Id),(.own 11 0 r_108.1.Cells.length)]),(.int .i64 r_108.2)]) rfl<|s_q (.agg [(.int .i64 r_108.1.Id),(.own 11 0 r_108.1.Cells.length)]) rfl (.of nle trivial) rfl<|s_q (.int .i64 r_108.2) rfl (.of nle trivial) rfl<|s_dol0 (o_storebox (v:=(.agg [(.int .i64 r_108.1.Id),(.own 11 0 r_108.1.Cells.length)])) (y':=(.agg [(.int .i64 r_108.1.Id),(.own 11 0 r_108.1.Cells.length)])) rfl rfl rfl trivial ⟨rfl,nle⟩ ⟨⟨rfl,trivial⟩,⟨⟨rfl,trivial⟩,trivial⟩⟩ rfl) trivial trivial<|s_mov (.int .i64 r_108.2) rfl<|w_done<|?_;obtain rfl:=os hb1;exact ⟨[],[2,3,10,4,5,11],_,_,rfl,rfl,⟨.refl _,⟨.refl _,⟨.refl _,⟨.refl _,⟨.refl _,⟨.refl _,trivial⟩⟩⟩⟩⟩⟩,(.cons (.refl _) (.cons (.box (.agg (.cons (.refl _) (.cons (.of_eq (congrArg (AV.own _ 0) (by have h:=(hl85 0 _ _ _ _ rfl rfl);simpa using h.symm))) .nil)))) (.cons (.refl _) (.cons (.refl _) (.cons (.refl _) (.cons (.refl _) .nil))))))⟩
                  ·refine s_mov (.tup [(.agg [(.int .i64 r_108.1.Id),(.own 10 0 r_108.1.Cells.length)]),(.int .i64 r_108.2)]) rfl<|s_q (.agg [(.int .i64 r_108.1.Id),(.own 10 0 r_108.1.Cells.length)]) rfl (.of nle trivial) rfl<|s_q (.int .i64 r_108.2) rfl (.of nle trivial) rfl<|s_dol (o_box (j:=11) (c:=(.agg [(.int .i64 0),.nil])) rfl trivial rfl rfl) (.inr ⟨⟨(.of nle trivial),rfl⟩,⟨⟨(.of nle trivial),rfl⟩,trivial⟩⟩) trivial<|s_dol0 (o_storebox (v:=(.agg [(.int .i64 r_108.1.Id),(.own 10 0 r_108.1.Cells.length)])) (y':=(.agg [(.int .i64 r_108.1.Id),(.own 10 0 r_108.1.Cells.length)])) rfl rfl rfl trivial ⟨rfl,nle⟩ ⟨⟨rfl,trivial⟩,⟨⟨rfl,trivial⟩,trivial⟩⟩ rfl) trivial trivial<|s_mov (.int .i64 r_108.2) rfl<|?_
                   refine w_done ?_;obtain rfl:=os hb1;exact ⟨[],[2,3,11,4,5,10],_,_,rfl,rfl,⟨.refl _,⟨.refl _,⟨.refl _,⟨.refl _,⟨.refl _,⟨.refl _,trivial⟩⟩⟩⟩⟩⟩,(.cons (.refl _) (.cons (.box (.agg (.cons (.refl _) (.cons (.of_eq (congrArg (AV.own _ 0) (by have h:=(hl85 0 _ _ _ _ rfl rfl);simpa using h.symm))) .nil)))) (.cons (.refl _) (.cons (.refl _) (.cons (.refl _) (.cons (.refl _) .nil))))))⟩
              ·obtain ⟨h1_98,x_99,x_100⟩:=p101
               refine awp_seq<|awp_seq<|?_
               obtain ⟨s133_113,hb1,hf⟩:=ob hf
               refine awp_cut ([(13,(.ptr 0 0 0)),(16,(.int .i64 r_83.1)),(133,(.bool s133_113))],[.box 2 (.agg [(.int .i64 r_39.1.Id),(.own 1 0 r_83.2.Cells.length)]),.row 1 (r_83.2.Cells.map (encL 3 encGAtom))]) ?_ ?_
               ·refine w_reg ?_
                obtain ⟨r_115,er116,hb1⟩:=ob hb1
                rcases oi hb1 with ⟨c117,hb1⟩ | ⟨c117,hb1⟩
                ·refine s_q (.agg [(.int .i64 x_99),(.own 5 0 x_100.length)]) rfl (.of nle trivial) rfl<|s_q (.agg [(.int .i64 x_22),(.own 3 0 x_23.length)]) rfl (.of nle trivial) rfl<|s_do (o_call (w_laws_eqRow _ _ _ er116) rfl (.cons (.agg (.cons (.refl _) (.cons (.of_eq (congrArg (AV.lst _) (tko (enc:=(encL 3 encGAtom)) x_100))) .nil))) (.cons (.agg (.cons (.refl _) (.cons (.of_eq (congrArg (AV.lst _) (tko (enc:=(encL 3 encGAtom)) x_23))) .nil))) .nil)) rfl)<|s_q (.bool (!r_115)) rfl (.of trivial trivial) rfl<|s_mov (.bool (!r_115)) rfl<|s_lit (s:=129) (b:=true) rfl c117<|s_off rfl rfl<|s_off rfl rfl<|s_off rfl rfl<|s_q (.bool true) rfl (.of trivial trivial) rfl<|w_done<|?_;obtain rfl:=os hb1
                 exact ⟨[],[1,4],_,_,rfl,rfl,⟨.refl _,⟨.refl _,⟨.refl _,trivial⟩⟩⟩,(.refl _)⟩
                ·refine s_q (.agg [(.int .i64 x_99),(.own 5 0 x_100.length)]) rfl (.of nle trivial) rfl<|s_q (.agg [(.int .i64 x_22),(.own 3 0 x_23.length)]) rfl (.of nle trivial) rfl<|s_do (o_call (w_laws_eqRow _ _ _ er116) rfl (.cons (.agg (.cons (.refl _) (.cons (.of_eq (congrArg (AV.lst _) (tko (enc:=(encL 3 encGAtom)) x_100))) .nil))) (.cons (.agg (.cons (.refl _) (.cons (.of_eq (congrArg (AV.lst _) (tko (enc:=(encL 3 encGAtom)) x_23))) .nil))) .nil)) rfl)<|s_q (.bool (!r_115)) rfl (.of trivial trivial) rfl<|s_mov (.bool (!r_115)) rfl<|s_lit (s:=129) (b:=false) rfl (bf c117)<|s_on rfl<|s_mov (.int .i64 h1_98) rfl<|s_on rfl<|s_mov (.int .i64 w1_21) rfl<|s_on rfl<|s_q (.bool (h1_98 != w1_21)) rfl (.of rfl trivial) rfl<|?_
                 refine s_q (.bool (h1_98 != w1_21)) rfl (.of trivial trivial) rfl<|w_done<|?_;obtain rfl:=os hb1;exact ⟨[],[1,4],_,_,rfl,rfl,⟨.refl _,⟨.refl _,⟨.refl _,trivial⟩⟩⟩,(.refl _)⟩
               ·rcases oi hf with ⟨c118,hf⟩ | ⟨c118,hf⟩
                ·refine w_condt rfl c118<|sr<|s_mov (.bool false) rfl<|dk<|w_ret<|?_;obtain rfl:=os hf;exact r_flat ⟨.of trivial trivial,trivial⟩ rfl (.refl _)
                ·refine w_condf rfl (bf c118)<|w_skip<|k_seq<|sr<|s_mov (.int .i64 1) rfl<|dk<|sr<|?_
                 obtain ⟨r_119,er120,hf⟩:=ob hf
                 refine s_q (.agg [(.int .i64 r_39.1.Id),(.own 1 0 r_83.2.Cells.length)]) rfl (.of nle trivial) rfl<|s_mov (.int .i64 1) rfl<|s_do (o_call (w_laws_heldRow _ _ _ er120) rfl (.cons (.agg (.cons (.refl _) (.cons (.of_eq (congrArg (AV.lst _) (tko (enc:=(encL 3 encGAtom)) r_83.2.Cells))) .nil))) (.cons (.refl _) .nil)) rfl)<|s_mov (.int .i64 r_119) rfl<|dk<|awp_seq<|sr<|s_mov (.int .i64 r_119) rfl<|s_q (.bool (decide (r_119 < 0))) rfl (.of rfl trivial) rfl<|dk<|?_
                 rcases oi hf with ⟨c121,hf⟩ | ⟨c121,hf⟩
                 ·refine w_condt rfl c121<|sr<|s_mov (.bool false) rfl<|dk<|w_ret<|?_;obtain rfl:=os hf;exact r_flat ⟨.of trivial trivial,trivial⟩ rfl (.refl _)
                 ·refine w_condf rfl (bf c121)<|w_skip<|k_seq<|awp_seq<|sr<|s_mov (.int .i64 r_119) rfl<|s_mov (.int .i64 r_83.1) rfl<|s_q (.bool (r_119 != r_83.1)) rfl (.of rfl trivial) rfl<|dk<|?_
                  rcases oi hf with ⟨c122,hf⟩ | ⟨c122,hf⟩
                  ·refine w_condt rfl c122<|sr<|s_mov (.bool false) rfl<|dk<|w_ret<|?_;obtain rfl:=os hf;exact r_flat ⟨.of trivial trivial,trivial⟩ rfl (.refl _)
                  ·refine w_condf rfl (bf c122)<|w_skip<|k_seq<|sr<|s_mov (.bool true) rfl<|dk<|w_ret<|?_;obtain rfl:=os hf;exact r_flat ⟨.of trivial trivial,trivial⟩ rfl (.refl _)

end Go.R
