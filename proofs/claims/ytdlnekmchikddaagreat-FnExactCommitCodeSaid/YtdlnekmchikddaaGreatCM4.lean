/- Walks. -/
import Derived.Test.YtdlnekmchikddaaGreatCM3
set_option linter.all false
namespace Go.R
open Go Go.Proofs
set_option linter.unusedVariables false
set_option linter.unusedSimpArgs false
set_option maxHeartbeats 8000000
/- slices.BinarySearchFunc[[]impl.Row,impl.Row,int] -/
def c226:ACode :=
 (.seq (.reg (tm 6 (.c (.int .i64 0)) (tm 7 (.c (.bool false)) .done)))
 (.seq (.reg (tm 12 (.t 0) (tq 13 (.len (.t 12)) (tm 8 (.t 13) .done))))
 (.seq (.reg (tm 14 (.t 8) (tm 9 (.c (.int .i64 0)) (tm 10 (.t 14) .done))))
 (.seq (.block 0 (.loop (.seq (.seq (.reg (tm 15 (.t 9) (tm 16 (.t 10) (tq 17 (.bin .lss (.t 15) (.t 16)) .done))))
 (.cond (.t 17) .skip
 (.exit 0)))
 (.block 1 (.seq (.reg (tm 18 (.t 9) (tm 19 (.t 10) (tq 20 (.bin .add (.t 18) (.t 19)) (tq 21 (.convI .u64 (.t 20)) (tq 22 (.bin .shr (.t 21) (.c (.int .u64 1))) (tq 23 (.convI .i64 (.t 22)) (tm 11 (.t 23) .done))))))))
 (.seq (.reg (tm 24 (.t 2) (tm 25 (.t 0) (tm 26 (.t 11) (tq 27 (.iaddr 2 (.t 25) (.t 26)) (tq 28 (.load 2 true (.t 27)) (tm 29 (.t 1) (tq 30 (.calv (.t 24) [(.t 28),(.t 29)]) (tq 31 (.bin .lss (.t 30) (.c (.int .i64 0))) .done)))))))))
 (.cond (.t 31) (.reg (tm 32 (.t 11) (tq 33 (.bin .add (.t 32) (.c (.int .i64 1))) (tm 9 (.t 33) .done))))
 (.reg (tm 34 (.t 11) (tm 10 (.t 34) .done))))))))))
 (.cut (.seq (.reg (tm 35 (.t 9) (tm 36 (.t 9) (tm 37 (.t 8) (tq 38 (.bin .lss (.t 36) (.t 37)) (tm 39 (.t 38) (tg 40 39 true (.mov (.t 2)) (tg 41 39 true (.mov (.t 0)) (tg 42 39 true (.mov (.t 9)) (tg 43 39 true (.iaddr 2 (.t 41) (.t 42)) (tg 44 39 true (.load 2 true (.t 43)) (tg 45 39 true (.mov (.t 1)) (tg 46 39 true (.calv (.t 40) [(.t 44),(.t 45)]) (tg 47 39 true (.bin .eql (.t 46) (.c (.int .i64 0))) (tq 48 (.pick (.t 39) (.t 47) (.c (.bool false))) (tm 6 (.t 35) (tm 7 (.t 48) .done)))))))))))))))))
 .ret))))))
theorem fc226:fcomp Tryz.prog Tryz.f226 = some (c226.erase,[.mov (.t 6),.mov (.t 7)],49):=by kernel_rfl
def slices_BinarySearchFunc_impl_Row_impl_Row_int_L1 (x_1:(List GRow)) (cmp_3:(GRow → Int → Option Int)) (target_2:Int):Nat → Int → Int → Option Int
  | 0,_,_ => none
  | k + 1,i_41,j_42 =>
    if (decide (i_41 < j_42)) then
    (idx x_1 (w64 (Int.fdiv (IntKind.u64.wrap (w64 (i_41 + j_42))) (2 ^ (min (Int.toNat 1) (IntKind.bits .u64)))))).bind fun x_52 =>
    (cmp_3 x_52 target_2).bind fun r_54 =>
    if (decide (r_54 < 0)) then
    slices_BinarySearchFunc_impl_Row_impl_Row_int_L1 x_1 cmp_3 target_2 k (w64 ((w64 (Int.fdiv (IntKind.u64.wrap (w64 (i_41 + j_42))) (2 ^ (min (Int.toNat 1) (IntKind.bits .u64))))) + 1)) j_42
    else
    slices_BinarySearchFunc_impl_Row_impl_Row_int_L1 x_1 cmp_3 target_2 k i_41 (w64 (Int.fdiv (IntKind.u64.wrap (w64 (i_41 + j_42))) (2 ^ (min (Int.toNat 1) (IntKind.bits .u64)))))
    else
    some i_41

def slices_BinarySearchFunc_impl_Row_impl_Row_int (x_1:(List GRow)) (target_2:Int) (cmp_3:(GRow → Int → Option Int)):Option (Int × Bool) :=
    (slices_BinarySearchFunc_impl_Row_impl_Row_int_L1 x_1 cmp_3 target_2 FUEL 0 (x_1.length:Int)).bind fun i_49 =>
    if (decide (i_49 < (x_1.length:Int))) then
    (idx x_1 i_49).bind fun x_58 =>
    (cmp_3 x_58 target_2).bind fun r_60 =>
    some (i_49,(r_60 == 0))
    else
    some (i_49,false)
theorem w_slices_BinarySearchFunc_impl_Row_impl_Row_int (x_1:(List GRow)) (target_2:Int) (cmp_3:(GRow → Int → Option Int)) (r:(Int × Bool)) (hf:slices_BinarySearchFunc_impl_Row_impl_Row_int x_1 target_2 cmp_3 = some r) (kf_cmp_3:Nat) (cf_cmp_3:List AV) (okf_cmp_3:okFn Tryz.prog kf_cmp_3 = true) (hcf_cmp_3:∀ h p,closeWs h p cf_cmp_3 = some cf_cmp_3) (hrf_cmp_3:∀ f,rens f cf_cmp_3 = cf_cmp_3) (hpf_cmp_3:∀ a0 a1 r,cmp_3 a0 a1 = some r → CallOK Tryz.prog kf_cmp_3 .flat ([(encGRow a0),(.int .i64 a1)] ++ cf_cmp_3) (.int .i64 r)):CallOK Tryz.prog 226 .flat [(.lst 2 (x_1.map encGRow)),(.int .i64 target_2),(.fn kf_cmp_3 cf_cmp_3)] (.tup [(.int .i64 r.1),(.bool r.2)]):=by
 refine CallOK.of_awp mixed Tryz.func226 fc226 nle ?_;rw [argT_eq];unfold slices_BinarySearchFunc_impl_Row_impl_Row_int at hf;unfold c226;refine (show awp Tryz.prog false 0 _ (ofL [(0,(.lst 2 (x_1.map encGRow))),(1,(.int .i64 target_2)),(2,(.fn kf_cmp_3 cf_cmp_3))]) [] _ from ?_);refine sr<|s_mov (.int .i64 0) rfl<|s_mov (.bool false) rfl<|dk<|sr<|s_mov (.lst 2 (x_1.map encGRow)) rfl<|s_dof (o_len (enc:=encGRow) rfl) fun hl4 => s_mov (.int .i64 (x_1.length:Int)) rfl<|dk<|sr<|s_mov (.int .i64 (x_1.length:Int)) rfl<|s_mov (.int .i64 0) rfl<|s_mov (.int .i64 (x_1.length:Int)) rfl<|dk<|awp_seq<|?_
 obtain ⟨i_49,hb1,hf⟩:=ob hf
 refine awp_cut ([(0,(.lst 2 (x_1.map encGRow))),(1,(.int .i64 target_2)),(2,(.fn kf_cmp_3 cf_cmp_3)),(8,(.int .i64 (x_1.length:Int))),(9,(.int .i64 i_49))],[]) ?_ ?_
 ·refine awp_loop (X:={q:(Nat × Int × Int) // slices_BinarySearchFunc_impl_Row_impl_Row_int_L1 x_1 cmp_3 target_2 q.1 q.2.1 q.2.2 = some i_49}) (fun q => ([(0,(.lst 2 (x_1.map encGRow))),(1,(.int .i64 target_2)),(2,(.fn kf_cmp_3 cf_cmp_3)),(8,(.int .i64 (x_1.length:Int))),(9,(.int .i64 q.1.2.1)),(10,(.int .i64 q.1.2.2))],[])) (fun q => q.1.1) ⟨(FUEL,0,(x_1.length:Int)),hb1⟩ ⟨[],[],_,_,rfl,rfl,⟨.refl _,⟨.refl _,⟨.of_eq (congrArg (AV.fn _) (hrf_cmp_3 _)),⟨.refl _,⟨.refl _,⟨.refl _,trivial⟩⟩⟩⟩⟩⟩,(.refl _)⟩ ?_
  rintro ⟨⟨k,i_41,j_42⟩,hc1⟩
  have hc1:slices_BinarySearchFunc_impl_Row_impl_Row_int_L1 x_1 cmp_3 target_2 k i_41 j_42 = some i_49:=hc1
  refine (show awp Tryz.prog false 0 _ (ofL [(0,(.lst 2 (x_1.map encGRow))),(1,(.int .i64 target_2)),(2,(.fn kf_cmp_3 cf_cmp_3)),(8,(.int .i64 (x_1.length:Int))),(9,(.int .i64 i_41)),(10,(.int .i64 j_42))]) [] _ from ?_)
  rcases k with _ | k
  ·rw [slices_BinarySearchFunc_impl_Row_impl_Row_int_L1.eq_1] at hc1
   cases hc1
  ·rw [slices_BinarySearchFunc_impl_Row_impl_Row_int_L1.eq_2] at hc1;refine awp_seq<|sr<|s_mov (.int .i64 i_41) rfl<|s_mov (.int .i64 j_42) rfl<|s_q (.bool (decide (i_41 < j_42))) rfl rfl rfl<|dk<|?_
   rcases oi hc1 with ⟨c51,hc1⟩ | ⟨c51,hc1⟩
   ·refine w_condt rfl c51<|w_skip<|k_seq<|w_blk<|sr<|s_mov (.int .i64 i_41) rfl<|s_mov (.int .i64 j_42) rfl<|s_q (.int .i64 (w64 (i_41 + j_42))) rfl rfl rfl<|s_q (.int .u64 (IntKind.u64.wrap (w64 (i_41 + j_42)))) rfl trivial rfl<|?_;refine s_do (o_q (.int .u64 (Int.fdiv (IntKind.u64.wrap (w64 (i_41 + j_42))) (2 ^ (min (Int.toNat 1) (IntKind.bits .u64))))) rfl (show (0:Int) ≤ 1 by decide) rfl) ?_;refine s_q (.int .i64 (w64 (Int.fdiv (IntKind.u64.wrap (w64 (i_41 + j_42))) (2 ^ (min (Int.toNat 1) (IntKind.bits .u64)))))) rfl trivial rfl<|s_mov (.int .i64 (w64 (Int.fdiv (IntKind.u64.wrap (w64 (i_41 + j_42))) (2 ^ (min (Int.toNat 1) (IntKind.bits .u64)))))) rfl<|dk<|awp_seq<|?_
    refine w_reg ?_
    obtain ⟨x_52,ex53,hc1⟩:=ob hc1
    obtain ⟨r_54,er55,hc1⟩:=ob hc1
    refine s_mov (.fn kf_cmp_3 cf_cmp_3) rfl<|s_mov (.lst 2 (x_1.map encGRow)) rfl<|s_mov (.int .i64 (w64 (Int.fdiv (IntKind.u64.wrap (w64 (i_41 + j_42))) (2 ^ (min (Int.toNat 1) (IntKind.bits .u64)))))) rfl<|s_do (o_iaddr (enc:=encGRow) rfl rfl (idx0 ex53) (idx1 ex53))<|s_q (encGRow x_52) rfl nle rfl<|s_mov (.int .i64 target_2) rfl<|s_do (o_calvp (v:=(.int .i64 r_54)) rfl okf_cmp_3 hcf_cmp_3 (hpf_cmp_3 _ _ _ er55) rfl (.refl _) rfl)<|s_q (.bool (decide (r_54 < 0))) rfl rfl rfl<|dk<|?_
    rcases oi hc1 with ⟨c56,hc1⟩ | ⟨c56,hc1⟩
    ·refine w_condt rfl c56<|w_reg<|s_mov (.int .i64 (w64 (Int.fdiv (IntKind.u64.wrap (w64 (i_41 + j_42))) (2 ^ (min (Int.toNat 1) (IntKind.bits .u64)))))) rfl<|s_q (.int .i64 (w64 ((w64 (Int.fdiv (IntKind.u64.wrap (w64 (i_41 + j_42))) (2 ^ (min (Int.toNat 1) (IntKind.bits .u64))))) + 1))) rfl rfl rfl<|s_mov (.int .i64 (w64 ((w64 (Int.fdiv (IntKind.u64.wrap (w64 (i_41 + j_42))) (2 ^ (min (Int.toNat 1) (IntKind.bits .u64))))) + 1))) rfl<|w_done<|k_blk<|?_;exact k_loopn ⟨(k,w64 ((w64 (Int.fdiv (IntKind.u64.wrap (w64 (i_41 + j_42))) (2 ^ (min (Int.toNat 1) (IntKind.bits .u64))))) + 1),j_42),hc1⟩ (Nat.lt_succ_self _) ⟨[],[],_,_,rfl,rfl,⟨.refl _,⟨.refl _,⟨.of_eq (congrArg (AV.fn _) (hrf_cmp_3 _)),⟨.refl _,⟨.refl _,⟨.refl _,trivial⟩⟩⟩⟩⟩⟩,(.refl _)⟩
    ·refine w_condf rfl (bf c56)<|w_reg<|s_mov (.int .i64 (w64 (Int.fdiv (IntKind.u64.wrap (w64 (i_41 + j_42))) (2 ^ (min (Int.toNat 1) (IntKind.bits .u64)))))) rfl<|s_mov (.int .i64 (w64 (Int.fdiv (IntKind.u64.wrap (w64 (i_41 + j_42))) (2 ^ (min (Int.toNat 1) (IntKind.bits .u64)))))) rfl<|w_done<|k_blk<|?_;exact k_loopn ⟨(k,i_41,w64 (Int.fdiv (IntKind.u64.wrap (w64 (i_41 + j_42))) (2 ^ (min (Int.toNat 1) (IntKind.bits .u64))))),hc1⟩ (Nat.lt_succ_self _) ⟨[],[],_,_,rfl,rfl,⟨.refl _,⟨.refl _,⟨.of_eq (congrArg (AV.fn _) (hrf_cmp_3 _)),⟨.refl _,⟨.refl _,⟨.refl _,trivial⟩⟩⟩⟩⟩⟩,(.refl _)⟩
   ·refine w_condf rfl (bf c51)<|w_exit<|k_seqx<|k_loopx<|k_blkx<|?_;obtain rfl:=os hc1;exact ⟨[],[],_,_,rfl,rfl,⟨.refl _,⟨.refl _,⟨.of_eq (congrArg (AV.fn _) (hrf_cmp_3 _)),⟨.refl _,⟨.refl _,trivial⟩⟩⟩⟩⟩,(.refl _)⟩
 ·refine sr<|s_mov (.int .i64 i_49) rfl<|s_mov (.int .i64 i_49) rfl<|s_mov (.int .i64 (x_1.length:Int)) rfl<|s_q (.bool (decide (i_49 < (x_1.length:Int)))) rfl rfl rfl<|s_mov (.bool (decide (i_49 < (x_1.length:Int)))) rfl<|?_
  rcases oi hf with ⟨c57,hf⟩ | ⟨c57,hf⟩
  ·refine s_lit (s:=39) (b:=true) rfl c57<|s_on rfl<|s_mov (.fn kf_cmp_3 cf_cmp_3) rfl<|s_on rfl<|s_mov (.lst 2 (x_1.map encGRow)) rfl<|s_on rfl<|s_mov (.int .i64 i_49) rfl<|s_on rfl<|?_
   obtain ⟨x_58,ex59,hf⟩:=ob hf
   refine s_do (o_iaddr (enc:=encGRow) rfl rfl (idx0 ex59) (idx1 ex59))<|s_on rfl<|s_q (encGRow x_58) rfl nle rfl<|s_on rfl<|s_mov (.int .i64 target_2) rfl<|s_on rfl<|?_
   obtain ⟨r_60,er61,hf⟩:=ob hf
   refine s_do (o_calvp (v:=(.int .i64 r_60)) rfl okf_cmp_3 hcf_cmp_3 (hpf_cmp_3 _ _ _ er61) rfl (.refl _) rfl)<|s_on rfl<|s_q (.bool (r_60 == 0)) rfl rfl rfl<|s_q (.bool (r_60 == 0)) rfl trivial rfl<|s_mov (.int .i64 i_49) rfl<|s_mov (.bool (r_60 == 0)) rfl<|dk<|w_ret<|?_;obtain rfl:=os hf;exact r_flat ⟨trivial,⟨trivial,trivial⟩⟩ rfl (.refl _)
  ·refine s_lit (s:=39) (b:=false) rfl (bf c57)<|s_off rfl rfl<|s_off rfl rfl<|s_off rfl rfl<|s_off rfl rfl<|s_off rfl rfl<|s_off rfl rfl<|s_off rfl rfl<|s_off rfl rfl<|s_q (.bool false) rfl trivial rfl<|s_mov (.int .i64 i_49) rfl<|s_mov (.bool false) rfl<|dk<|w_ret<|?_;obtain rfl:=os hf;exact r_flat ⟨trivial,⟨trivial,trivial⟩⟩ rfl (.refl _)

/- impl.rowAt$1 -/
def c227:ACode :=
 (.seq (.reg (tq 2 (.box 2 (.t 0)) (tm 4 (.c (.int .i64 0)) .done)))
 (.seq (.reg (tq 5 (.faddr 0 (.t 2)) (tq 6 (.load 1 false (.t 5)) (tm 7 (.t 1) (tq 8 (.call 202 [(.t 6),(.t 7)]) (tm 4 (.t 8) .done))))))
 .ret))
theorem fc227:fcomp Tryz.prog Tryz.f227 = some (c227.erase,[.mov (.t 4)],9):=by kernel_rfl
def impl_rowAt_1 (r_1:GRow) (id_2:Int):Option Int :=
    (cmp_Compare_int r_1.Id id_2).bind fun r_3 =>
    some r_3
theorem w_impl_rowAt_1 (r_1:GRow) (id_2:Int) (r:Int) (hf:impl_rowAt_1 r_1 id_2 = some r):CallOK Tryz.prog 227 .flat [(encGRow r_1),(.int .i64 id_2)] (.int .i64 r):=by
  refine CallOK.of_awp mixed Tryz.func227 fc227 nle ?_
  rw [argT_eq]
  unfold impl_rowAt_1 at hf
  unfold c227
  refine (show awp Tryz.prog false 0 _ (ofL [(0,(encGRow r_1)),(1,(.int .i64 id_2))]) [] _ from ?_)
  refine awp_seq ?_
  refine w_reg ?_
  refine s_do (o_box (j:=0) (c:=(.agg [(.int .i64 r_1.Id),(.lst 1 (r_1.Cells.map (encL 3 encGAtom)))])) rfl trivial rfl rfl) ?_
  refine s_do (o_mov (.int .i64 0) rfl) ?_
  refine w_done ?_
  refine k_seq ?_
  refine awp_seq ?_
  refine w_reg ?_
  obtain ⟨r_3,er4,hf⟩:=ob hf
  refine s_do (o_q (.ptr 0 0 0) rfl trivial rfl) ?_
  refine s_do (o_q (.int .i64 r_1.Id) rfl nle rfl) ?_
  refine s_do (o_mov (.int .i64 id_2) rfl) ?_
  refine s_do (o_call (w_cmp_Compare_int _ _ _ er4) rfl (.refl _) rfl) ?_
  refine s_do (o_mov (.int .i64 r_3) rfl) ?_
  refine w_done ?_
  refine k_seq ?_
  refine w_ret ?_
  obtain rfl:=os hf
  exact r_flat ⟨trivial,trivial⟩ rfl (.refl _)

/- impl.rowAt -/
def c209:ACode :=
 (.seq (.reg (tm 4 (.c (.int .i64 0)) (tm 5 (.c (.bool false)) .done)))
 (.seq (.reg (tm 6 (.t 0) (tm 7 (.t 1) (tq 8 (.call 226 [(.t 6),(.t 7),(.c (.fn 227 []))]) (tq 9 (.extract 0 (.t 8)) (tq 10 (.extract 1 (.t 8)) (tm 4 (.t 9) (tm 5 (.t 10) .done))))))))
 .ret))
theorem fc209:fcomp Tryz.prog Tryz.f209 = some (c209.erase,[.mov (.t 4),.mov (.t 5)],11):=by kernel_rfl
def impl_rowAt (rows_1:(List GRow)) (id_2:Int):Option (Int × Bool) :=
    (slices_BinarySearchFunc_impl_Row_impl_Row_int rows_1 id_2 impl_rowAt_1).bind fun r_3 =>
    some (r_3.1,r_3.2)
theorem w_impl_rowAt (rows_1:(List GRow)) (id_2:Int) (r:(Int × Bool)) (hf:impl_rowAt rows_1 id_2 = some r):CallOK Tryz.prog 209 .flat [(.lst 2 (rows_1.map encGRow)),(.int .i64 id_2)] (.tup [(.int .i64 r.1),(.bool r.2)]):=by
  refine CallOK.of_awp mixed Tryz.func209 fc209 nle ?_
  rw [argT_eq]
  unfold impl_rowAt at hf
  unfold c209
  refine (show awp Tryz.prog false 0 _ (ofL [(0,(.lst 2 (rows_1.map encGRow))),(1,(.int .i64 id_2))]) [] _ from ?_)
  refine awp_seq ?_
  refine w_reg ?_
  refine s_do (o_mov (.int .i64 0) rfl) ?_
  refine s_do (o_mov (.bool false) rfl) ?_
  refine w_done ?_
  refine k_seq ?_
  refine awp_seq ?_
  refine w_reg ?_
  obtain ⟨r_3,er4,hf⟩:=ob hf
  refine s_do (o_mov (.lst 2 (rows_1.map encGRow)) rfl) ?_
  refine s_do (o_mov (.int .i64 id_2) rfl) ?_
  refine s_do (o_call (w_slices_BinarySearchFunc_impl_Row_impl_Row_int _ _ _ _ er4 227 [] (by kernel_rfl) (fun _ _ => rfl) (fun _ => rfl) (fun a0 a1 r h => w_impl_rowAt_1 a0 a1 r h)) rfl (.refl _) rfl) ?_
  refine s_do (o_q (.int .i64 r_3.1) rfl nle rfl) ?_
  refine s_do (o_q (.bool r_3.2) rfl nle rfl) ?_
  refine s_do (o_mov (.int .i64 r_3.1) rfl) ?_
  refine s_do (o_mov (.bool r_3.2) rfl) ?_
  refine w_done ?_
  refine k_seq ?_
  refine w_ret ?_
  obtain rfl:=os hf
  exact r_flat ⟨trivial,⟨trivial,trivial⟩⟩ rfl (.refl _)

/- (impl.Store).hasRow -/
def c177:ACode :=
 (.seq (.reg (tq 3 (.box 2 (.t 0)) (tm 6 (.c (.bool false)) .done)))
 (.seq (.reg (tq 10 (.faddr 0 (.t 3)) (tq 11 (.load 1 false (.t 10)) (tm 12 (.t 1) (tq 13 (.iaddr 1 (.t 11) (.t 12)) (tq 14 (.load 1 false (.t 13)) (tm 15 (.t 2) (tq 16 (.call 209 [(.t 14),(.t 15)]) (tm 9 (.t 16) (tq 17 (.extract 0 (.t 9)) (tq 18 (.extract 1 (.t 9)) (tm 7 (.t 17) (tm 8 (.t 18) .done)))))))))))))
 (.seq (.reg (tm 19 (.t 8) (tm 6 (.t 19) .done)))
 .ret)))
theorem fc177:fcomp Tryz.prog Tryz.f177 = some (c177.erase,[.mov (.t 6)],20):=by kernel_rfl
def impl_Store_hasRow (x_1:GStore) (table_2:Int) (id_3:Int):Option Bool :=
    (idx x_1.Tables table_2).bind fun x_4 =>
    (impl_rowAt x_4 id_3).bind fun r_6 =>
    some r_6.2
theorem w_impl_Store_hasRow (x_1:GStore) (table_2:Int) (id_3:Int) (r:Bool) (hf:impl_Store_hasRow x_1 table_2 id_3 = some r):CallOK Tryz.prog 177 .flat [(encGStore x_1),(.int .i64 table_2),(.int .i64 id_3)] (.bool r):=by
 refine CallOK.of_awp mixed Tryz.func177 fc177 nle ?_;rw [argT_eq];unfold impl_Store_hasRow at hf;unfold c177;refine (show awp Tryz.prog false 0 _ (ofL [(0,(encGStore x_1)),(1,(.int .i64 table_2)),(2,(.int .i64 id_3))]) [] _ from ?_);refine sr<|s_do (o_box (j:=0) (c:=(.agg [(.lst 1 (x_1.Tables.map (encL 2 encGRow))),(.int .i64 x_1.Next)])) rfl trivial rfl rfl)<|s_mov (.bool false) rfl<|dk<|sr<|?_
 obtain ⟨x_4,ex5,hf⟩:=ob hf
 obtain ⟨r_6,er7,hf⟩:=ob hf
 refine s_q (.ptr 0 0 0) rfl trivial rfl<|s_q (.lst 1 (x_1.Tables.map (encL 2 encGRow))) rfl nle rfl<|s_mov (.int .i64 table_2) rfl<|s_do (o_iaddr (enc:=(encL 2 encGRow)) rfl rfl (idx0 ex5) (idx1 ex5))<|s_q (.lst 2 (x_4.map encGRow)) rfl ⟨rfl,rfl⟩ rfl<|s_mov (.int .i64 id_3) rfl<|s_do (o_call (w_impl_rowAt _ _ _ er7) rfl (.refl _) rfl)<|s_mov (.tup [(.int .i64 r_6.1),(.bool r_6.2)]) rfl<|s_q (.int .i64 r_6.1) rfl nle rfl<|s_q (.bool r_6.2) rfl nle rfl<|s_mov (.int .i64 r_6.1) rfl<|s_mov (.bool r_6.2) rfl<|dk<|sr<|s_mov (.bool r_6.2) rfl<|s_mov (.bool r_6.2) rfl<|dk<|w_ret<|?_;obtain rfl:=os hf;exact r_flat ⟨trivial,trivial⟩ rfl (.refl _)

/- (impl.Store).isRefUnmet$1 -/
def c176:ACode :=
 (.seq (.reg (tq 3 (.box 3 (.t 0)) (tm 4 (.c (.bool false)) .done)))
 (.seq (.reg (tq 5 (.load 2 true (.t 1)) (tq 6 (.load 1 false (.t 2)) (tq 7 (.faddr 1 (.t 3)) (tq 8 (.load 1 false (.t 7)) (tq 9 (.call 177 [(.t 5),(.t 6),(.t 8)]) (tq 10 (.not (.t 9)) (tm 4 (.t 10) .done))))))))
 .ret))
theorem fc176:fcomp Tryz.prog Tryz.f176 = some (c176.erase,[.mov (.t 4)],11):=by kernel_rfl
def impl_Store_isRefUnmet_1 (a_1:GAtom) (cap_2:GStore) (cap_3:Int):Option Bool :=
    (impl_Store_hasRow cap_2 cap_3 a_1.N).bind fun r_4 =>
    some (!r_4)
theorem w_impl_Store_isRefUnmet_1 (a_1:GAtom) (cap_2:GStore) (cap_3:Int) (r:Bool) (hf:impl_Store_isRefUnmet_1 a_1 cap_2 cap_3 = some r):CallOK Tryz.prog 176 .flat [(encGAtom a_1),(.iptr (encGStore cap_2) 0),(.iptr (.int .i64 cap_3) 0)] (.bool r):=by
  refine CallOK.of_awp mixed Tryz.func176 fc176 nle ?_
  rw [argT_eq]
  unfold impl_Store_isRefUnmet_1 at hf
  unfold c176
  refine (show awp Tryz.prog false 0 _ (ofL [(0,(encGAtom a_1)),(1,(.iptr (encGStore cap_2) 0)),(2,(.iptr (.int .i64 cap_3) 0))]) [] _ from ?_)
  refine awp_seq ?_
  refine w_reg ?_
  refine s_do (o_box (j:=0) (c:=(.agg [(.int .i64 a_1.Kind),(.int .i64 a_1.N),(.str a_1.T)])) rfl trivial rfl rfl) ?_
  refine s_do (o_mov (.bool false) rfl) ?_
  refine w_done ?_
  refine k_seq ?_
  refine awp_seq ?_
  refine w_reg ?_
  obtain ⟨r_4,er5,hf⟩:=ob hf
  refine s_do (o_q (encGStore cap_2) rfl nle rfl) ?_
  refine s_do (o_q (.int .i64 cap_3) rfl ⟨rfl,rfl⟩ rfl) ?_
  refine s_do (o_q (.ptr 0 0 1) rfl trivial rfl) ?_
  refine s_do (o_q (.int .i64 a_1.N) rfl nle rfl) ?_
  refine s_do (o_call (w_impl_Store_hasRow _ _ _ _ er5) rfl (.refl _) rfl) ?_
  refine s_do (o_q (.bool (!r_4)) rfl trivial rfl) ?_
  refine s_do (o_mov (.bool (!r_4)) rfl) ?_
  refine w_done ?_
  refine k_seq ?_
  refine w_ret ?_
  obtain rfl:=os hf
  exact r_flat ⟨trivial,trivial⟩ rfl (.refl _)

/- (impl.Store).isRefUnmet -/
def c128:ACode :=
 (.seq (.reg (tq 3 (.box 2 (.t 0)) (tq 4 (.box 1 (.t 1)) (tm 6 (.c (.bool false)) .done))))
 (.seq (.reg (tm 7 (.t 2) (tq 8 (.mkfn 176 [(.t 3),(.t 4)]) (tq 9 (.call 175 [(.t 7),(.t 8)]) (tm 6 (.t 9) .done)))))
 .ret))
theorem fc128:fcomp Tryz.prog Tryz.f128 = some (c128.erase,[.mov (.t 6)],10):=by kernel_rfl
def impl_Store_isRefUnmet (x_1:GStore) (ref_2:Int) (d_3:(List GAtom)):Option Bool :=
    (slices_ContainsFunc_impl_Atom_impl_Atom d_3 (fun a0 => impl_Store_isRefUnmet_1 a0 x_1 ref_2)).bind fun r_4 =>
    some r_4
theorem w_impl_Store_isRefUnmet (x_1:GStore) (ref_2:Int) (d_3:(List GAtom)) (r:Bool) (hf:impl_Store_isRefUnmet x_1 ref_2 d_3 = some r):CallOK Tryz.prog 128 .flat [(encGStore x_1),(.int .i64 ref_2),(.lst 3 (d_3.map encGAtom))] (.bool r):=by
  refine CallOK.of_awp mixed Tryz.func128 fc128 nle ?_
  rw [argT_eq]
  unfold impl_Store_isRefUnmet at hf
  unfold c128
  refine (show awp Tryz.prog false 0 _ (ofL [(0,(encGStore x_1)),(1,(.int .i64 ref_2)),(2,(.lst 3 (d_3.map encGAtom)))]) [] _ from ?_)
  refine awp_seq ?_
  refine w_reg ?_
  refine s_do (o_box (j:=0) (c:=(.agg [(.lst 1 (x_1.Tables.map (encL 2 encGRow))),(.int .i64 x_1.Next)])) rfl trivial rfl rfl) ?_
  refine s_do (o_box (j:=1) (c:=(.int .i64 ref_2)) rfl trivial rfl rfl) ?_
  refine s_do (o_mov (.bool false) rfl) ?_
  refine w_done ?_
  refine k_seq ?_
  refine awp_seq ?_
  refine w_reg ?_
  obtain ⟨r_4,er5,hf⟩:=ob hf
  refine s_do (o_mov (.lst 3 (d_3.map encGAtom)) rfl) ?_
  refine s_do (o_q (.fn 176 [(.ptr 0 0 0),(.ptr 1 0 0)]) rfl trivial rfl) ?_
  refine s_do (o_call (w_slices_ContainsFunc_impl_Atom_impl_Atom _ _ _ er5 176 [(.iptr (encGStore x_1) 0),(.iptr (.int .i64 ref_2) 0)] (by kernel_rfl) (fun _ _ => rfl) (fun _ => rfl) (fun a0 r h => w_impl_Store_isRefUnmet_1 a0 x_1 ref_2 r h)) rfl (.refl _) rfl) ?_
  refine s_do (o_mov (.bool r_4) rfl) ?_
  refine w_done ?_
  refine k_seq ?_
  refine w_ret ?_
  obtain rfl:=os hf
  exact r_flat ⟨trivial,trivial⟩ rfl (.refl _)

/- impl.commitCode$1 -/
def c127_h0:ACode :=
 (.seq (.reg (tq 6 (.box 8 (.t 0)) .done))
 (.seq (.reg (tq 9 (.load 1 false (.t 3)) (tm 10 (.t 9) (tg 11 10 false (.faddr 7 (.t 6)) (tg 12 10 false (.load 1 false (.t 11)) (tq 13 (.pick (.t 10) (.c (.bool true)) (.t 12)) (tm 14 (.t 13) (tg 15 14 true (.load 2 true (.t 4)) (tg 16 14 true (.mov (.t 1)) (tg 17 14 true (.mov (.t 2)) (tg 18 14 true (.call 128 [(.t 15),(.t 16),(.t 17)]) (tq 19 (.pick (.t 14) (.t 18) (.c (.bool false))) .done))))))))))))
 (.cut (.cond (.t 19) (.reg (.q ⟨none,none,.store 1 (.t 5) (.c (.int .i64 13))⟩
 .done))
 .skip))))
theorem fc127_h0:fcomp Tryz.prog Tryz.f127 = some (c127_h0.erase,[],20):=by kernel_rfl
def impl_commitCode_1_h0 (c_1:GColumn) (ref_2:Int) (d_3:(List GAtom)) (c_4:Bool) (c_5:GStore) (c_6:Int):Option (Bool × GStore × Int) :=
    ((if c_4 then
    (impl_Store_isRefUnmet c_5 ref_2 d_3).bind fun r_16 =>
    some r_16
    else
    if c_1.Strong then
    (impl_Store_isRefUnmet c_5 ref_2 d_3).bind fun r_19 =>
    some r_19
    else
    some false:Option Bool)).bind fun s19_13 =>
    if s19_13 then
    some (c_4,c_5,13)
    else
    some (c_4,c_5,c_6)
theorem w_impl_commitCode_1_h0 (c_1:GColumn) (ref_2:Int) (d_3:(List GAtom)) (c_4:Bool) (c_5:GStore) (c_6:Int) (r:(Bool × GStore × Int)) (hf:impl_commitCode_1_h0 c_1 ref_2 d_3 c_4 c_5 c_6 = some r):CallHeap Tryz.prog false 127 [(encGColumn c_1),(.int .i64 ref_2),(.lst 3 (d_3.map encGAtom)),(.ptr 0 0 0),(.ptr 1 0 0),(.ptr 2 0 0)] [.box 1 (.bool c_4),.box 2 (.agg [(.lst 1 (c_5.Tables.map (encL 2 encGRow))),(.int .i64 c_5.Next)]),.box 1 (.int .i64 c_6)] (.tup []) [.box 1 (.bool r.1),.box 2 (.agg [(.lst 1 (r.2.1.Tables.map (encL 2 encGRow))),(.int .i64 r.2.1.Next)]),.box 1 (.int .i64 r.2.2)]:=by
 refine CallHeap.of_awp mixed Tryz.func127 fc127_h0 nle ?_;rw [argT_eq];unfold impl_commitCode_1_h0 at hf;unfold c127_h0;refine (show awp Tryz.prog false 3 _ (ofL [(0,(encGColumn c_1)),(1,(.int .i64 ref_2)),(2,(.lst 3 (d_3.map encGAtom))),(3,(.ptr 0 0 0)),(4,(.ptr 1 0 0)),(5,(.ptr 2 0 0))]) [.box 1 (.bool c_4),.box 2 (.agg [(.lst 1 (c_5.Tables.map (encL 2 encGRow))),(.int .i64 c_5.Next)]),.box 1 (.int .i64 c_6)] _ from ?_);refine sr<|s_do (o_box (j:=3) (c:=(.agg [(.str c_1.Name),(.int .i64 c_1.Kind),(.int .i64 c_1.Min),(.int .i64 c_1.Max),(.int .i64 c_1.Low),(.int .i64 c_1.High),(.str c_1.Ref),(.bool c_1.Strong)])) rfl trivial rfl rfl)<|dk<|awp_seq<|?_
 obtain ⟨s19_13,hb1,hf⟩:=ob hf
 refine awp_cut ([(5,(.ptr 2 0 0)),(19,(.bool s19_13))],[.box 1 (.bool c_4),.box 2 (.agg [(.lst 1 (c_5.Tables.map (encL 2 encGRow))),(.int .i64 c_5.Next)]),.box 1 (.int .i64 c_6)]) ?_ ?_
 ·refine w_reg ?_
  rcases oi hb1 with ⟨c15,hb1⟩ | ⟨c15,hb1⟩
  ·obtain ⟨r_16,er17,hb1⟩:=ob hb1
   refine s_q (.bool c_4) rfl ⟨rfl,rfl⟩ rfl<|s_mov (.bool c_4) rfl<|s_lit (s:=10) (b:=true) rfl c15<|s_off rfl rfl<|s_off rfl rfl<|s_q (.bool true) rfl trivial rfl<|s_mov (.bool true) rfl<|s_on rfl<|s_q (.agg [(.lst 1 (c_5.Tables.map (encL 2 encGRow))),(.int .i64 c_5.Next)]) rfl nle rfl<|s_on rfl<|s_mov (.int .i64 ref_2) rfl<|s_on rfl<|s_mov (.lst 3 (d_3.map encGAtom)) rfl<|s_on rfl<|s_do (o_call (w_impl_Store_isRefUnmet _ _ _ _ er17) rfl (.refl _) rfl)<|s_q (.bool r_16) rfl trivial rfl<|w_done<|?_;obtain rfl:=os hb1;exact ⟨[],[0,1,2],_,_,rfl,rfl,⟨.refl _,⟨.refl _,trivial⟩⟩,(.refl _)⟩
  ·rcases oi hb1 with ⟨c18,hb1⟩ | ⟨c18,hb1⟩
   ·obtain ⟨r_19,er20,hb1⟩:=ob hb1
    refine s_q (.bool c_4) rfl ⟨rfl,rfl⟩ rfl<|s_mov (.bool c_4) rfl<|s_lit (s:=10) (b:=false) rfl (bf c15)<|s_on rfl<|s_q (.ptr 3 0 7) rfl trivial rfl<|s_on rfl<|s_q (.bool c_1.Strong) rfl nle rfl<|s_q (.bool c_1.Strong) rfl trivial rfl<|s_mov (.bool c_1.Strong) rfl<|s_lit (s:=14) (b:=true) rfl c18<|s_on rfl<|s_q (.agg [(.lst 1 (c_5.Tables.map (encL 2 encGRow))),(.int .i64 c_5.Next)]) rfl nle rfl<|s_on rfl<|s_mov (.int .i64 ref_2) rfl<|s_on rfl<|s_mov (.lst 3 (d_3.map encGAtom)) rfl<|s_on rfl<|s_do (o_call (w_impl_Store_isRefUnmet _ _ _ _ er20) rfl (.refl _) rfl)<|s_q (.bool r_19) rfl trivial rfl<|w_done<|?_;obtain rfl:=os hb1;exact ⟨[],[0,1,2],_,_,rfl,rfl,⟨.refl _,⟨.refl _,trivial⟩⟩,(.refl _)⟩
   ·refine s_q (.bool c_4) rfl ⟨rfl,rfl⟩ rfl<|s_mov (.bool c_4) rfl<|s_lit (s:=10) (b:=false) rfl (bf c15)<|s_on rfl<|s_q (.ptr 3 0 7) rfl trivial rfl<|s_on rfl<|s_q (.bool c_1.Strong) rfl nle rfl<|s_q (.bool c_1.Strong) rfl trivial rfl<|s_mov (.bool c_1.Strong) rfl<|s_lit (s:=14) (b:=false) rfl (bf c18)<|s_off rfl rfl<|s_off rfl rfl<|s_off rfl rfl<|s_off rfl rfl<|s_q (.bool false) rfl trivial rfl<|w_done<|?_;obtain rfl:=os hb1;exact ⟨[],[0,1,2],_,_,rfl,rfl,⟨.refl _,⟨.refl _,trivial⟩⟩,(.refl _)⟩
 ·rcases oi hf with ⟨c21,hf⟩ | ⟨c21,hf⟩
  ·refine w_condt rfl c21<|w_reg<|s_do0 (o_storebox (v:=(.int .i64 13)) (y':=(.int .i64 13)) rfl rfl rfl trivial ⟨rfl,rfl,rfl⟩ ⟨⟨rfl,trivial⟩,trivial⟩ rfl)<|w_done<|?_;obtain rfl:=os hf;exact r_heap [] [0,1,2] rfl trivial rfl (.refl _) (.refl _)
  ·refine w_condf rfl (bf c21)<|w_skip<|?_;obtain rfl:=os hf;exact r_heap [] [0,1,2] rfl trivial rfl (.refl _) (.refl _)

/- impl.eachSet -/
def c126_h0:ACode :=
 (.seq (.reg (tq 3 (.box 1 (.t 0)) (tq 4 (.box 2 (.t 1)) .done)))
 (.seq (.reg (tq 12 (.faddr 0 (.t 3)) (tq 13 (.load 1 false (.t 12)) (tq 14 (.len (.t 13)) (tm 15 (.c (.int .i64 0)) .done)))))
 (.block 0 (.loop (.seq (.reg (tq 16 (.bin .lss (.t 15) (.t 14)) .done))
 (.seq (.cond (.t 16) .skip
 (.exit 0))
 (.seq (.block 1 (.seq (.reg (tm 17 (.t 15) (tq 18 (.iaddr 4 (.t 13) (.t 15)) (tq 19 (.load 4 true (.t 18)) (tq 7 (.box 4 (.c (.agg [(.str []),.nil,.nil,(.bool false)]))) (tm 6 (.t 17) (.q ⟨none,none,.store 4 (.t 7) (.t 19)⟩
 .done)))))))
 (.seq (.reg (tq 20 (.faddr 1 (.t 7)) (tq 21 (.load 1 false (.t 20)) (tq 22 (.len (.t 21)) (tm 23 (.c (.int .i64 0)) .done)))))
 (.block 2 (.loop (.seq (.reg (tq 24 (.bin .lss (.t 23) (.t 22)) .done))
 (.seq (.cond (.t 24) .skip
 (.exit 2))
 (.seq (.block 3 (.seq (.reg (tm 25 (.t 23) (tq 26 (.iaddr 8 (.t 21) (.t 23)) (tq 27 (.load 8 true (.t 26)) (tq 9 (.box 8 (.c (.agg [(.str []),(.int .i64 0),(.int .i64 0),(.int .i64 0),(.int .i64 0),(.int .i64 0),(.str []),(.bool false)]))) (tm 8 (.t 25) (.q ⟨none,none,.store 8 (.t 9) (.t 27)⟩
 .done)))))))
 (.seq (.seq (.reg (tq 28 (.faddr 1 (.t 9)) (tq 29 (.load 1 false (.t 28)) (tq 30 (.bin .neq (.t 29) (.c (.int .i64 4))) .done))))
 (.cond (.t 30) (.exit 3)
 .skip))
 (.seq (.reg (tq 31 (.faddr 0 (.t 4)) (tq 32 (.load 1 false (.t 31)) (tm 33 (.t 6) (tq 34 (.iaddr 1 (.t 32) (.t 33)) (tq 35 (.load 1 false (.t 34)) (tq 36 (.len (.t 35)) (tm 37 (.c (.int .i64 0)) .done))))))))
 (.block 4 (.loop (.seq (.reg (tq 38 (.bin .lss (.t 37) (.t 36)) .done))
 (.seq (.cond (.t 38) .skip
 (.exit 4))
 (.seq (.block 5 (.seq (.reg (tq 39 (.iaddr 2 (.t 35) (.t 37)) (tq 40 (.load 2 true (.t 39)) (tq 11 (.box 2 (.c (.agg [(.int .i64 0),.nil]))) (.q ⟨none,none,.store 2 (.t 11) (.t 40)⟩
 .done)))))
 (.reg (tm 41 (.t 2) (tq 42 (.load 8 true (.t 9)) (tq 43 (.load 1 true (.t 3)) (tq 44 (.faddr 6 (.t 9)) (tq 45 (.load 1 false (.t 44)) (tq 47 (.faddr 1 (.t 11)) (tq 48 (.load 1 false (.t 47)) (tm 49 (.t 8) (tq 50 (.iaddr 1 (.t 48) (.t 49)) (tq 51 (.load 1 false (.t 50)) (.l ⟨(some 46),none,.call 90 [(.t 43),(.t 45)]⟩ [⟨(some 51),none,.load 1 false (.t 50)⟩,⟨(some 50),none,.iaddr 1 (.t 48) (.t 49)⟩,⟨(some 48),none,.load 1 false (.t 47)⟩,⟨(some 47),none,.faddr 1 (.t 11)⟩,⟨(some 42),none,.load 8 true (.t 9)⟩]
 (.l ⟨(some 52),none,.calv (.t 41) [(.t 42),(.t 46),(.t 51)]⟩ []
 .done .non) .non))))))))))))))
 (.reg (tq 53 (.bin .add (.t 37) (.c (.int .i64 1))) (tm 37 (.t 53) .done))))))))))))
 (.cut (.reg (tq 54 (.bin .add (.t 23) (.c (.int .i64 1))) (tm 23 (.t 54) .done))))))))))))
 (.cut (.reg (tq 55 (.bin .add (.t 15) (.c (.int .i64 1))) (tm 15 (.t 55) .done)))))))))))
theorem fc126_h0:fcomp Tryz.prog Tryz.f126 = some (c126_h0.erase,[],56):=by kernel_rfl
def impl_eachSet_h0_L3 (s23_968:Nat) (s_1:GSchema) (x_1046:GColumn):List GRow → Bool → (List (List GRow)) → Int → Int → Option (Bool × (List (List GRow)) × Int × Int)
  | [],x_1075,x_1076,x_1077,x_1078 =>
    some (x_1075,x_1076,x_1077,x_1078)
  | x_1099 :: xs,x_1075,x_1076,x_1077,x_1078 =>
    (idx x_1099.Cells (s23_968:Int)).bind fun x_1100 =>
    (impl_Schema_tableAt s_1 x_1046.Ref).bind fun r_1102 =>
    (impl_commitCode_1_h0 x_1046 r_1102 x_1100 x_1075 (⟨x_1076,x_1077⟩:GStore) x_1078).bind fun r_1104 =>
    impl_eachSet_h0_L3 s23_968 s_1 x_1046 xs  r_1104.1 r_1104.2.1.Tables r_1104.2.1.Next r_1104.2.2

def impl_eachSet_h0_L2 (x_2:GStore) (s15_554:Nat) (s_1:GSchema):List GColumn → Nat → Bool → (List (List GRow)) → Int → Int → Option (Bool × (List (List GRow)) × Int × Int)
  | [],s23_968,x_969,x_970,x_971,x_972 =>
    some (x_969,x_970,x_971,x_972)
  | x_1046 :: xs,s23_968,x_969,x_970,x_971,x_972 =>
    if (x_1046.Kind != 4) then
    impl_eachSet_h0_L2 x_2 s15_554 s_1 xs (s23_968 + 1) x_969 x_970 x_971 x_972
    else
    (idx x_2.Tables (s15_554:Int)).bind fun x_1048 =>
    (impl_eachSet_h0_L3 s23_968 s_1 x_1046 x_1048 x_969 x_970 x_971 x_972).bind fun p1092 =>
    (match p1092 with
    | (x_1088,x_1089,x_1090,x_1091) =>
    impl_eachSet_h0_L2 x_2 s15_554 s_1 xs (s23_968 + 1) x_1088 x_1089 x_1090 x_1091)

def impl_eachSet_h0_L1 (x_2:GStore) (s_1:GSchema):List GTable → Nat → Bool → (List (List GRow)) → Int → Int → Option (Bool × GStore × Int)
  | [],s15_554,x_555,x_556,x_557,x_558 =>
    some (x_555,(⟨x_556,x_557⟩:GStore),x_558)
  | x_837 :: xs,s15_554,x_555,x_556,x_557,x_558 =>
    (impl_eachSet_h0_L2 x_2 s15_554 s_1 x_837.Columns 0 x_555 x_556 x_557 x_558).bind fun p1039 =>
    (match p1039 with
    | (x_1035,x_1036,x_1037,x_1038) =>
    impl_eachSet_h0_L1 x_2 s_1 xs (s15_554 + 1) x_1035 x_1036 x_1037 x_1038)

def impl_eachSet_h0 (s_1:GSchema) (x_2:GStore) (c_3:Bool) (c_4:GStore) (c_5:Int):Option (Bool × GStore × Int) :=
    impl_eachSet_h0_L1 x_2 s_1 s_1.Tables 0 c_3 c_4.Tables c_4.Next c_5
theorem w_impl_eachSet_h0 (s_1:GSchema) (x_2:GStore) (c_3:Bool) (c_4:GStore) (c_5:Int) (r:(Bool × GStore × Int)) (hf:impl_eachSet_h0 s_1 x_2 c_3 c_4 c_5 = some r):CallHeap Tryz.prog false 126 [(encGSchema s_1),(encGStore x_2),(.fn 127 [(.ptr 0 0 0),(.ptr 1 0 0),(.ptr 2 0 0)])] [.box 1 (.bool c_3),.box 2 (.agg [(.lst 1 (c_4.Tables.map (encL 2 encGRow))),(.int .i64 c_4.Next)]),.box 1 (.int .i64 c_5)] (.tup []) [.box 1 (.bool r.1),.box 2 (.agg [(.lst 1 (r.2.1.Tables.map (encL 2 encGRow))),(.int .i64 r.2.1.Next)]),.box 1 (.int .i64 r.2.2)]:=by
 refine CallHeap.of_awp mixed Tryz.func126 fc126_h0 nle ?_;rw [argT_eq];unfold impl_eachSet_h0 at hf;unfold c126_h0;refine (show awp Tryz.prog false 3 _ (ofL [(0,(encGSchema s_1)),(1,(encGStore x_2)),(2,(.fn 127 [(.ptr 0 0 0),(.ptr 1 0 0),(.ptr 2 0 0)]))]) [.box 1 (.bool c_3),.box 2 (.agg [(.lst 1 (c_4.Tables.map (encL 2 encGRow))),(.int .i64 c_4.Next)]),.box 1 (.int .i64 c_5)] _ from ?_);refine sr<|s_do (o_box (j:=3) (c:=(.agg [(.lst 4 (s_1.Tables.map encGTable))])) rfl trivial rfl rfl)<|s_do (o_box (j:=4) (c:=(.agg [(.lst 1 (x_2.Tables.map (encL 2 encGRow))),(.int .i64 x_2.Next)])) rfl trivial rfl rfl)<|dk<|sr<|s_q (.ptr 3 0 0) rfl trivial rfl<|s_q (.lst 4 (s_1.Tables.map encGTable)) rfl nle rfl<|?_
 refine s_dof (o_len (enc:=encGTable) rfl) fun hl6 => s_mov (.int .i64 0) rfl<|dk<|?_;refine awp_loop (X:={q:(Nat × Bool × (List (List GRow)) × Int × Int) // impl_eachSet_h0_L1 x_2 s_1 (s_1.Tables.drop q.1) q.1 q.2.1 q.2.2.1 q.2.2.2.1 q.2.2.2.2 = some r}) (fun q => ([(2,(.fn 127 [(.ptr 0 0 0),(.ptr 1 0 0),(.ptr 2 0 0)])),(3,(.ptr 3 0 0)),(4,(.ptr 4 0 0)),(13,(.lst 4 (s_1.Tables.map encGTable))),(14,(.int .i64 (s_1.Tables.length:Int))),(15,(.int .i64 (q.1.1:Int)))],[.box 1 (.bool q.1.2.1),.box 2 (.agg [(.lst 1 (q.1.2.2.1.map (encL 2 encGRow))),(.int .i64 q.1.2.2.2.1)]),.box 1 (.int .i64 q.1.2.2.2.2),.box 1 (.agg [(.lst 4 (s_1.Tables.map encGTable))]),.box 2 (.agg [(.lst 1 (x_2.Tables.map (encL 2 encGRow))),(.int .i64 x_2.Next)])])) (fun q => s_1.Tables.length - q.1.1) ⟨(0,c_3,c_4.Tables,c_4.Next,c_5),hf⟩ ⟨[],[0,1,2,3,4],_,_,rfl,rfl,⟨.refl _,⟨.refl _,⟨.refl _,⟨.refl _,⟨.refl _,⟨.refl _,trivial⟩⟩⟩⟩⟩⟩,(.refl _)⟩ ?_
 rintro ⟨⟨s15_554,x_555,x_556,x_557,x_558⟩,hc1⟩
 have hc1:impl_eachSet_h0_L1 x_2 s_1 (s_1.Tables.drop s15_554) s15_554 x_555 x_556 x_557 x_558 = some r:=hc1
 refine (show awp Tryz.prog false 3 _ (ofL [(2,(.fn 127 [(.ptr 0 0 0),(.ptr 1 0 0),(.ptr 2 0 0)])),(3,(.ptr 3 0 0)),(4,(.ptr 4 0 0)),(13,(.lst 4 (s_1.Tables.map encGTable))),(14,(.int .i64 (s_1.Tables.length:Int))),(15,(.int .i64 (s15_554:Int)))]) [.box 1 (.bool x_555),.box 2 (.agg [(.lst 1 (x_556.map (encL 2 encGRow))),(.int .i64 x_557)]),.box 1 (.int .i64 x_558),.box 1 (.agg [(.lst 4 (s_1.Tables.map encGTable))]),.box 2 (.agg [(.lst 1 (x_2.Tables.map (encL 2 encGRow))),(.int .i64 x_2.Next)])] _ from ?_)
 rcases dropc s_1.Tables s15_554 with ⟨hie833,hd836⟩ | ⟨hlt831,x_837,hx832,hd836⟩
 ·rw [hd836,impl_eachSet_h0_L1.eq_1] at hc1
  have hq835:=dlf hie833
  refine sr<|s_q (.bool (decide ((s15_554:Int) < (s_1.Tables.length:Int)))) rfl rfl rfl<|dk<|awp_seq<|w_condf rfl hq835<|w_exit<|k_seqx<|k_loopx<|k_blkx<|?_;obtain rfl:=os hc1;exact r_heap [] [0,1,2] rfl trivial rfl (.refl _) (.refl _)
 ·rw [hd836,impl_eachSet_h0_L1.eq_2] at hc1
  have hq835:=dlt hlt831
  refine sr<|s_q (.bool (decide ((s15_554:Int) < (s_1.Tables.length:Int)))) rfl rfl rfl<|dk<|awp_seq<|w_condt rfl hq835<|w_skip<|k_seq<|awp_seq<|w_blk<|sr<|s_mov (.int .i64 (s15_554:Int)) rfl<|s_do (o_iaddrn (enc:=encGTable) rfl rfl hx832)<|s_q (encGTable x_837) rfl nle rfl<|s_do (o_box (j:=5) (c:=(.agg [(.str []),.nil,.nil,(.bool false)])) rfl trivial rfl rfl)<|s_mov (.int .i64 (s15_554:Int)) rfl<|s_do0 (o_storebox (v:=(.agg [(.str x_837.Name),(.lst 8 (x_837.Columns.map encGColumn)),(.lst 1 (x_837.Unique.map encI)),(.bool x_837.Root)])) (y':=(.agg [(.str x_837.Name),(.lst 8 (x_837.Columns.map encGColumn)),(.lst 1 (x_837.Unique.map encI)),(.bool x_837.Root)])) rfl rfl rfl trivial ⟨rfl,nle⟩ ⟨⟨rfl,trivial⟩,⟨⟨rfl,trivial⟩,⟨⟨rfl,trivial⟩,⟨⟨rfl,trivial⟩,trivial⟩⟩⟩⟩ rfl)<|?_
  refine dk<|sr<|s_q (.ptr 5 0 1) rfl trivial rfl<|s_q (.lst 8 (x_837.Columns.map encGColumn)) rfl nle rfl<|s_dof (o_len (enc:=encGColumn) rfl) fun hl838 => s_mov (.int .i64 0) rfl<|dk<|?_
  obtain ⟨p1039,hb1,hc1⟩:=ob hc1
  refine awp_cutb ([(2,(.fn 127 [(.ptr 0 0 0),(.ptr 1 0 0),(.ptr 2 0 0)])),(3,(.ptr 3 0 0)),(4,(.ptr 4 0 0)),(13,(.lst 4 (s_1.Tables.map encGTable))),(14,(.int .i64 (s_1.Tables.length:Int))),(15,(.int .i64 (s15_554:Int)))],[.box 1 (.bool p1039.1),.box 2 (.agg [(.lst 1 (p1039.2.1.map (encL 2 encGRow))),(.int .i64 p1039.2.2.1)]),.box 1 (.int .i64 p1039.2.2.2),.box 1 (.agg [(.lst 4 (s_1.Tables.map encGTable))]),.box 2 (.agg [(.lst 1 (x_2.Tables.map (encL 2 encGRow))),(.int .i64 x_2.Next)])]) ?_ ?_
  ·refine awp_loop (X:={q:(Nat × Bool × (List (List GRow)) × Int × Int) // impl_eachSet_h0_L2 x_2 s15_554 s_1 (x_837.Columns.drop q.1) q.1 q.2.1 q.2.2.1 q.2.2.2.1 q.2.2.2.2 = some p1039}) (fun q => ([(2,(.fn 127 [(.ptr 0 0 0),(.ptr 1 0 0),(.ptr 2 0 0)])),(3,(.ptr 3 0 0)),(4,(.ptr 4 0 0)),(6,(.int .i64 (s15_554:Int))),(13,(.lst 4 (s_1.Tables.map encGTable))),(14,(.int .i64 (s_1.Tables.length:Int))),(15,(.int .i64 (s15_554:Int))),(21,(.lst 8 (x_837.Columns.map encGColumn))),(22,(.int .i64 (x_837.Columns.length:Int))),(23,(.int .i64 (q.1.1:Int)))],[.box 1 (.bool q.1.2.1),.box 2 (.agg [(.lst 1 (q.1.2.2.1.map (encL 2 encGRow))),(.int .i64 q.1.2.2.2.1)]),.box 1 (.int .i64 q.1.2.2.2.2),.box 1 (.agg [(.lst 4 (s_1.Tables.map encGTable))]),.box 2 (.agg [(.lst 1 (x_2.Tables.map (encL 2 encGRow))),(.int .i64 x_2.Next)])])) (fun q => x_837.Columns.length - q.1.1) ⟨(0,x_555,x_556,x_557,x_558),hb1⟩ ⟨[],[0,1,2,3,4],_,_,rfl,rfl,⟨.refl _,⟨.refl _,⟨.refl _,⟨.refl _,⟨.refl _,⟨.refl _,⟨.refl _,⟨.refl _,⟨.refl _,⟨.refl _,trivial⟩⟩⟩⟩⟩⟩⟩⟩⟩⟩,(.refl _)⟩ ?_
   rintro ⟨⟨s23_968,x_969,x_970,x_971,x_972⟩,hc1⟩
   have hc1:impl_eachSet_h0_L2 x_2 s15_554 s_1 (x_837.Columns.drop s23_968) s23_968 x_969 x_970 x_971 x_972 = some p1039:=hc1
   refine (show awp Tryz.prog false 3 _ (ofL [(2,(.fn 127 [(.ptr 0 0 0),(.ptr 1 0 0),(.ptr 2 0 0)])),(3,(.ptr 3 0 0)),(4,(.ptr 4 0 0)),(6,(.int .i64 (s15_554:Int))),(13,(.lst 4 (s_1.Tables.map encGTable))),(14,(.int .i64 (s_1.Tables.length:Int))),(15,(.int .i64 (s15_554:Int))),(21,(.lst 8 (x_837.Columns.map encGColumn))),(22,(.int .i64 (x_837.Columns.length:Int))),(23,(.int .i64 (s23_968:Int)))]) [.box 1 (.bool x_969),.box 2 (.agg [(.lst 1 (x_970.map (encL 2 encGRow))),(.int .i64 x_971)]),.box 1 (.int .i64 x_972),.box 1 (.agg [(.lst 4 (s_1.Tables.map encGTable))]),.box 2 (.agg [(.lst 1 (x_2.Tables.map (encL 2 encGRow))),(.int .i64 x_2.Next)])] _ from ?_)
   rcases dropc x_837.Columns s23_968 with ⟨hie1042,hd1045⟩ | ⟨hlt1040,x_1046,hx1041,hd1045⟩
   ·rw [hd1045,impl_eachSet_h0_L2.eq_1] at hc1
    have hq1044:=dlf hie1042
    refine sr<|s_q (.bool (decide ((s23_968:Int) < (x_837.Columns.length:Int)))) rfl rfl rfl<|dk<|awp_seq<|w_condf rfl hq1044<|w_exit<|k_seqx<|k_loopx<|k_blkx<|?_;refine k_blk ?_;obtain rfl:=os hc1;exact ⟨[],[0,1,2,3,4],_,_,rfl,rfl,⟨.refl _,⟨.refl _,⟨.refl _,⟨.refl _,⟨.refl _,⟨.refl _,trivial⟩⟩⟩⟩⟩⟩,(.refl _)⟩
   ·rw [hd1045,impl_eachSet_h0_L2.eq_2] at hc1
    have hq1044:=dlt hlt1040
    refine sr<|s_q (.bool (decide ((s23_968:Int) < (x_837.Columns.length:Int)))) rfl rfl rfl<|dk<|awp_seq<|w_condt rfl hq1044<|w_skip<|k_seq<|awp_seq<|w_blk<|sr<|s_mov (.int .i64 (s23_968:Int)) rfl<|s_do (o_iaddrn (enc:=encGColumn) rfl rfl hx1041)<|s_q (encGColumn x_1046) rfl nle rfl<|s_do (o_box (j:=5) (c:=(.agg [(.str []),(.int .i64 0),(.int .i64 0),(.int .i64 0),(.int .i64 0),(.int .i64 0),(.str []),(.bool false)])) rfl trivial rfl rfl)<|s_mov (.int .i64 (s23_968:Int)) rfl<|s_do0 (o_storebox (v:=(.agg [(.str x_1046.Name),(.int .i64 x_1046.Kind),(.int .i64 x_1046.Min),(.int .i64 x_1046.Max),(.int .i64 x_1046.Low),(.int .i64 x_1046.High),(.str x_1046.Ref),(.bool x_1046.Strong)])) (y':=(.agg [(.str x_1046.Name),(.int .i64 x_1046.Kind),(.int .i64 x_1046.Min),(.int .i64 x_1046.Max),(.int .i64 x_1046.Low),(.int .i64 x_1046.High),(.str x_1046.Ref),(.bool x_1046.Strong)])) rfl rfl rfl trivial ⟨rfl,nle⟩ ⟨⟨rfl,trivial⟩,⟨⟨rfl,trivial⟩,⟨⟨rfl,trivial⟩,⟨⟨rfl,trivial⟩,⟨⟨rfl,trivial⟩,⟨⟨rfl,trivial⟩,⟨⟨rfl,trivial⟩,⟨⟨rfl,trivial⟩,trivial⟩⟩⟩⟩⟩⟩⟩⟩ rfl)<|?_
    refine dk<|awp_seq<|sr<|s_q (.ptr 5 0 1) rfl trivial rfl<|s_q (.int .i64 x_1046.Kind) rfl nle rfl<|s_q (.bool (x_1046.Kind != 4)) rfl rfl rfl<|dk<|?_
    rcases oi hc1 with ⟨c1047,hc1⟩ | ⟨c1047,hc1⟩
    ·refine w_condt rfl c1047<|w_exit<|k_seqx<|k_blkx<|?_;refine k_seq<|w_cut ([(2,(.fn 127 [(.ptr 0 0 0),(.ptr 1 0 0),(.ptr 2 0 0)])),(3,(.ptr 3 0 0)),(4,(.ptr 4 0 0)),(6,(.int .i64 (s15_554:Int))),(13,(.lst 4 (s_1.Tables.map encGTable))),(14,(.int .i64 (s_1.Tables.length:Int))),(15,(.int .i64 (s15_554:Int))),(21,(.lst 8 (x_837.Columns.map encGColumn))),(22,(.int .i64 (x_837.Columns.length:Int))),(23,(.int .i64 (s23_968:Int)))],[.box 1 (.bool x_969),.box 2 (.agg [(.lst 1 (x_970.map (encL 2 encGRow))),(.int .i64 x_971)]),.box 1 (.int .i64 x_972),.box 1 (.agg [(.lst 4 (s_1.Tables.map encGTable))]),.box 2 (.agg [(.lst 1 (x_2.Tables.map (encL 2 encGRow))),(.int .i64 x_2.Next)])]) ⟨[],[0,1,2,3,4],_,_,rfl,rfl,⟨.refl _,⟨.refl _,⟨.refl _,⟨.refl _,⟨.refl _,⟨.refl _,⟨.refl _,⟨.refl _,⟨.refl _,⟨.refl _,trivial⟩⟩⟩⟩⟩⟩⟩⟩⟩⟩,(.refl _)⟩<|?_
     refine w_reg<|s_q (.int .i64 (w64 ((s23_968:Int) + 1))) rfl rfl rfl<|s_mov (.int .i64 (w64 ((s23_968:Int) + 1))) rfl<|w_done<|?_;exact k_loopn ⟨((s23_968 + 1),x_969,x_970,x_971,x_972),hc1⟩ (mul hlt1040) ⟨[],[0,1,2,3,4],_,_,rfl,rfl,⟨.refl _,⟨.refl _,⟨.refl _,⟨.refl _,⟨.refl _,⟨.refl _,⟨.refl _,⟨.refl _,⟨.refl _,⟨.of_eq (congrArg (AV.int _) (w64_incr hlt1040 hl838)),trivial⟩⟩⟩⟩⟩⟩⟩⟩⟩⟩,(.refl _)⟩
    ·refine w_condf rfl (bf c1047)<|w_skip<|k_seq<|sr<|?_
     obtain ⟨x_1048,ex1049,hc1⟩:=ob hc1
     refine s_q (.ptr 4 0 0) rfl trivial rfl<|s_q (.lst 1 (x_2.Tables.map (encL 2 encGRow))) rfl nle rfl<|s_mov (.int .i64 (s15_554:Int)) rfl<|s_do (o_iaddr (enc:=(encL 2 encGRow)) rfl rfl (idx0 ex1049) (idx1 ex1049))<|s_q (.lst 2 (x_1048.map encGRow)) rfl ⟨rfl,rfl⟩ rfl<|s_dof (o_len (enc:=encGRow) rfl) fun hl1050 => s_mov (.int .i64 0) rfl<|dk<|?_
     obtain ⟨p1092,hb2,hc1⟩:=ob hc1
     refine awp_cutb ([(2,(.fn 127 [(.ptr 0 0 0),(.ptr 1 0 0),(.ptr 2 0 0)])),(3,(.ptr 3 0 0)),(4,(.ptr 4 0 0)),(6,(.int .i64 (s15_554:Int))),(13,(.lst 4 (s_1.Tables.map encGTable))),(14,(.int .i64 (s_1.Tables.length:Int))),(15,(.int .i64 (s15_554:Int))),(21,(.lst 8 (x_837.Columns.map encGColumn))),(22,(.int .i64 (x_837.Columns.length:Int))),(23,(.int .i64 (s23_968:Int)))],[.box 1 (.bool p1092.1),.box 2 (.agg [(.lst 1 (p1092.2.1.map (encL 2 encGRow))),(.int .i64 p1092.2.2.1)]),.box 1 (.int .i64 p1092.2.2.2),.box 1 (.agg [(.lst 4 (s_1.Tables.map encGTable))]),.box 2 (.agg [(.lst 1 (x_2.Tables.map (encL 2 encGRow))),(.int .i64 x_2.Next)])]) ?_ ?_
     ·refine awp_loop (X:={q:(Nat × Bool × (List (List GRow)) × Int × Int) // impl_eachSet_h0_L3 s23_968 s_1 x_1046 (x_1048.drop q.1) q.2.1 q.2.2.1 q.2.2.2.1 q.2.2.2.2 = some p1092}) (fun q => ([(2,(.fn 127 [(.ptr 0 0 0),(.ptr 1 0 0),(.ptr 2 0 0)])),(3,(.ptr 3 0 0)),(4,(.ptr 4 0 0)),(6,(.int .i64 (s15_554:Int))),(8,(.int .i64 (s23_968:Int))),(9,(.ptr 5 0 0)),(13,(.lst 4 (s_1.Tables.map encGTable))),(14,(.int .i64 (s_1.Tables.length:Int))),(15,(.int .i64 (s15_554:Int))),(21,(.lst 8 (x_837.Columns.map encGColumn))),(22,(.int .i64 (x_837.Columns.length:Int))),(23,(.int .i64 (s23_968:Int))),(35,(.lst 2 (x_1048.map encGRow))),(36,(.int .i64 (x_1048.length:Int))),(37,(.int .i64 (q.1.1:Int)))],[.box 1 (.bool q.1.2.1),.box 2 (.agg [(.lst 1 (q.1.2.2.1.map (encL 2 encGRow))),(.int .i64 q.1.2.2.2.1)]),.box 1 (.int .i64 q.1.2.2.2.2),.box 1 (.agg [(.lst 4 (s_1.Tables.map encGTable))]),.box 2 (.agg [(.lst 1 (x_2.Tables.map (encL 2 encGRow))),(.int .i64 x_2.Next)]),.box 8 (.agg [(.str x_1046.Name),(.int .i64 x_1046.Kind),(.int .i64 x_1046.Min),(.int .i64 x_1046.Max),(.int .i64 x_1046.Low),(.int .i64 x_1046.High),(.str x_1046.Ref),(.bool x_1046.Strong)])])) (fun q => x_1048.length - q.1.1) ⟨(0,x_969,x_970,x_971,x_972),hb2⟩ ⟨[],[0,1,2,3,4,5],_,_,rfl,rfl,⟨.refl _,⟨.refl _,⟨.refl _,⟨.refl _,⟨.refl _,⟨.refl _,⟨.refl _,⟨.refl _,⟨.refl _,⟨.refl _,⟨.refl _,⟨.refl _,⟨.refl _,⟨.refl _,⟨.refl _,trivial⟩⟩⟩⟩⟩⟩⟩⟩⟩⟩⟩⟩⟩⟩⟩,(.refl _)⟩ ?_
      rintro ⟨⟨s37_1074,x_1075,x_1076,x_1077,x_1078⟩,hc2⟩
      have hc2:impl_eachSet_h0_L3 s23_968 s_1 x_1046 (x_1048.drop s37_1074) x_1075 x_1076 x_1077 x_1078 = some p1092:=hc2
      refine (show awp Tryz.prog false 3 _ (ofL [(2,(.fn 127 [(.ptr 0 0 0),(.ptr 1 0 0),(.ptr 2 0 0)])),(3,(.ptr 3 0 0)),(4,(.ptr 4 0 0)),(6,(.int .i64 (s15_554:Int))),(8,(.int .i64 (s23_968:Int))),(9,(.ptr 5 0 0)),(13,(.lst 4 (s_1.Tables.map encGTable))),(14,(.int .i64 (s_1.Tables.length:Int))),(15,(.int .i64 (s15_554:Int))),(21,(.lst 8 (x_837.Columns.map encGColumn))),(22,(.int .i64 (x_837.Columns.length:Int))),(23,(.int .i64 (s23_968:Int))),(35,(.lst 2 (x_1048.map encGRow))),(36,(.int .i64 (x_1048.length:Int))),(37,(.int .i64 (s37_1074:Int)))]) [.box 1 (.bool x_1075),.box 2 (.agg [(.lst 1 (x_1076.map (encL 2 encGRow))),(.int .i64 x_1077)]),.box 1 (.int .i64 x_1078),.box 1 (.agg [(.lst 4 (s_1.Tables.map encGTable))]),.box 2 (.agg [(.lst 1 (x_2.Tables.map (encL 2 encGRow))),(.int .i64 x_2.Next)]),.box 8 (.agg [(.str x_1046.Name),(.int .i64 x_1046.Kind),(.int .i64 x_1046.Min),(.int .i64 x_1046.Max),(.int .i64 x_1046.Low),(.int .i64 x_1046.High),(.str x_1046.Ref),(.bool x_1046.Strong)])] _ from ?_)
      rcases dropc x_1048 s37_1074 with ⟨hie1095,hd1098⟩ | ⟨hlt1093,x_1099,hx1094,hd1098⟩
      ·rw [hd1098,impl_eachSet_h0_L3.eq_1] at hc2
       have hq1097:=dlf hie1095
       refine sr<|s_q (.bool (decide ((s37_1074:Int) < (x_1048.length:Int)))) rfl rfl rfl<|dk<|awp_seq<|w_condf rfl hq1097<|w_exit<|k_seqx<|k_loopx<|k_blkx<|?_;refine k_blk ?_;obtain rfl:=os hc2;exact ⟨[],[0,1,2,3,4],_,_,rfl,rfl,⟨.refl _,⟨.refl _,⟨.refl _,⟨.refl _,⟨.refl _,⟨.refl _,⟨.refl _,⟨.refl _,⟨.refl _,⟨.refl _,trivial⟩⟩⟩⟩⟩⟩⟩⟩⟩⟩,(.refl _)⟩
      ·rw [hd1098,impl_eachSet_h0_L3.eq_2] at hc2
       have hq1097:=dlt hlt1093
       refine sr<|s_q (.bool (decide ((s37_1074:Int) < (x_1048.length:Int)))) rfl rfl rfl<|dk<|awp_seq<|w_condt rfl hq1097<|w_skip<|k_seq<|awp_seq<|w_blk<|sr<|s_do (o_iaddrn (enc:=encGRow) rfl rfl hx1094)<|s_q (encGRow x_1099) rfl nle rfl<|s_do (o_box (j:=6) (c:=(.agg [(.int .i64 0),.nil])) rfl trivial rfl rfl)<|s_do0 (o_storebox (v:=(.agg [(.int .i64 x_1099.Id),(.lst 1 (x_1099.Cells.map (encL 3 encGAtom)))])) (y':=(.agg [(.int .i64 x_1099.Id),(.lst 1 (x_1099.Cells.map (encL 3 encGAtom)))])) rfl rfl rfl trivial ⟨rfl,nle⟩ ⟨⟨rfl,trivial⟩,⟨⟨rfl,trivial⟩,trivial⟩⟩ rfl)<|dk<|w_reg<|?_
       obtain ⟨x_1100,ex1101,hc2⟩:=ob hc2
       obtain ⟨r_1102,er1103,hc2⟩:=ob hc2
       obtain ⟨r_1104,er1105,hc2⟩:=ob hc2
       refine s_mov (.fn 127 [(.ptr 0 0 0),(.ptr 1 0 0),(.ptr 2 0 0)]) rfl<|s_q (.agg [(.str x_1046.Name),(.int .i64 x_1046.Kind),(.int .i64 x_1046.Min),(.int .i64 x_1046.Max),(.int .i64 x_1046.Low),(.int .i64 x_1046.High),(.str x_1046.Ref),(.bool x_1046.Strong)]) rfl nle rfl<|s_q (.agg [(.lst 4 (s_1.Tables.map encGTable))]) rfl nle rfl<|s_q (.ptr 5 0 6) rfl trivial rfl<|s_q (.str x_1046.Ref) rfl nle rfl<|s_q (.ptr 6 0 1) rfl trivial rfl<|s_q (.lst 1 (x_1099.Cells.map (encL 3 encGAtom))) rfl nle rfl<|s_mov (.int .i64 (s23_968:Int)) rfl<|s_do (o_iaddr (enc:=(encL 3 encGAtom)) rfl rfl (idx0 ex1101) (idx1 ex1101))<|s_q (.lst 3 (x_1100.map encGAtom)) rfl ⟨rfl,rfl⟩ rfl<|s_dol (o_call (w_impl_Schema_tableAt _ _ _ er1103) rfl (.refl _) rfl) a_same trivial<|?_
       refine s_dol (o_calvh (v:=(.tup [])) (h2:=[.box 1 (.bool r_1104.1),.box 2 (.agg [(.lst 1 (r_1104.2.1.Tables.map (encL 2 encGRow))),(.int .i64 r_1104.2.1.Next)]),.box 1 (.int .i64 r_1104.2.2),.box 1 (.agg [(.lst 4 (s_1.Tables.map encGTable))]),.box 2 (.agg [(.lst 1 (x_2.Tables.map (encL 2 encGRow))),(.int .i64 x_2.Next)]),.box 8 (.agg [(.str x_1046.Name),(.int .i64 x_1046.Kind),(.int .i64 x_1046.Min),(.int .i64 x_1046.Max),(.int .i64 x_1046.Low),(.int .i64 x_1046.High),(.str x_1046.Ref),(.bool x_1046.Strong)]),.box 2 (.agg [(.int .i64 x_1099.Id),(.lst 1 (x_1099.Cells.map (encL 3 encGAtom)))])]) [] [0,1,2] (fun _ => rfl) rfl (by kernel_rfl) (w_impl_commitCode_1_h0 _ _ _ _ _ _ _ er1105) rfl rfl (.refl _) (.refl _) rfl rfl) trivial trivial ?_
       refine w_done<|k_blk<|k_seq<|w_reg<|s_q (.int .i64 (w64 ((s37_1074:Int) + 1))) rfl rfl rfl<|s_mov (.int .i64 (w64 ((s37_1074:Int) + 1))) rfl<|w_done<|?_;exact k_loopn ⟨((s37_1074 + 1),r_1104.1,r_1104.2.1.Tables,r_1104.2.1.Next,r_1104.2.2),hc2⟩ (mul hlt1093) ⟨[],[0,1,2,3,4,5],_,_,rfl,rfl,⟨.refl _,⟨.refl _,⟨.refl _,⟨.refl _,⟨.refl _,⟨.refl _,⟨.refl _,⟨.refl _,⟨.refl _,⟨.refl _,⟨.refl _,⟨.refl _,⟨.refl _,⟨.refl _,⟨.of_eq (congrArg (AV.int _) (w64_incr hlt1093 hl1050)),trivial⟩⟩⟩⟩⟩⟩⟩⟩⟩⟩⟩⟩⟩⟩⟩,(.refl _)⟩
     ·obtain ⟨x_1088,x_1089,x_1090,x_1091⟩:=p1092
      refine w_reg<|s_q (.int .i64 (w64 ((s23_968:Int) + 1))) rfl rfl rfl<|s_mov (.int .i64 (w64 ((s23_968:Int) + 1))) rfl<|w_done<|?_;exact k_loopn ⟨((s23_968 + 1),x_1088,x_1089,x_1090,x_1091),hc1⟩ (mul hlt1040) ⟨[],[0,1,2,3,4],_,_,rfl,rfl,⟨.refl _,⟨.refl _,⟨.refl _,⟨.refl _,⟨.refl _,⟨.refl _,⟨.refl _,⟨.refl _,⟨.refl _,⟨.of_eq (congrArg (AV.int _) (w64_incr hlt1040 hl838)),trivial⟩⟩⟩⟩⟩⟩⟩⟩⟩⟩,(.refl _)⟩
  ·obtain ⟨x_1035,x_1036,x_1037,x_1038⟩:=p1039
   refine w_reg<|s_q (.int .i64 (w64 ((s15_554:Int) + 1))) rfl rfl rfl<|s_mov (.int .i64 (w64 ((s15_554:Int) + 1))) rfl<|w_done<|?_;exact k_loopn ⟨((s15_554 + 1),x_1035,x_1036,x_1037,x_1038),hc1⟩ (mul hlt831) ⟨[],[0,1,2,3,4],_,_,rfl,rfl,⟨.refl _,⟨.refl _,⟨.refl _,⟨.refl _,⟨.refl _,⟨.of_eq (congrArg (AV.int _) (w64_incr hlt831 hl6)),trivial⟩⟩⟩⟩⟩⟩,(.refl _)⟩

/- slices.IndexFunc[[]int,int] -/
def c210:ACode :=
 (.seq (.reg (tm 4 (.c (.int .i64 0)) .done))
 (.seq (.seq (.reg (tm 6 (.t 0) (tq 7 (.len (.t 6)) (tm 8 (.c (.int .i64 0)) .done))))
 (.block 0 (.loop (.seq (.reg (tq 9 (.bin .lss (.t 8) (.t 7)) .done))
 (.seq (.cond (.t 9) .skip
 (.exit 0))
 (.seq (.block 1 (.seq (.reg (tm 10 (.t 8) (tm 5 (.t 10) .done)))
 (.seq (.reg (tm 11 (.t 1) (tm 12 (.t 0) (tm 13 (.t 5) (tq 14 (.iaddr 1 (.t 12) (.t 13)) (tq 15 (.load 1 false (.t 14)) (tq 16 (.calv (.t 11) [(.t 15)]) .done)))))))
 (.cond (.t 16) (.seq (.reg (tm 17 (.t 5) (tm 4 (.t 17) .done)))
 .ret)
 .skip))))
 (.reg (tq 18 (.bin .add (.t 8) (.c (.int .i64 1))) (tm 8 (.t 18) .done)))))))))
 (.cut (.seq (.reg (tq 4 (.mov (.c (.int .i64 (-1)))) .done))
 .ret))))
theorem fc210:fcomp Tryz.prog Tryz.f210 = some (c210.erase,[.mov (.t 4)],19):=by kernel_rfl
def slices_IndexFunc_int_int_L1 (f_2:(Int → Option Bool)):List Int → Nat → Option (Fl Int Unit)
  | [],s8_17 =>
    some (.go ())
  | x_31 :: xs,s8_17 =>
    (f_2 x_31).bind fun r_32 =>
    if r_32 then
    some (.ret (s8_17:Int))
    else
    slices_IndexFunc_int_int_L1 f_2 xs (s8_17 + 1)

def slices_IndexFunc_int_int (s_1:(List Int)) (f_2:(Int → Option Bool)):Option Int :=
    (slices_IndexFunc_int_int_L1 f_2 s_1 0).bind fun q => (match q with
    | .ret r => some r
    | .go _ =>
    some (-1))
theorem w_slices_IndexFunc_int_int (s_1:(List Int)) (f_2:(Int → Option Bool)) (r:Int) (hf:slices_IndexFunc_int_int s_1 f_2 = some r) (kf_f_2:Nat) (cf_f_2:List AV) (okf_f_2:okFn Tryz.prog kf_f_2 = true) (hcf_f_2:∀ h p,closeWs h p cf_f_2 = some cf_f_2) (hrf_f_2:∀ f,rens f cf_f_2 = cf_f_2) (hpf_f_2:∀ a0 r,f_2 a0 = some r → CallOK Tryz.prog kf_f_2 .flat ([(.int .i64 a0)] ++ cf_f_2) (.bool r)):CallOK Tryz.prog 210 .flat [(.lst 1 (s_1.map encI)),(.fn kf_f_2 cf_f_2)] (.int .i64 r):=by
 refine CallOK.of_awp mixed Tryz.func210 fc210 nle ?_;rw [argT_eq];unfold slices_IndexFunc_int_int at hf;unfold c210;refine (show awp Tryz.prog false 0 _ (ofL [(0,(.lst 1 (s_1.map encI))),(1,(.fn kf_f_2 cf_f_2))]) [] _ from ?_);refine sr<|s_mov (.int .i64 0) rfl<|dk<|awp_seq<|sr<|s_mov (.lst 1 (s_1.map encI)) rfl<|s_dof (o_len (enc:=encI) rfl) fun hl3 => s_mov (.int .i64 0) rfl<|dk<|?_
 obtain ⟨p24,hb1,hf⟩:=ob hf
 refine awp_cutx (X:={q:Unit // p24 = .go q}) (fun q => ([],[])) ?_ ?_
 ·refine awp_loop (X:={q:Nat // slices_IndexFunc_int_int_L1 f_2 (s_1.drop q) q = some p24}) (fun q => ([(0,(.lst 1 (s_1.map encI))),(1,(.fn kf_f_2 cf_f_2)),(7,(.int .i64 (s_1.length:Int))),(8,(.int .i64 (q.1:Int)))],[])) (fun q => s_1.length - q.1) ⟨0,hb1⟩ ⟨[],[],_,_,rfl,rfl,⟨.refl _,⟨.of_eq (congrArg (AV.fn _) (hrf_f_2 _)),⟨.refl _,⟨.refl _,trivial⟩⟩⟩⟩,(.refl _)⟩ ?_
  rintro ⟨s8_17,hc1⟩
  have hc1:slices_IndexFunc_int_int_L1 f_2 (s_1.drop s8_17) s8_17 = some p24:=hc1
  refine (show awp Tryz.prog false 0 _ (ofL [(0,(.lst 1 (s_1.map encI))),(1,(.fn kf_f_2 cf_f_2)),(7,(.int .i64 (s_1.length:Int))),(8,(.int .i64 (s8_17:Int)))]) [] _ from ?_)
  rcases dropc s_1 s8_17 with ⟨hie27,hd30⟩ | ⟨hlt25,x_31,hx26,hd30⟩
  ·rw [hd30,slices_IndexFunc_int_int_L1.eq_1] at hc1
   have hq29:=dlf hie27
   refine sr<|s_q (.bool (decide ((s8_17:Int) < (s_1.length:Int)))) rfl rfl rfl<|dk<|awp_seq<|w_condf rfl hq29<|w_exit<|k_seqx<|k_loopx<|k_blkx<|?_;obtain rfl:=os hc1;exact k_cutn ⟨_,rfl⟩ ⟨[],[],_,_,rfl,rfl,trivial,(.refl _)⟩
  ·rw [hd30,slices_IndexFunc_int_int_L1.eq_2] at hc1
   have hq29:=dlt hlt25
   refine sr<|s_q (.bool (decide ((s8_17:Int) < (s_1.length:Int)))) rfl rfl rfl<|dk<|awp_seq<|w_condt rfl hq29<|w_skip<|k_seq<|awp_seq<|w_blk<|sr<|s_mov (.int .i64 (s8_17:Int)) rfl<|s_mov (.int .i64 (s8_17:Int)) rfl<|dk<|sr<|?_
   obtain ⟨r_32,er33,hc1⟩:=ob hc1
   refine s_mov (.fn kf_f_2 cf_f_2) rfl<|s_mov (.lst 1 (s_1.map encI)) rfl<|s_mov (.int .i64 (s8_17:Int)) rfl<|s_do (o_iaddrn (enc:=encI) rfl rfl hx26)<|s_q (.int .i64 x_31) rfl ⟨rfl,rfl⟩ rfl<|s_do (o_calvp (v:=(.bool r_32)) rfl okf_f_2 hcf_f_2 (hpf_f_2 _ _ er33) rfl (.refl _) rfl)<|dk<|?_
   rcases oi hc1 with ⟨c34,hc1⟩ | ⟨c34,hc1⟩
   ·refine w_condt rfl c34<|sr<|s_mov (.int .i64 (s8_17:Int)) rfl<|s_mov (.int .i64 (s8_17:Int)) rfl<|dk<|w_ret<|?_;obtain rfl:=os hc1;obtain rfl:=os hf;exact r_flat ⟨trivial,trivial⟩ rfl (.refl _)
   ·refine w_condf rfl (bf c34)<|w_skip<|k_blk<|k_seq<|w_reg<|s_q (.int .i64 (w64 ((s8_17:Int) + 1))) rfl rfl rfl<|s_mov (.int .i64 (w64 ((s8_17:Int) + 1))) rfl<|w_done<|?_;exact k_loopn ⟨(s8_17 + 1),hc1⟩ (mul hlt25) ⟨[],[],_,_,rfl,rfl,⟨.refl _,⟨.of_eq (congrArg (AV.fn _) (hrf_f_2 _)),⟨.refl _,⟨.of_eq (congrArg (AV.int _) (w64_incr hlt25 hl3)),trivial⟩⟩⟩⟩,(.refl _)⟩
 ·rintro ⟨_,rfl⟩
  refine sr<|s_mov (.int .i64 (-1)) rfl<|dk<|w_ret<|?_;obtain rfl:=os hf;exact r_flat ⟨trivial,trivial⟩ rfl (.refl _)

/- slices.ContainsFunc[[]int,int] -/
def c178:ACode :=
 (.seq (.reg (tm 4 (.c (.bool false)) .done))
 (.seq (.reg (tm 5 (.t 0) (tm 6 (.t 1) (tq 7 (.call 210 [(.t 5),(.t 6)]) (tq 8 (.bin .geq (.t 7) (.c (.int .i64 0))) (tm 4 (.t 8) .done))))))
 .ret))
theorem fc178:fcomp Tryz.prog Tryz.f178 = some (c178.erase,[.mov (.t 4)],9):=by kernel_rfl
def slices_ContainsFunc_int_int (s_1:(List Int)) (f_2:(Int → Option Bool)):Option Bool :=
    (slices_IndexFunc_int_int s_1 f_2).bind fun r_3 =>
    some (decide (r_3 ≥ 0))
theorem w_slices_ContainsFunc_int_int (s_1:(List Int)) (f_2:(Int → Option Bool)) (r:Bool) (hf:slices_ContainsFunc_int_int s_1 f_2 = some r) (kf_f_2:Nat) (cf_f_2:List AV) (okf_f_2:okFn Tryz.prog kf_f_2 = true) (hcf_f_2:∀ h p,closeWs h p cf_f_2 = some cf_f_2) (hrf_f_2:∀ f,rens f cf_f_2 = cf_f_2) (hpf_f_2:∀ a0 r,f_2 a0 = some r → CallOK Tryz.prog kf_f_2 .flat ([(.int .i64 a0)] ++ cf_f_2) (.bool r)):CallOK Tryz.prog 178 .flat [(.lst 1 (s_1.map encI)),(.fn kf_f_2 cf_f_2)] (.bool r):=by
  refine CallOK.of_awp mixed Tryz.func178 fc178 nle ?_
  rw [argT_eq]
  unfold slices_ContainsFunc_int_int at hf
  unfold c178
  refine (show awp Tryz.prog false 0 _ (ofL [(0,(.lst 1 (s_1.map encI))),(1,(.fn kf_f_2 cf_f_2))]) [] _ from ?_)
  refine awp_seq ?_
  refine w_reg ?_
  refine s_do (o_mov (.bool false) rfl) ?_
  refine w_done ?_
  refine k_seq ?_
  refine awp_seq ?_
  refine w_reg ?_
  obtain ⟨r_3,er4,hf⟩:=ob hf
  refine s_do (o_mov (.lst 1 (s_1.map encI)) rfl) ?_
  refine s_do (o_mov (.fn kf_f_2 cf_f_2) rfl) ?_
  refine s_do (o_call (w_slices_IndexFunc_int_int _ _ _ er4 kf_f_2 cf_f_2 okf_f_2 hcf_f_2 hrf_f_2 hpf_f_2) (cls_cons rfl (cls_cons (cls_fn hcf_f_2) rfl)) (.refl _) rfl) ?_
  refine s_do (o_q (.bool (decide (r_3 ≥ 0))) rfl rfl rfl) ?_
  refine s_do (o_mov (.bool (decide (r_3 ≥ 0))) rfl) ?_
  refine w_done ?_
  refine k_seq ?_
  refine w_ret ?_
  obtain rfl:=os hf
  exact r_flat ⟨trivial,trivial⟩ rfl (.refl _)

/- slices.Equal[[]impl.Atom,impl.Atom] -/
def c180:ACode :=
 (.seq (.reg (tm 4 (.c (.bool false)) .done))
 (.seq (.seq (.reg (tm 6 (.t 0) (tq 7 (.len (.t 6)) (tm 8 (.t 1) (tq 9 (.len (.t 8)) (tq 10 (.bin .neq (.t 7) (.t 9)) .done))))))
 (.cond (.t 10) (.seq (.reg (tm 4 (.c (.bool false)) .done))
 .ret)
 .skip))
 (.seq (.seq (.reg (tm 11 (.t 0) (tq 12 (.len (.t 11)) (tm 13 (.c (.int .i64 0)) .done))))
 (.block 0 (.loop (.seq (.reg (tq 14 (.bin .lss (.t 13) (.t 12)) .done))
 (.seq (.cond (.t 14) .skip
 (.exit 0))
 (.seq (.block 1 (.seq (.reg (tm 15 (.t 13) (tm 5 (.t 15) .done)))
 (.seq (.reg (tm 16 (.t 0) (tm 17 (.t 5) (tq 18 (.iaddr 3 (.t 16) (.t 17)) (tq 19 (.load 3 true (.t 18)) (tm 20 (.t 1) (tm 21 (.t 5) (tq 22 (.iaddr 3 (.t 20) (.t 21)) (tq 23 (.load 3 true (.t 22)) (tq 24 (.eqs true [0,0,2] (.t 19) (.t 23)) .done))))))))))
 (.cond (.t 24) (.seq (.reg (tm 4 (.c (.bool false)) .done))
 .ret)
 .skip))))
 (.reg (tq 25 (.bin .add (.t 13) (.c (.int .i64 1))) (tm 13 (.t 25) .done)))))))))
 (.cut (.seq (.reg (tm 4 (.c (.bool true)) .done))
 .ret)))))
theorem fc180:fcomp Tryz.prog Tryz.f180 = some (c180.erase,[.mov (.t 4)],26):=by kernel_rfl
def slices_Equal_impl_Atom_impl_Atom_L1 (s2_2:(List GAtom)):List GAtom → Nat → Option (Fl Bool Unit)
  | [],s13_20 =>
    some (.go ())
  | x_34 :: xs,s13_20 =>
    (idx s2_2 (s13_20:Int)).bind fun x_35 =>
    if (!(x_34.Kind == x_35.Kind && (x_34.N == x_35.N && (x_34.T == x_35.T && true)))) then
    some (.ret false)
    else
    slices_Equal_impl_Atom_impl_Atom_L1 s2_2 xs (s13_20 + 1)

def slices_Equal_impl_Atom_impl_Atom (s1_1:(List GAtom)) (s2_2:(List GAtom)):Option Bool :=
    if ((s1_1.length:Int) != (s2_2.length:Int)) then
    some false
    else
    (slices_Equal_impl_Atom_impl_Atom_L1 s2_2 s1_1 0).bind fun q => (match q with
    | .ret r => some r
    | .go _ =>
    some true)
theorem w_slices_Equal_impl_Atom_impl_Atom (s1_1:(List GAtom)) (s2_2:(List GAtom)) (r:Bool) (hf:slices_Equal_impl_Atom_impl_Atom s1_1 s2_2 = some r):CallOK Tryz.prog 180 .flat [(.lst 3 (s1_1.map encGAtom)),(.lst 3 (s2_2.map encGAtom))] (.bool r):=by
 refine CallOK.of_awp mixed Tryz.func180 fc180 nle ?_;rw [argT_eq];unfold slices_Equal_impl_Atom_impl_Atom at hf;unfold c180;refine (show awp Tryz.prog false 0 _ (ofL [(0,(.lst 3 (s1_1.map encGAtom))),(1,(.lst 3 (s2_2.map encGAtom)))]) [] _ from ?_);refine sr<|s_mov (.bool false) rfl<|dk<|awp_seq<|sr<|s_mov (.lst 3 (s1_1.map encGAtom)) rfl<|s_dof (o_len (enc:=encGAtom) rfl) fun hl3 => s_mov (.lst 3 (s2_2.map encGAtom)) rfl<|s_dof (o_len (enc:=encGAtom) rfl) fun hl4 => s_q (.bool ((s1_1.length:Int) != (s2_2.length:Int))) rfl rfl rfl<|dk<|?_
 rcases oi hf with ⟨c5,hf⟩ | ⟨c5,hf⟩
 ·refine w_condt rfl c5<|sr<|s_mov (.bool false) rfl<|dk<|w_ret<|?_;obtain rfl:=os hf;exact r_flat ⟨trivial,trivial⟩ rfl (.refl _)
 ·refine w_condf rfl (bf c5)<|w_skip<|k_seq<|awp_seq<|sr<|s_mov (.lst 3 (s1_1.map encGAtom)) rfl<|s_dof (o_len (enc:=encGAtom) rfl) fun hl6 => s_mov (.int .i64 0) rfl<|dk<|?_
  obtain ⟨p27,hb1,hf⟩:=ob hf
  refine awp_cutx (X:={q:Unit // p27 = .go q}) (fun q => ([],[])) ?_ ?_
  ·refine awp_loop (X:={q:Nat // slices_Equal_impl_Atom_impl_Atom_L1 s2_2 (s1_1.drop q) q = some p27}) (fun q => ([(0,(.lst 3 (s1_1.map encGAtom))),(1,(.lst 3 (s2_2.map encGAtom))),(12,(.int .i64 (s1_1.length:Int))),(13,(.int .i64 (q.1:Int)))],[])) (fun q => s1_1.length - q.1) ⟨0,hb1⟩ ⟨[],[],_,_,rfl,rfl,⟨.refl _,⟨.refl _,⟨.refl _,⟨.refl _,trivial⟩⟩⟩⟩,(.refl _)⟩ ?_
   rintro ⟨s13_20,hc1⟩
   have hc1:slices_Equal_impl_Atom_impl_Atom_L1 s2_2 (s1_1.drop s13_20) s13_20 = some p27:=hc1
   refine (show awp Tryz.prog false 0 _ (ofL [(0,(.lst 3 (s1_1.map encGAtom))),(1,(.lst 3 (s2_2.map encGAtom))),(12,(.int .i64 (s1_1.length:Int))),(13,(.int .i64 (s13_20:Int)))]) [] _ from ?_)
   rcases dropc s1_1 s13_20 with ⟨hie30,hd33⟩ | ⟨hlt28,x_34,hx29,hd33⟩
   ·rw [hd33,slices_Equal_impl_Atom_impl_Atom_L1.eq_1] at hc1
    have hq32:=dlf hie30
    refine sr<|s_q (.bool (decide ((s13_20:Int) < (s1_1.length:Int)))) rfl rfl rfl<|dk<|awp_seq<|w_condf rfl hq32<|w_exit<|k_seqx<|k_loopx<|k_blkx<|?_;obtain rfl:=os hc1;exact k_cutn ⟨_,rfl⟩ ⟨[],[],_,_,rfl,rfl,trivial,(.refl _)⟩
   ·rw [hd33,slices_Equal_impl_Atom_impl_Atom_L1.eq_2] at hc1
    have hq32:=dlt hlt28
    refine sr<|s_q (.bool (decide ((s13_20:Int) < (s1_1.length:Int)))) rfl rfl rfl<|dk<|awp_seq<|w_condt rfl hq32<|w_skip<|k_seq<|awp_seq<|w_blk<|sr<|s_mov (.int .i64 (s13_20:Int)) rfl<|s_mov (.int .i64 (s13_20:Int)) rfl<|dk<|sr<|?_
    obtain ⟨x_35,ex36,hc1⟩:=ob hc1
    refine s_mov (.lst 3 (s1_1.map encGAtom)) rfl<|s_mov (.int .i64 (s13_20:Int)) rfl<|s_do (o_iaddrn (enc:=encGAtom) rfl rfl hx29)<|s_q (encGAtom x_34) rfl nle rfl<|s_mov (.lst 3 (s2_2.map encGAtom)) rfl<|s_mov (.int .i64 (s13_20:Int)) rfl<|s_do (o_iaddr (enc:=encGAtom) rfl rfl (idx0 ex36) (idx1 ex36))<|s_q (encGAtom x_35) rfl nle rfl<|s_q (.bool (!(x_34.Kind == x_35.Kind && (x_34.N == x_35.N && (x_34.T == x_35.T && true))))) rfl ⟨⟨rfl,rfl⟩,⟨⟨rfl,rfl⟩,⟨rfl,trivial⟩⟩⟩ rfl<|dk<|?_
    rcases oi hc1 with ⟨c37,hc1⟩ | ⟨c37,hc1⟩
    ·refine w_condt rfl c37<|sr<|s_mov (.bool false) rfl<|dk<|w_ret<|?_;obtain rfl:=os hc1;obtain rfl:=os hf;exact r_flat ⟨trivial,trivial⟩ rfl (.refl _)
    ·refine w_condf rfl (bf c37)<|w_skip<|k_blk<|k_seq<|w_reg<|s_q (.int .i64 (w64 ((s13_20:Int) + 1))) rfl rfl rfl<|s_mov (.int .i64 (w64 ((s13_20:Int) + 1))) rfl<|w_done<|?_;exact k_loopn ⟨(s13_20 + 1),hc1⟩ (mul hlt28) ⟨[],[],_,_,rfl,rfl,⟨.refl _,⟨.refl _,⟨.refl _,⟨.of_eq (congrArg (AV.int _) (w64_incr hlt28 hl6)),trivial⟩⟩⟩⟩,(.refl _)⟩
  ·rintro ⟨_,rfl⟩
   refine sr<|s_mov (.bool true) rfl<|dk<|w_ret<|?_;obtain rfl:=os hf;exact r_flat ⟨trivial,trivial⟩ rfl (.refl _)

/- impl.hasAlike$1 -/
def c179:ACode :=
 (.seq (.reg (tm 4 (.c (.bool false)) .done))
 (.seq (.reg (tq 5 (.faddr 1 (.t 1)) (tq 6 (.load 1 false (.t 5)) (tm 7 (.t 0) (tq 8 (.iaddr 1 (.t 6) (.t 7)) (tq 9 (.load 1 false (.t 8)) (tq 10 (.faddr 1 (.t 2)) (tq 11 (.load 1 false (.t 10)) (tm 12 (.t 0) (tq 13 (.iaddr 1 (.t 11) (.t 12)) (tq 14 (.load 1 false (.t 13)) (.l ⟨(some 15),none,.call 180 [(.t 9),(.t 14)]⟩ []
 (tq 16 (.not (.t 15)) (tm 4 (.t 16) .done)) .non))))))))))))
 .ret))
theorem fc179:fcomp Tryz.prog Tryz.f179 = some (c179.erase,[.mov (.t 4)],17):=by kernel_rfl
def impl_hasAlike_1 (k_1:Int) (cap_2:GRow) (cap_3:GRow):Option Bool :=
    (idx cap_2.Cells k_1).bind fun x_4 =>
    (idx cap_3.Cells k_1).bind fun x_6 =>
    (slices_Equal_impl_Atom_impl_Atom x_4 x_6).bind fun r_8 =>
    some (!r_8)
theorem w_impl_hasAlike_1 (k_1:Int) (cap_2:GRow) (cap_3:GRow) (r:Bool) (hf:impl_hasAlike_1 k_1 cap_2 cap_3 = some r):CallOK Tryz.prog 179 .flat [(.int .i64 k_1),(.iptr (encGRow cap_2) 0),(.iptr (encGRow cap_3) 0)] (.bool r):=by
 refine CallOK.of_awp mixed Tryz.func179 fc179 nle ?_;rw [argT_eq];unfold impl_hasAlike_1 at hf;unfold c179;refine (show awp Tryz.prog false 0 _ (ofL [(0,(.int .i64 k_1)),(1,(.iptr (encGRow cap_2) 0)),(2,(.iptr (encGRow cap_3) 0))]) [] _ from ?_);refine sr<|s_mov (.bool false) rfl<|dk<|sr<|s_q (.iptr (encGRow cap_2) 1) rfl trivial rfl<|s_q (.lst 1 (cap_2.Cells.map (encL 3 encGAtom))) rfl nle rfl<|s_mov (.int .i64 k_1) rfl<|?_
 obtain ⟨x_4,ex5,hf⟩:=ob hf
 refine s_do (o_iaddr (enc:=(encL 3 encGAtom)) rfl rfl (idx0 ex5) (idx1 ex5))<|s_q (.lst 3 (x_4.map encGAtom)) rfl ⟨rfl,rfl⟩ rfl<|s_q (.iptr (encGRow cap_3) 1) rfl trivial rfl<|s_q (.lst 1 (cap_3.Cells.map (encL 3 encGAtom))) rfl nle rfl<|s_mov (.int .i64 k_1) rfl<|?_
 obtain ⟨x_6,ex7,hf⟩:=ob hf
 refine s_do (o_iaddr (enc:=(encL 3 encGAtom)) rfl rfl (idx0 ex7) (idx1 ex7))<|s_q (.lst 3 (x_6.map encGAtom)) rfl ⟨rfl,rfl⟩ rfl<|?_
 obtain ⟨r_8,er9,hf⟩:=ob hf
 refine s_dol (o_call (w_slices_Equal_impl_Atom_impl_Atom _ _ _ er9) rfl (.refl _) rfl) a_same trivial<|s_q (.bool (!r_8)) rfl trivial rfl<|s_mov (.bool (!r_8)) rfl<|dk<|w_ret<|?_;obtain rfl:=os hf;exact r_flat ⟨trivial,trivial⟩ rfl (.refl _)

/- impl.hasAlike -/
def c129:ACode :=
 (.seq (.reg (tq 2 (.box 4 (.t 0)) (tm 4 (.c (.bool false)) .done)))
 (.seq (.seq (.reg (tq 9 (.faddr 2 (.t 2)) (tq 10 (.load 1 false (.t 9)) (tq 11 (.len (.t 10)) (tq 12 (.bin .eql (.t 11) (.c (.int .i64 0))) .done)))))
 (.cond (.t 12) (.seq (.reg (tm 4 (.c (.bool false)) .done))
 .ret)
 .skip))
 (.seq (.seq (.reg (tm 13 (.t 1) (tq 14 (.len (.t 13)) (tm 15 (.c (.int .i64 0)) .done))))
 (.block 0 (.loop (.seq (.reg (tq 16 (.bin .lss (.t 15) (.t 14)) .done))
 (.seq (.cond (.t 16) .skip
 (.exit 0))
 (.seq (.block 1 (.seq (.reg (tm 17 (.t 15) (tq 18 (.iaddr 2 (.t 13) (.t 15)) (tq 19 (.load 2 true (.t 18)) (tq 6 (.box 2 (.c (.agg [(.int .i64 0),.nil]))) (tm 5 (.t 17) (.q ⟨none,none,.store 2 (.t 6) (.t 19)⟩
 .done)))))))
 (.seq (.reg (tm 20 (.t 1) (tm 21 (.t 5) (tq 22 (.slice 2 (.t 20) none (some (.t 21))) (tq 23 (.len (.t 22)) (tm 24 (.c (.int .i64 0)) .done))))))
 (.block 2 (.loop (.seq (.reg (tq 25 (.bin .lss (.t 24) (.t 23)) .done))
 (.seq (.cond (.t 25) .skip
 (.exit 2))
 (.seq (.block 3 (.seq (.reg (tq 26 (.iaddr 2 (.t 22) (.t 24)) (tq 27 (.load 2 true (.t 26)) (tq 8 (.box 2 (.c (.agg [(.int .i64 0),.nil]))) (.q ⟨none,none,.store 2 (.t 8) (.t 27)⟩
 .done)))))
 (.seq (.reg (tq 28 (.faddr 2 (.t 2)) (tq 29 (.load 1 false (.t 28)) (tq 30 (.mkfn 179 [(.t 6),(.t 8)]) (tq 31 (.call 178 [(.t 29),(.t 30)]) (tq 32 (.not (.t 31)) .done))))))
 (.cond (.t 32) (.seq (.reg (tm 4 (.c (.bool true)) .done))
 .ret)
 .skip))))
 (.reg (tq 33 (.bin .add (.t 24) (.c (.int .i64 1))) (tm 24 (.t 33) .done)))))))))))
 (.cut (.reg (tq 34 (.bin .add (.t 15) (.c (.int .i64 1))) (tm 15 (.t 34) .done))))))))))
 (.cut (.seq (.reg (tm 4 (.c (.bool false)) .done))
 .ret)))))
theorem fc129:fcomp Tryz.prog Tryz.f129 = some (c129.erase,[.mov (.t 4)],35):=by kernel_rfl
def impl_hasAlike_L2 (rows_2:(List GRow)) (s15_83:Nat) (t_1:GTable) (x_129:GRow):List GRow → Nat → Option (Fl Bool Unit)
  | [],s24_145 =>
    some (.go ())
  | x_159 :: xs,s24_145 =>
    (idx (rows_2.take s15_83) (s24_145:Int)).bind fun x_160 =>
    (slices_ContainsFunc_int_int t_1.Unique (fun a0 => impl_hasAlike_1 a0 x_129 x_160)).bind fun r_162 =>
    if (!r_162) then
    some (.ret true)
    else
    impl_hasAlike_L2 rows_2 s15_83 t_1 x_129 xs (s24_145 + 1)

def impl_hasAlike_L1 (rows_2:(List GRow)) (t_1:GTable):List GRow → Nat → Option (Fl Bool Unit)
  | [],s15_83 =>
    some (.go ())
  | x_129 :: xs,s15_83 =>
    if 0 ≤ (s15_83:Int) ∧ (s15_83:Int) ≤ (rows_2.length:Int) then
    (impl_hasAlike_L2 rows_2 s15_83 t_1 x_129 (rows_2.take s15_83) 0).bind fun q => (match q with
    | .ret r => some (.ret r)
    | .go _ =>
    impl_hasAlike_L1 rows_2 t_1 xs (s15_83 + 1))
    else none

def impl_hasAlike (t_1:GTable) (rows_2:(List GRow)):Option Bool :=
    if ((t_1.Unique.length:Int) == 0) then
    some false
    else
    (impl_hasAlike_L1 rows_2 t_1 rows_2 0).bind fun q => (match q with
    | .ret r => some r
    | .go _ =>
    some false)
theorem w_impl_hasAlike (t_1:GTable) (rows_2:(List GRow)) (r:Bool) (hf:impl_hasAlike t_1 rows_2 = some r):CallOK Tryz.prog 129 .flat [(encGTable t_1),(.lst 2 (rows_2.map encGRow))] (.bool r):=by
 refine CallOK.of_awp mixed Tryz.func129 fc129 nle ?_;rw [argT_eq];unfold impl_hasAlike at hf;unfold c129;refine (show awp Tryz.prog false 0 _ (ofL [(0,(encGTable t_1)),(1,(.lst 2 (rows_2.map encGRow)))]) [] _ from ?_);refine sr<|s_do (o_box (j:=0) (c:=(.agg [(.str t_1.Name),(.lst 8 (t_1.Columns.map encGColumn)),(.lst 1 (t_1.Unique.map encI)),(.bool t_1.Root)])) rfl trivial rfl rfl)<|s_mov (.bool false) rfl<|dk<|awp_seq<|sr<|s_q (.ptr 0 0 2) rfl trivial rfl<|s_q (.lst 1 (t_1.Unique.map encI)) rfl nle rfl<|s_dof (o_len (enc:=encI) rfl) fun hl3 => s_q (.bool ((t_1.Unique.length:Int) == 0)) rfl rfl rfl<|dk<|?_
 rcases oi hf with ⟨c4,hf⟩ | ⟨c4,hf⟩
 ·refine w_condt rfl c4<|sr<|s_mov (.bool false) rfl<|dk<|w_ret<|?_;obtain rfl:=os hf;exact r_flat ⟨trivial,trivial⟩ rfl (.refl _)
 ·refine w_condf rfl (bf c4)<|w_skip<|k_seq<|awp_seq<|sr<|s_mov (.lst 2 (rows_2.map encGRow)) rfl<|s_dof (o_len (enc:=encGRow) rfl) fun hl5 => s_mov (.int .i64 0) rfl<|dk<|?_
  obtain ⟨p122,hb1,hf⟩:=ob hf
  refine awp_cutx (X:={q:Unit // p122 = .go q}) (fun q => ([],[])) ?_ ?_
  ·refine awp_loop (X:={q:Nat // impl_hasAlike_L1 rows_2 t_1 (rows_2.drop q) q = some p122}) (fun q => ([(1,(.lst 2 (rows_2.map encGRow))),(2,(.ptr 0 0 0)),(13,(.lst 2 (rows_2.map encGRow))),(14,(.int .i64 (rows_2.length:Int))),(15,(.int .i64 (q.1:Int)))],[.box 4 (.agg [(.str t_1.Name),(.lst 8 (t_1.Columns.map encGColumn)),(.lst 1 (t_1.Unique.map encI)),(.bool t_1.Root)])])) (fun q => rows_2.length - q.1) ⟨0,hb1⟩ ⟨[],[0],_,_,rfl,rfl,⟨.refl _,⟨.refl _,⟨.refl _,⟨.refl _,⟨.refl _,trivial⟩⟩⟩⟩⟩,(.refl _)⟩ ?_
   rintro ⟨s15_83,hc1⟩
   have hc1:impl_hasAlike_L1 rows_2 t_1 (rows_2.drop s15_83) s15_83 = some p122:=hc1
   refine (show awp Tryz.prog false 0 _ (ofL [(1,(.lst 2 (rows_2.map encGRow))),(2,(.ptr 0 0 0)),(13,(.lst 2 (rows_2.map encGRow))),(14,(.int .i64 (rows_2.length:Int))),(15,(.int .i64 (s15_83:Int)))]) [.box 4 (.agg [(.str t_1.Name),(.lst 8 (t_1.Columns.map encGColumn)),(.lst 1 (t_1.Unique.map encI)),(.bool t_1.Root)])] _ from ?_)
   rcases dropc rows_2 s15_83 with ⟨hie125,hd128⟩ | ⟨hlt123,x_129,hx124,hd128⟩
   ·rw [hd128,impl_hasAlike_L1.eq_1] at hc1
    have hq127:=dlf hie125
    refine sr<|s_q (.bool (decide ((s15_83:Int) < (rows_2.length:Int)))) rfl rfl rfl<|dk<|awp_seq<|w_condf rfl hq127<|w_exit<|k_seqx<|k_loopx<|k_blkx<|?_;obtain rfl:=os hc1;exact k_cutn ⟨_,rfl⟩ ⟨[],[],_,_,rfl,rfl,trivial,(.refl _)⟩
   ·rw [hd128,impl_hasAlike_L1.eq_2] at hc1
    have hq127:=dlt hlt123
    refine sr<|s_q (.bool (decide ((s15_83:Int) < (rows_2.length:Int)))) rfl rfl rfl<|dk<|awp_seq<|w_condt rfl hq127<|w_skip<|k_seq<|awp_seq<|w_blk<|sr<|s_mov (.int .i64 (s15_83:Int)) rfl<|s_do (o_iaddrn (enc:=encGRow) rfl rfl hx124)<|s_q (encGRow x_129) rfl nle rfl<|s_do (o_box (j:=1) (c:=(.agg [(.int .i64 0),.nil])) rfl trivial rfl rfl)<|s_mov (.int .i64 (s15_83:Int)) rfl<|s_do0 (o_storebox (v:=(.agg [(.int .i64 x_129.Id),(.lst 1 (x_129.Cells.map (encL 3 encGAtom)))])) (y':=(.agg [(.int .i64 x_129.Id),(.lst 1 (x_129.Cells.map (encL 3 encGAtom)))])) rfl rfl rfl trivial ⟨rfl,nle⟩ ⟨⟨rfl,trivial⟩,⟨⟨rfl,trivial⟩,trivial⟩⟩ rfl)<|?_
    refine dk<|sr<|?_
    obtain ⟨g130,hc1⟩:=og hc1
    refine s_mov (.lst 2 (rows_2.map encGRow)) rfl<|s_mov (.int .i64 (s15_83:Int)) rfl<|s_do (o_slt (enc:=encGRow) rfl rfl g130.1 g130.2)<|s_dof (o_len (enc:=encGRow) rfl) fun hl131 => s_mov (.int .i64 0) rfl<|dk<|?_
    obtain ⟨p152,hb2,hc1⟩:=ob hc1
    refine awp_cutxb (X:={q:Unit // p152 = .go q}) (fun q => ([(1,(.lst 2 (rows_2.map encGRow))),(2,(.ptr 0 0 0)),(13,(.lst 2 (rows_2.map encGRow))),(14,(.int .i64 (rows_2.length:Int))),(15,(.int .i64 (s15_83:Int)))],[.box 4 (.agg [(.str t_1.Name),(.lst 8 (t_1.Columns.map encGColumn)),(.lst 1 (t_1.Unique.map encI)),(.bool t_1.Root)])])) ?_ ?_
    ·refine awp_loop (X:={q:Nat // impl_hasAlike_L2 rows_2 s15_83 t_1 x_129 ((rows_2.take s15_83).drop q) q = some p152}) (fun q => ([(1,(.lst 2 (rows_2.map encGRow))),(2,(.ptr 0 0 0)),(6,(.ptr 1 0 0)),(13,(.lst 2 (rows_2.map encGRow))),(14,(.int .i64 (rows_2.length:Int))),(15,(.int .i64 (s15_83:Int))),(22,(.lst 2 ((rows_2.take s15_83).map encGRow))),(23,(.int .i64 ((rows_2.take s15_83).length:Int))),(24,(.int .i64 (q.1:Int)))],[.box 4 (.agg [(.str t_1.Name),(.lst 8 (t_1.Columns.map encGColumn)),(.lst 1 (t_1.Unique.map encI)),(.bool t_1.Root)]),.box 2 (.agg [(.int .i64 x_129.Id),(.lst 1 (x_129.Cells.map (encL 3 encGAtom)))])])) (fun q => (rows_2.take s15_83).length - q.1) ⟨0,hb2⟩ ⟨[],[0,1],_,_,rfl,rfl,⟨.refl _,⟨.refl _,⟨.refl _,⟨.refl _,⟨.refl _,⟨.refl _,⟨.refl _,⟨.refl _,⟨.refl _,trivial⟩⟩⟩⟩⟩⟩⟩⟩⟩,(.refl _)⟩ ?_
     rintro ⟨s24_145,hc2⟩
     have hc2:impl_hasAlike_L2 rows_2 s15_83 t_1 x_129 ((rows_2.take s15_83).drop s24_145) s24_145 = some p152:=hc2
     refine (show awp Tryz.prog false 0 _ (ofL [(1,(.lst 2 (rows_2.map encGRow))),(2,(.ptr 0 0 0)),(6,(.ptr 1 0 0)),(13,(.lst 2 (rows_2.map encGRow))),(14,(.int .i64 (rows_2.length:Int))),(15,(.int .i64 (s15_83:Int))),(22,(.lst 2 ((rows_2.take s15_83).map encGRow))),(23,(.int .i64 ((rows_2.take s15_83).length:Int))),(24,(.int .i64 (s24_145:Int)))]) [.box 4 (.agg [(.str t_1.Name),(.lst 8 (t_1.Columns.map encGColumn)),(.lst 1 (t_1.Unique.map encI)),(.bool t_1.Root)]),.box 2 (.agg [(.int .i64 x_129.Id),(.lst 1 (x_129.Cells.map (encL 3 encGAtom)))])] _ from ?_)
     rcases dropc (rows_2.take s15_83) s24_145 with ⟨hie155,hd158⟩ | ⟨hlt153,x_159,hx154,hd158⟩
     ·rw [hd158,impl_hasAlike_L2.eq_1] at hc2
      have hq157:=dlf hie155
      refine sr<|s_q (.bool (decide ((s24_145:Int) < ((rows_2.take s15_83).length:Int)))) rfl rfl rfl<|dk<|awp_seq<|w_condf rfl hq157<|w_exit<|k_seqx<|k_loopx<|k_blkx<|?_;refine k_blk ?_;obtain rfl:=os hc2;exact k_cutn ⟨_,rfl⟩ ⟨[],[0],_,_,rfl,rfl,⟨.refl _,⟨.refl _,⟨.refl _,⟨.refl _,⟨.refl _,trivial⟩⟩⟩⟩⟩,(.refl _)⟩
     ·rw [hd158,impl_hasAlike_L2.eq_2] at hc2
      have hq157:=dlt hlt153
      refine sr<|s_q (.bool (decide ((s24_145:Int) < ((rows_2.take s15_83).length:Int)))) rfl rfl rfl<|dk<|awp_seq<|w_condt rfl hq157<|w_skip<|k_seq<|awp_seq<|w_blk<|sr<|?_
      obtain ⟨x_160,ex161,hc2⟩:=ob hc2
      refine s_do (o_iaddr (enc:=encGRow) rfl rfl (idx0 ex161) (idx1 ex161))<|s_q (encGRow x_160) rfl nle rfl<|s_do (o_box (j:=2) (c:=(.agg [(.int .i64 0),.nil])) rfl trivial rfl rfl)<|s_do0 (o_storebox (v:=(.agg [(.int .i64 x_160.Id),(.lst 1 (x_160.Cells.map (encL 3 encGAtom)))])) (y':=(.agg [(.int .i64 x_160.Id),(.lst 1 (x_160.Cells.map (encL 3 encGAtom)))])) rfl rfl rfl trivial ⟨rfl,nle⟩ ⟨⟨rfl,trivial⟩,⟨⟨rfl,trivial⟩,trivial⟩⟩ rfl)<|dk<|sr<|?_
      obtain ⟨r_162,er163,hc2⟩:=ob hc2
      refine s_q (.ptr 0 0 2) rfl trivial rfl<|s_q (.lst 1 (t_1.Unique.map encI)) rfl nle rfl<|s_q (.fn 179 [(.ptr 1 0 0),(.ptr 2 0 0)]) rfl trivial rfl<|?_;refine s_do (o_call (w_slices_ContainsFunc_int_int _ _ _ er163 179 [(.iptr (encGRow x_129) 0),(.iptr (encGRow x_160) 0)] (by kernel_rfl) (fun _ _ => rfl) (fun _ => rfl) (fun a0 r h => w_impl_hasAlike_1 a0 x_129 x_160 r h)) rfl (.refl _) rfl) ?_;refine s_q (.bool (!r_162)) rfl trivial rfl<|dk<|?_
      rcases oi hc2 with ⟨c164,hc2⟩ | ⟨c164,hc2⟩
      ·refine w_condt rfl c164<|sr<|s_mov (.bool true) rfl<|dk<|w_ret<|?_;obtain rfl:=os hc2;obtain rfl:=os hc1;obtain rfl:=os hf;exact r_flat ⟨trivial,trivial⟩ rfl (.refl _)
      ·refine w_condf rfl (bf c164)<|w_skip<|k_blk<|k_seq<|w_reg<|s_q (.int .i64 (w64 ((s24_145:Int) + 1))) rfl rfl rfl<|s_mov (.int .i64 (w64 ((s24_145:Int) + 1))) rfl<|w_done<|?_;exact k_loopn ⟨(s24_145 + 1),hc2⟩ (mul hlt153) ⟨[],[0,1],_,_,rfl,rfl,⟨.refl _,⟨.refl _,⟨.refl _,⟨.refl _,⟨.refl _,⟨.refl _,⟨.refl _,⟨.refl _,⟨.of_eq (congrArg (AV.int _) (w64_incr hlt153 hl131)),trivial⟩⟩⟩⟩⟩⟩⟩⟩⟩,(.refl _)⟩
    ·rintro ⟨_,rfl⟩
     refine w_reg<|s_q (.int .i64 (w64 ((s15_83:Int) + 1))) rfl rfl rfl<|s_mov (.int .i64 (w64 ((s15_83:Int) + 1))) rfl<|w_done<|?_;exact k_loopn ⟨(s15_83 + 1),hc1⟩ (mul hlt123) ⟨[],[0],_,_,rfl,rfl,⟨.refl _,⟨.refl _,⟨.refl _,⟨.refl _,⟨.of_eq (congrArg (AV.int _) (w64_incr hlt123 hl5)),trivial⟩⟩⟩⟩⟩,(.refl _)⟩
  ·rintro ⟨_,rfl⟩
   refine sr<|s_mov (.bool false) rfl<|dk<|w_ret<|?_;obtain rfl:=os hf;exact r_flat ⟨trivial,trivial⟩ rfl (.refl _)

/- impl.commitCode -/
def c57:ACode :=
 (.seq (.reg (tq 3 (.box 1 (.t 0)) (tq 4 (.box 2 (.t 1)) (tq 5 (.box 1 (.t 2)) (tm 6 (.c (.int .i64 0)) .done)))))
 (.seq (.reg (tq 7 (.box 1 (.c (.int .i64 0))) (.q ⟨none,none,.store 1 (.t 7) (.c (.int .i64 0))⟩
 .done)))
 (.seq (.reg (tq 10 (.load 1 true (.t 3)) (tq 11 (.load 2 true (.t 4)) (tq 12 (.mkfn 127 [(.t 5),(.t 4),(.t 7)]) (tq 13 (.call 126 [(.t 10),(.t 11),(.t 12)]) .done)))))
 (.seq (.seq (.reg (tq 14 (.faddr 0 (.t 3)) (tq 15 (.load 1 false (.t 14)) (tq 16 (.len (.t 15)) (tm 17 (.c (.int .i64 0)) .done)))))
 (.block 0 (.loop (.seq (.reg (tq 18 (.bin .lss (.t 17) (.t 16)) .done))
 (.seq (.cond (.t 18) .skip
 (.exit 0))
 (.seq (.block 1 (.seq (.reg (tm 19 (.t 17) (tq 20 (.iaddr 4 (.t 15) (.t 17)) (tq 21 (.load 4 true (.t 20)) (tq 9 (.box 4 (.c (.agg [(.str []),.nil,.nil,(.bool false)]))) (tm 8 (.t 19) (.q ⟨none,none,.store 4 (.t 9) (.t 21)⟩
 .done)))))))
 (.seq (.reg (tq 22 (.load 1 false (.t 7)) (tq 23 (.bin .eql (.t 22) (.c (.int .i64 0))) (tm 24 (.t 23) (tg 25 24 true (.load 4 true (.t 9)) (tg 26 24 true (.faddr 0 (.t 4)) (tg 27 24 true (.load 1 false (.t 26)) (tg 28 24 true (.mov (.t 8)) (tg 29 24 true (.iaddr 1 (.t 27) (.t 28)) (tg 30 24 true (.load 1 false (.t 29)) (.l ⟨(some 31),(some (24,true)),.call 129 [(.t 25),(.t 30)]⟩ []
 (tq 32 (.pick (.t 24) (.t 31) (.c (.bool false))) .done) .non)))))))))))
 (.cut (.cond (.t 32) (.reg (.q ⟨none,none,.store 1 (.t 7) (.c (.int .i64 12))⟩
 .done))
 .skip)))))
 (.reg (tq 33 (.bin .add (.t 17) (.c (.int .i64 1))) (tm 17 (.t 33) .done)))))))))
 (.cut (.seq (.reg (tq 34 (.load 1 false (.t 7)) (tm 6 (.t 34) .done)))
 .ret))))))
theorem fc57:fcomp Tryz.prog Tryz.f57 = some (c57.erase,[.mov (.t 6)],35):=by kernel_rfl
def impl_commitCode_L1 (r_4:(Bool × GStore × Int)):List GTable → Nat → Int → Option Int
  | [],s17_41,x_42 =>
    some x_42
  | x_67 :: xs,s17_41,x_42 =>
    ((if (x_42 == 0) then
    (idx r_4.2.1.Tables (s17_41:Int)).bind fun x_76 =>
    (impl_hasAlike x_67 x_76).bind fun r_78 =>
    some r_78
    else
    some false:Option Bool)).bind fun s32_73 =>
    if s32_73 then
    impl_commitCode_L1 r_4 xs (s17_41 + 1) 12
    else
    impl_commitCode_L1 r_4 xs (s17_41 + 1) x_42

def impl_commitCode (s_1:GSchema) (x_2:GStore) (all_3:Bool):Option Int :=
    (impl_eachSet_h0 s_1 x_2 all_3 x_2 0).bind fun r_4 =>
    (impl_commitCode_L1 r_4 s_1.Tables 0 r_4.2.2).bind fun x_59 =>
    some x_59
theorem w_impl_commitCode (s_1:GSchema) (x_2:GStore) (all_3:Bool) (r:Int) (hf:impl_commitCode s_1 x_2 all_3 = some r):CallOK Tryz.prog 57 .flat [(encGSchema s_1),(encGStore x_2),(.bool all_3)] (.int .i64 r):=by
 refine CallOK.of_awp mixed Tryz.func57 fc57 nle ?_;rw [argT_eq];unfold impl_commitCode at hf;unfold c57;refine (show awp Tryz.prog false 0 _ (ofL [(0,(encGSchema s_1)),(1,(encGStore x_2)),(2,(.bool all_3))]) [] _ from ?_);refine sr<|s_do (o_box (j:=0) (c:=(.agg [(.lst 4 (s_1.Tables.map encGTable))])) rfl trivial rfl rfl)<|s_do (o_box (j:=1) (c:=(.agg [(.lst 1 (x_2.Tables.map (encL 2 encGRow))),(.int .i64 x_2.Next)])) rfl trivial rfl rfl)<|s_do (o_box (j:=2) (c:=(.bool all_3)) rfl trivial rfl rfl)<|s_mov (.int .i64 0) rfl<|dk<|sr<|s_do (o_box (j:=3) (c:=(.int .i64 0)) rfl trivial rfl rfl)<|s_do0 (o_storebox (v:=(.int .i64 0)) (y':=(.int .i64 0)) rfl rfl rfl trivial ⟨rfl,rfl,rfl⟩ ⟨⟨rfl,trivial⟩,trivial⟩ rfl)<|?_
 refine dk<|sr<|?_
 obtain ⟨r_4,er5,hf⟩:=ob hf
 refine s_q (.agg [(.lst 4 (s_1.Tables.map encGTable))]) rfl nle rfl<|s_q (.agg [(.lst 1 (x_2.Tables.map (encL 2 encGRow))),(.int .i64 x_2.Next)]) rfl nle rfl<|s_q (.fn 127 [(.ptr 2 0 0),(.ptr 1 0 0),(.ptr 3 0 0)]) rfl trivial rfl<|?_;refine s_do (o_callh (v:=(.tup [])) (h2:=[.box 1 (.agg [(.lst 4 (s_1.Tables.map encGTable))]),.box 2 (.agg [(.lst 1 (r_4.2.1.Tables.map (encL 2 encGRow))),(.int .i64 r_4.2.1.Next)]),.box 1 (.bool r_4.1),.box 1 (.int .i64 r_4.2.2)]) [] [2,1,3] (fun _ => rfl) (w_impl_eachSet_h0 _ _ _ _ _ _ er5) rfl (.refl _) (.refl _) rfl rfl) ?_;refine dk<|awp_seq<|sr<|s_q (.ptr 0 0 0) rfl trivial rfl<|s_q (.lst 4 (s_1.Tables.map encGTable)) rfl nle rfl<|?_
 refine s_dof (o_len (enc:=encGTable) rfl) fun hl6 => s_mov (.int .i64 0) rfl<|dk<|?_
 obtain ⟨x_59,hb1,hf⟩:=ob hf
 refine awp_cut ([(7,(.ptr 0 0 0))],[.box 1 (.int .i64 x_59)]) ?_ ?_
 ·refine awp_loop (X:={q:(Nat × Int) // impl_commitCode_L1 r_4 (s_1.Tables.drop q.1) q.1 q.2 = some x_59}) (fun q => ([(4,(.ptr 0 0 0)),(7,(.ptr 1 0 0)),(15,(.lst 4 (s_1.Tables.map encGTable))),(16,(.int .i64 (s_1.Tables.length:Int))),(17,(.int .i64 (q.1.1:Int)))],[.box 2 (.agg [(.lst 1 (r_4.2.1.Tables.map (encL 2 encGRow))),(.int .i64 r_4.2.1.Next)]),.box 1 (.int .i64 q.1.2)])) (fun q => s_1.Tables.length - q.1.1) ⟨(0,r_4.2.2),hb1⟩ ⟨[],[1,3],_,_,rfl,rfl,⟨.refl _,⟨.refl _,⟨.refl _,⟨.refl _,⟨.refl _,trivial⟩⟩⟩⟩⟩,(.refl _)⟩ ?_
  rintro ⟨⟨s17_41,x_42⟩,hc1⟩
  have hc1:impl_commitCode_L1 r_4 (s_1.Tables.drop s17_41) s17_41 x_42 = some x_59:=hc1
  refine (show awp Tryz.prog false 0 _ (ofL [(4,(.ptr 0 0 0)),(7,(.ptr 1 0 0)),(15,(.lst 4 (s_1.Tables.map encGTable))),(16,(.int .i64 (s_1.Tables.length:Int))),(17,(.int .i64 (s17_41:Int)))]) [.box 2 (.agg [(.lst 1 (r_4.2.1.Tables.map (encL 2 encGRow))),(.int .i64 r_4.2.1.Next)]),.box 1 (.int .i64 x_42)] _ from ?_)
  rcases dropc s_1.Tables s17_41 with ⟨hie63,hd66⟩ | ⟨hlt61,x_67,hx62,hd66⟩
  ·rw [hd66,impl_commitCode_L1.eq_1] at hc1
   have hq65:=dlf hie63
   refine sr<|s_q (.bool (decide ((s17_41:Int) < (s_1.Tables.length:Int)))) rfl rfl rfl<|dk<|awp_seq<|w_condf rfl hq65<|w_exit<|k_seqx<|k_loopx<|k_blkx<|?_;obtain rfl:=os hc1;exact ⟨[],[1],_,_,rfl,rfl,⟨.refl _,trivial⟩,(.refl _)⟩
  ·rw [hd66,impl_commitCode_L1.eq_2] at hc1
   have hq65:=dlt hlt61
   refine sr<|s_q (.bool (decide ((s17_41:Int) < (s_1.Tables.length:Int)))) rfl rfl rfl<|dk<|awp_seq<|w_condt rfl hq65<|w_skip<|k_seq<|awp_seq<|w_blk<|sr<|s_mov (.int .i64 (s17_41:Int)) rfl<|s_do (o_iaddrn (enc:=encGTable) rfl rfl hx62)<|s_q (encGTable x_67) rfl nle rfl<|s_do (o_box (j:=2) (c:=(.agg [(.str []),.nil,.nil,(.bool false)])) rfl trivial rfl rfl)<|s_mov (.int .i64 (s17_41:Int)) rfl<|s_do0 (o_storebox (v:=(.agg [(.str x_67.Name),(.lst 8 (x_67.Columns.map encGColumn)),(.lst 1 (x_67.Unique.map encI)),(.bool x_67.Root)])) (y':=(.agg [(.str x_67.Name),(.lst 8 (x_67.Columns.map encGColumn)),(.lst 1 (x_67.Unique.map encI)),(.bool x_67.Root)])) rfl rfl rfl trivial ⟨rfl,nle⟩ ⟨⟨rfl,trivial⟩,⟨⟨rfl,trivial⟩,⟨⟨rfl,trivial⟩,⟨⟨rfl,trivial⟩,trivial⟩⟩⟩⟩ rfl)<|?_
   refine dk<|awp_seq<|?_
   obtain ⟨s32_73,hb2,hc1⟩:=ob hc1
   refine awp_cut ([(4,(.ptr 0 0 0)),(7,(.ptr 1 0 0)),(15,(.lst 4 (s_1.Tables.map encGTable))),(16,(.int .i64 (s_1.Tables.length:Int))),(17,(.int .i64 (s17_41:Int))),(32,(.bool s32_73))],[.box 2 (.agg [(.lst 1 (r_4.2.1.Tables.map (encL 2 encGRow))),(.int .i64 r_4.2.1.Next)]),.box 1 (.int .i64 x_42)]) ?_ ?_
   ·refine w_reg ?_
    rcases oi hb2 with ⟨c75,hb2⟩ | ⟨c75,hb2⟩
    ·obtain ⟨x_76,ex77,hb2⟩:=ob hb2
     obtain ⟨r_78,er79,hb2⟩:=ob hb2
     refine s_q (.int .i64 x_42) rfl ⟨rfl,rfl⟩ rfl<|s_q (.bool (x_42 == 0)) rfl rfl rfl<|s_mov (.bool (x_42 == 0)) rfl<|s_lit (s:=24) (b:=true) rfl c75<|s_on rfl<|s_q (.agg [(.str x_67.Name),(.lst 8 (x_67.Columns.map encGColumn)),(.lst 1 (x_67.Unique.map encI)),(.bool x_67.Root)]) rfl nle rfl<|s_on rfl<|s_q (.ptr 0 0 0) rfl trivial rfl<|s_on rfl<|s_q (.lst 1 (r_4.2.1.Tables.map (encL 2 encGRow))) rfl nle rfl<|s_on rfl<|s_mov (.int .i64 (s17_41:Int)) rfl<|s_on rfl<|s_do (o_iaddr (enc:=(encL 2 encGRow)) rfl rfl (idx0 ex77) (idx1 ex77))<|s_on rfl<|s_q (.lst 2 (x_76.map encGRow)) rfl ⟨rfl,rfl⟩ rfl<|s_onl rfl<|s_dol (o_call (w_impl_hasAlike _ _ _ er79) rfl (.refl _) rfl) a_same trivial<|?_
     refine s_q (.bool r_78) rfl trivial rfl<|w_done<|?_;obtain rfl:=os hb2;exact ⟨[],[0,1],_,_,rfl,rfl,⟨.refl _,⟨.refl _,⟨.refl _,⟨.refl _,⟨.refl _,⟨.refl _,trivial⟩⟩⟩⟩⟩⟩,(.refl _)⟩
    ·refine s_q (.int .i64 x_42) rfl ⟨rfl,rfl⟩ rfl<|s_q (.bool (x_42 == 0)) rfl rfl rfl<|s_mov (.bool (x_42 == 0)) rfl<|s_lit (s:=24) (b:=false) rfl (bf c75)<|s_off rfl rfl<|s_off rfl rfl<|s_off rfl rfl<|s_off rfl rfl<|s_off rfl rfl<|s_off rfl rfl<|s_offl rfl rfl trivial<|s_q (.bool false) rfl trivial rfl<|w_done<|?_;obtain rfl:=os hb2;exact ⟨[],[0,1],_,_,rfl,rfl,⟨.refl _,⟨.refl _,⟨.refl _,⟨.refl _,⟨.refl _,⟨.refl _,trivial⟩⟩⟩⟩⟩⟩,(.refl _)⟩
   ·rcases oi hc1 with ⟨c80,hc1⟩ | ⟨c80,hc1⟩
    ·refine w_condt rfl c80<|w_reg<|s_do0 (o_storebox (v:=(.int .i64 12)) (y':=(.int .i64 12)) rfl rfl rfl trivial ⟨rfl,rfl,rfl⟩ ⟨⟨rfl,trivial⟩,trivial⟩ rfl)<|w_done<|k_blk<|k_seq<|w_reg<|s_q (.int .i64 (w64 ((s17_41:Int) + 1))) rfl rfl rfl<|s_mov (.int .i64 (w64 ((s17_41:Int) + 1))) rfl<|w_done<|?_;exact k_loopn ⟨((s17_41 + 1),12),hc1⟩ (mul hlt61) ⟨[],[0,1],_,_,rfl,rfl,⟨.refl _,⟨.refl _,⟨.refl _,⟨.refl _,⟨.of_eq (congrArg (AV.int _) (w64_incr hlt61 hl6)),trivial⟩⟩⟩⟩⟩,(.refl _)⟩
    ·refine w_condf rfl (bf c80)<|w_skip<|k_blk<|k_seq<|w_reg<|s_q (.int .i64 (w64 ((s17_41:Int) + 1))) rfl rfl rfl<|s_mov (.int .i64 (w64 ((s17_41:Int) + 1))) rfl<|w_done<|?_;exact k_loopn ⟨((s17_41 + 1),x_42),hc1⟩ (mul hlt61) ⟨[],[0,1],_,_,rfl,rfl,⟨.refl _,⟨.refl _,⟨.refl _,⟨.refl _,⟨.of_eq (congrArg (AV.int _) (w64_incr hlt61 hl6)),trivial⟩⟩⟩⟩⟩,(.refl _)⟩
 ·refine sr<|s_q (.int .i64 x_59) rfl ⟨rfl,rfl⟩ rfl<|s_mov (.int .i64 x_59) rfl<|dk<|w_ret<|?_;obtain rfl:=os hf;exact r_flat ⟨trivial,trivial⟩ rfl (.refl _)

/- impl.CommitCode -/
def c17:ACode :=
 (.seq (.reg (tq 2 (.box 1 (.t 0)) (tq 3 (.box 2 (.t 1)) (tm 4 (.c (.int .i64 0)) (tm 5 (.c (.int .i64 0)) .done)))))
 (.seq (.seq (.reg (tq 6 (.load 1 true (.t 2)) (tq 7 (.load 2 true (.t 3)) (tq 8 (.call 56 [(.t 6),(.t 7)]) (tq 9 (.not (.t 8)) .done)))))
 (.cond (.t 9) (.seq (.reg (tm 4 (.c (.int .i64 0)) (tm 5 (.c (.int .i64 1)) .done)))
 .ret)
 .skip))
 (.seq (.reg (tq 10 (.load 1 true (.t 2)) (tq 11 (.load 2 true (.t 3)) (tq 12 (.call 57 [(.t 10),(.t 11),(.c (.bool true))]) (tm 4 (.t 12) (tm 5 (.c (.int .i64 0)) .done))))))
 .ret)))
theorem fc17:fcomp Tryz.prog Tryz.f17 = some (c17.erase,[.mov (.t 4),.mov (.t 5)],13):=by kernel_rfl
def impl_CommitCode (s_1:GSchema) (x_2:GStore):Option (Int × Int) :=
    (impl_storeFits s_1 x_2).bind fun r_3 =>
    if (!r_3) then
    some (0,1)
    else
    (impl_commitCode s_1 x_2 true).bind fun r_6 =>
    some (r_6,0)
theorem w_impl_CommitCode (s_1:GSchema) (x_2:GStore) (r:(Int × Int)) (hf:impl_CommitCode s_1 x_2 = some r):CallOK Tryz.prog 17 .flat [(encGSchema s_1),(encGStore x_2)] (.tup [(.int .i64 r.1),(.int .i64 r.2)]):=by
 refine CallOK.of_awp mixed Tryz.func17 fc17 nle ?_;rw [argT_eq];unfold impl_CommitCode at hf;unfold c17;refine (show awp Tryz.prog false 0 _ (ofL [(0,(encGSchema s_1)),(1,(encGStore x_2))]) [] _ from ?_);refine sr<|s_do (o_box (j:=0) (c:=(.agg [(.lst 4 (s_1.Tables.map encGTable))])) rfl trivial rfl rfl)<|s_do (o_box (j:=1) (c:=(.agg [(.lst 1 (x_2.Tables.map (encL 2 encGRow))),(.int .i64 x_2.Next)])) rfl trivial rfl rfl)<|s_mov (.int .i64 0) rfl<|s_mov (.int .i64 0) rfl<|dk<|awp_seq<|sr<|?_
 obtain ⟨r_3,er4,hf⟩:=ob hf
 refine s_q (.agg [(.lst 4 (s_1.Tables.map encGTable))]) rfl nle rfl<|s_q (.agg [(.lst 1 (x_2.Tables.map (encL 2 encGRow))),(.int .i64 x_2.Next)]) rfl nle rfl<|s_do (o_call (w_impl_storeFits _ _ _ er4) rfl (.refl _) rfl)<|s_q (.bool (!r_3)) rfl trivial rfl<|dk<|?_
 rcases oi hf with ⟨c5,hf⟩ | ⟨c5,hf⟩
 ·refine w_condt rfl c5<|sr<|s_mov (.int .i64 0) rfl<|s_mov (.int .i64 1) rfl<|dk<|w_ret<|?_;obtain rfl:=os hf;exact r_flat ⟨trivial,⟨trivial,trivial⟩⟩ rfl (.refl _)
 ·refine w_condf rfl (bf c5)<|w_skip<|k_seq<|sr<|?_
  obtain ⟨r_6,er7,hf⟩:=ob hf
  refine s_q (.agg [(.lst 4 (s_1.Tables.map encGTable))]) rfl nle rfl<|s_q (.agg [(.lst 1 (x_2.Tables.map (encL 2 encGRow))),(.int .i64 x_2.Next)]) rfl nle rfl<|s_do (o_call (w_impl_commitCode _ _ _ _ er7) rfl (.refl _) rfl)<|s_mov (.int .i64 r_6) rfl<|s_mov (.int .i64 0) rfl<|dk<|w_ret<|?_;obtain rfl:=os hf;exact r_flat ⟨trivial,⟨trivial,trivial⟩⟩ rfl (.refl _)

/- laws.eqColumn -/
def c211:ACode :=
 (.seq (.reg (tq 2 (.box 8 (.t 0)) (tq 3 (.box 8 (.t 1)) (tm 4 (.c (.bool false)) .done))))
 (.seq (.seq (.reg (tq 5 (.faddr 0 (.t 2)) (tq 6 (.load 1 false (.t 5)) (tq 7 (.faddr 0 (.t 3)) (tq 8 (.load 1 false (.t 7)) (tq 9 (.bin .neq (.t 6) (.t 8)) .done))))))
 (.cond (.t 9) (.seq (.reg (tm 4 (.c (.bool false)) .done))
 .ret)
 .skip))
 (.seq (.seq (.reg (tq 10 (.faddr 1 (.t 2)) (tq 11 (.load 1 false (.t 10)) (tq 12 (.faddr 1 (.t 3)) (tq 13 (.load 1 false (.t 12)) (tq 14 (.bin .neq (.t 11) (.t 13)) .done))))))
 (.cond (.t 14) (.seq (.reg (tm 4 (.c (.bool false)) .done))
 .ret)
 .skip))
 (.seq (.seq (.reg (tq 15 (.faddr 2 (.t 2)) (tq 16 (.load 1 false (.t 15)) (tq 17 (.faddr 2 (.t 3)) (tq 18 (.load 1 false (.t 17)) (tq 19 (.bin .neq (.t 16) (.t 18)) .done))))))
 (.cond (.t 19) (.seq (.reg (tm 4 (.c (.bool false)) .done))
 .ret)
 .skip))
 (.seq (.seq (.reg (tq 20 (.faddr 3 (.t 2)) (tq 21 (.load 1 false (.t 20)) (tq 22 (.faddr 3 (.t 3)) (tq 23 (.load 1 false (.t 22)) (tq 24 (.bin .neq (.t 21) (.t 23)) .done))))))
 (.cond (.t 24) (.seq (.reg (tm 4 (.c (.bool false)) .done))
 .ret)
 .skip))
 (.seq (.seq (.reg (tq 25 (.faddr 4 (.t 2)) (tq 26 (.load 1 false (.t 25)) (tq 27 (.faddr 4 (.t 3)) (tq 28 (.load 1 false (.t 27)) (tq 29 (.bin .neq (.t 26) (.t 28)) .done))))))
 (.cond (.t 29) (.seq (.reg (tm 4 (.c (.bool false)) .done))
 .ret)
 .skip))
 (.seq (.seq (.reg (tq 30 (.faddr 5 (.t 2)) (tq 31 (.load 1 false (.t 30)) (tq 32 (.faddr 5 (.t 3)) (tq 33 (.load 1 false (.t 32)) (tq 34 (.bin .neq (.t 31) (.t 33)) .done))))))
 (.cond (.t 34) (.seq (.reg (tm 4 (.c (.bool false)) .done))
 .ret)
 .skip))
 (.seq (.seq (.reg (tq 35 (.faddr 6 (.t 2)) (tq 36 (.load 1 false (.t 35)) (tq 37 (.faddr 6 (.t 3)) (tq 38 (.load 1 false (.t 37)) (tq 39 (.bin .neq (.t 36) (.t 38)) .done))))))
 (.cond (.t 39) (.seq (.reg (tm 4 (.c (.bool false)) .done))
 .ret)
 .skip))
 (.seq (.seq (.reg (tq 40 (.faddr 7 (.t 2)) (tq 41 (.load 1 false (.t 40)) (tq 42 (.faddr 7 (.t 3)) (tq 43 (.load 1 false (.t 42)) (tq 44 (.eqB true (.t 41) (.t 43)) .done))))))
 (.cond (.t 44) (.seq (.reg (tm 4 (.c (.bool false)) .done))
 .ret)
 .skip))
 (.seq (.reg (tm 4 (.c (.bool true)) .done))
 .ret))))))))))
theorem fc211:fcomp Tryz.prog Tryz.f211 = some (c211.erase,[.mov (.t 4)],45):=by kernel_rfl
def laws_eqColumn (a_1:GColumn) (b_2:GColumn):Option Bool :=
    if (!(a_1.Name == b_2.Name)) then
    some false
    else
    if (a_1.Kind != b_2.Kind) then
    some false
    else
    if (a_1.Min != b_2.Min) then
    some false
    else
    if (a_1.Max != b_2.Max) then
    some false
    else
    if (a_1.Low != b_2.Low) then
    some false
    else
    if (a_1.High != b_2.High) then
    some false
    else
    if (!(a_1.Ref == b_2.Ref)) then
    some false
    else
    if (!(a_1.Strong == b_2.Strong)) then
    some false
    else
    some true
theorem w_laws_eqColumn (a_1:GColumn) (b_2:GColumn) (r:Bool) (hf:laws_eqColumn a_1 b_2 = some r):CallOK Tryz.prog 211 .flat [(encGColumn a_1),(encGColumn b_2)] (.bool r):=by
 refine CallOK.of_awp mixed Tryz.func211 fc211 nle ?_;rw [argT_eq];unfold laws_eqColumn at hf;unfold c211;refine (show awp Tryz.prog false 0 _ (ofL [(0,(encGColumn a_1)),(1,(encGColumn b_2))]) [] _ from ?_);refine sr<|s_do (o_box (j:=0) (c:=(.agg [(.str a_1.Name),(.int .i64 a_1.Kind),(.int .i64 a_1.Min),(.int .i64 a_1.Max),(.int .i64 a_1.Low),(.int .i64 a_1.High),(.str a_1.Ref),(.bool a_1.Strong)])) rfl trivial rfl rfl)<|s_do (o_box (j:=1) (c:=(.agg [(.str b_2.Name),(.int .i64 b_2.Kind),(.int .i64 b_2.Min),(.int .i64 b_2.Max),(.int .i64 b_2.Low),(.int .i64 b_2.High),(.str b_2.Ref),(.bool b_2.Strong)])) rfl trivial rfl rfl)<|s_mov (.bool false) rfl<|dk<|awp_seq<|?_
 refine sr<|s_q (.ptr 0 0 0) rfl trivial rfl<|s_q (.str a_1.Name) rfl nle rfl<|s_q (.ptr 1 0 0) rfl trivial rfl<|s_q (.str b_2.Name) rfl nle rfl<|s_q (.bool (!(a_1.Name == b_2.Name))) rfl trivial rfl<|dk<|?_
 rcases oi hf with ⟨c3,hf⟩ | ⟨c3,hf⟩
 ·refine w_condt rfl c3<|sr<|s_mov (.bool false) rfl<|dk<|w_ret<|?_;obtain rfl:=os hf;exact r_flat ⟨trivial,trivial⟩ rfl (.refl _)
 ·refine w_condf rfl (bf c3)<|w_skip<|k_seq<|awp_seq<|sr<|s_q (.ptr 0 0 1) rfl trivial rfl<|s_q (.int .i64 a_1.Kind) rfl nle rfl<|s_q (.ptr 1 0 1) rfl trivial rfl<|s_q (.int .i64 b_2.Kind) rfl nle rfl<|s_q (.bool (a_1.Kind != b_2.Kind)) rfl rfl rfl<|dk<|?_
  rcases oi hf with ⟨c4,hf⟩ | ⟨c4,hf⟩
  ·refine w_condt rfl c4<|sr<|s_mov (.bool false) rfl<|dk<|w_ret<|?_;obtain rfl:=os hf;exact r_flat ⟨trivial,trivial⟩ rfl (.refl _)
  ·refine w_condf rfl (bf c4)<|w_skip<|k_seq<|awp_seq<|sr<|s_q (.ptr 0 0 2) rfl trivial rfl<|s_q (.int .i64 a_1.Min) rfl nle rfl<|s_q (.ptr 1 0 2) rfl trivial rfl<|s_q (.int .i64 b_2.Min) rfl nle rfl<|s_q (.bool (a_1.Min != b_2.Min)) rfl rfl rfl<|dk<|?_
   rcases oi hf with ⟨c5,hf⟩ | ⟨c5,hf⟩
   ·refine w_condt rfl c5<|sr<|s_mov (.bool false) rfl<|dk<|w_ret<|?_;obtain rfl:=os hf;exact r_flat ⟨trivial,trivial⟩ rfl (.refl _)
   ·refine w_condf rfl (bf c5)<|w_skip<|k_seq<|awp_seq<|sr<|s_q (.ptr 0 0 3) rfl trivial rfl<|s_q (.int .i64 a_1.Max) rfl nle rfl<|s_q (.ptr 1 0 3) rfl trivial rfl<|s_q (.int .i64 b_2.Max) rfl nle rfl<|s_q (.bool (a_1.Max != b_2.Max)) rfl rfl rfl<|dk<|?_
    rcases oi hf with ⟨c6,hf⟩ | ⟨c6,hf⟩
    ·refine w_condt rfl c6<|sr<|s_mov (.bool false) rfl<|dk<|w_ret<|?_;obtain rfl:=os hf;exact r_flat ⟨trivial,trivial⟩ rfl (.refl _)
    ·refine w_condf rfl (bf c6)<|w_skip<|k_seq<|awp_seq<|sr<|s_q (.ptr 0 0 4) rfl trivial rfl<|s_q (.int .i64 a_1.Low) rfl nle rfl<|s_q (.ptr 1 0 4) rfl trivial rfl<|s_q (.int .i64 b_2.Low) rfl nle rfl<|s_q (.bool (a_1.Low != b_2.Low)) rfl rfl rfl<|dk<|?_
     rcases oi hf with ⟨c7,hf⟩ | ⟨c7,hf⟩
     ·refine w_condt rfl c7<|sr<|s_mov (.bool false) rfl<|dk<|w_ret<|?_;obtain rfl:=os hf;exact r_flat ⟨trivial,trivial⟩ rfl (.refl _)
     ·refine w_condf rfl (bf c7)<|w_skip<|k_seq<|awp_seq<|sr<|s_q (.ptr 0 0 5) rfl trivial rfl<|s_q (.int .i64 a_1.High) rfl nle rfl<|s_q (.ptr 1 0 5) rfl trivial rfl<|s_q (.int .i64 b_2.High) rfl nle rfl<|s_q (.bool (a_1.High != b_2.High)) rfl rfl rfl<|dk<|?_
      rcases oi hf with ⟨c8,hf⟩ | ⟨c8,hf⟩
      ·refine w_condt rfl c8<|sr<|s_mov (.bool false) rfl<|dk<|w_ret<|?_;obtain rfl:=os hf;exact r_flat ⟨trivial,trivial⟩ rfl (.refl _)
      ·refine w_condf rfl (bf c8)<|w_skip<|k_seq<|awp_seq<|sr<|s_q (.ptr 0 0 6) rfl trivial rfl<|s_q (.str a_1.Ref) rfl nle rfl<|s_q (.ptr 1 0 6) rfl trivial rfl<|s_q (.str b_2.Ref) rfl nle rfl<|s_q (.bool (!(a_1.Ref == b_2.Ref))) rfl trivial rfl<|dk<|?_
       rcases oi hf with ⟨c9,hf⟩ | ⟨c9,hf⟩
       ·refine w_condt rfl c9<|sr<|s_mov (.bool false) rfl<|dk<|w_ret<|?_;obtain rfl:=os hf;exact r_flat ⟨trivial,trivial⟩ rfl (.refl _)
       ·refine w_condf rfl (bf c9)<|w_skip<|k_seq<|awp_seq<|sr<|s_q (.ptr 0 0 7) rfl trivial rfl<|s_q (.bool a_1.Strong) rfl nle rfl<|s_q (.ptr 1 0 7) rfl trivial rfl<|s_q (.bool b_2.Strong) rfl nle rfl<|s_q (.bool (!(a_1.Strong == b_2.Strong))) rfl trivial rfl<|dk<|?_
        rcases oi hf with ⟨c10,hf⟩ | ⟨c10,hf⟩
        ·refine w_condt rfl c10<|sr<|s_mov (.bool false) rfl<|dk<|w_ret<|?_;obtain rfl:=os hf;exact r_flat ⟨trivial,trivial⟩ rfl (.refl _)
        ·refine w_condf rfl (bf c10)<|w_skip<|k_seq<|sr<|s_mov (.bool true) rfl<|dk<|w_ret<|?_;obtain rfl:=os hf;exact r_flat ⟨trivial,trivial⟩ rfl (.refl _)

/- laws.eqColumnS -/
def c181:ACode :=
 (.seq (.reg (tm 4 (.c (.bool false)) .done))
 (.seq (.seq (.reg (tm 6 (.t 0) (tq 7 (.len (.t 6)) (tm 8 (.t 1) (tq 9 (.len (.t 8)) (tq 10 (.bin .neq (.t 7) (.t 9)) .done))))))
 (.cond (.t 10) (.seq (.reg (tm 4 (.c (.bool false)) .done))
 .ret)
 .skip))
 (.seq (.seq (.reg (tm 5 (.c (.int .i64 0)) .done))
 (.block 0 (.loop (.seq (.seq (.reg (tm 11 (.t 5) (tm 12 (.t 0) (tq 13 (.len (.t 12)) (tq 14 (.bin .lss (.t 11) (.t 13)) .done)))))
 (.cond (.t 14) .skip
 (.exit 0)))
 (.seq (.block 1 (.seq (.reg (tm 17 (.t 0) (tm 18 (.t 5) (tq 19 (.iaddr 8 (.t 17) (.t 18)) (tq 20 (.load 8 true (.t 19)) (tm 21 (.t 1) (tm 22 (.t 5) (tq 23 (.iaddr 8 (.t 21) (.t 22)) (tq 24 (.load 8 true (.t 23)) (.l ⟨(some 25),none,.call 211 [(.t 20),(.t 24)]⟩ []
 (tq 26 (.not (.t 25)) .done) .non))))))))))
 (.cond (.t 26) (.seq (.reg (tm 4 (.c (.bool false)) .done))
 .ret)
 .skip)))
 (.reg (tm 15 (.t 5) (tq 16 (.bin .add (.t 15) (.c (.int .i64 1))) (tm 5 (.t 16) .done)))))))))
 (.cut (.seq (.reg (tm 4 (.c (.bool true)) .done))
 .ret)))))
theorem fc181:fcomp Tryz.prog Tryz.f181 = some (c181.erase,[.mov (.t 4)],27):=by kernel_rfl
def laws_eqColumnS_L1 (b_2:(List GColumn)):List GColumn → Nat → Option (Fl Bool Unit)
  | [],i_25 =>
    some (.go ())
  | x_43 :: xs,i_25 =>
    (idx b_2 (i_25:Int)).bind fun x_46 =>
    (laws_eqColumn x_43 x_46).bind fun r_48 =>
    if (!r_48) then
    some (.ret false)
    else
    laws_eqColumnS_L1 b_2 xs (i_25 + 1)

def laws_eqColumnS (a_1:(List GColumn)) (b_2:(List GColumn)):Option Bool :=
    if ((a_1.length:Int) != (b_2.length:Int)) then
    some false
    else
    (laws_eqColumnS_L1 b_2 a_1 0).bind fun q => (match q with
    | .ret r => some r
    | .go _ =>
    some true)
theorem w_laws_eqColumnS (a_1:(List GColumn)) (b_2:(List GColumn)) (r:Bool) (hf:laws_eqColumnS a_1 b_2 = some r):CallOK Tryz.prog 181 .flat [(.lst 8 (a_1.map encGColumn)),(.lst 8 (b_2.map encGColumn))] (.bool r):=by
 refine CallOK.of_awp mixed Tryz.func181 fc181 nle ?_;rw [argT_eq];unfold laws_eqColumnS at hf;unfold c181;refine (show awp Tryz.prog false 0 _ (ofL [(0,(.lst 8 (a_1.map encGColumn))),(1,(.lst 8 (b_2.map encGColumn)))]) [] _ from ?_);refine sr<|s_mov (.bool false) rfl<|dk<|awp_seq<|sr<|s_mov (.lst 8 (a_1.map encGColumn)) rfl<|s_dof (o_len (enc:=encGColumn) rfl) fun hl3 => s_mov (.lst 8 (b_2.map encGColumn)) rfl<|s_dof (o_len (enc:=encGColumn) rfl) fun hl4 => s_q (.bool ((a_1.length:Int) != (b_2.length:Int))) rfl rfl rfl<|dk<|?_
 rcases oi hf with ⟨c5,hf⟩ | ⟨c5,hf⟩
 ·refine w_condt rfl c5<|sr<|s_mov (.bool false) rfl<|dk<|w_ret<|?_;obtain rfl:=os hf;exact r_flat ⟨trivial,trivial⟩ rfl (.refl _)
 ·refine w_condf rfl (bf c5)<|w_skip<|k_seq<|awp_seq<|sr<|s_mov (.int .i64 0) rfl<|dk<|?_
  obtain ⟨p36,hb1,hf⟩:=ob hf
  refine awp_cutx (X:={q:Unit // p36 = .go q}) (fun q => ([],[])) ?_ ?_
  ·refine awp_loop (X:={q:Nat // laws_eqColumnS_L1 b_2 (a_1.drop q) q = some p36}) (fun q => ([(0,(.lst 8 (a_1.map encGColumn))),(1,(.lst 8 (b_2.map encGColumn))),(5,(.int .i64 (q.1:Int)))],[])) (fun q => a_1.length - q.1) ⟨0,hb1⟩ ⟨[],[],_,_,rfl,rfl,⟨.refl _,⟨.refl _,⟨.refl _,trivial⟩⟩⟩,(.refl _)⟩ ?_
   rintro ⟨i_25,hc1⟩
   have hc1:laws_eqColumnS_L1 b_2 (a_1.drop i_25) i_25 = some p36:=hc1
   refine (show awp Tryz.prog false 0 _ (ofL [(0,(.lst 8 (a_1.map encGColumn))),(1,(.lst 8 (b_2.map encGColumn))),(5,(.int .i64 (i_25:Int)))]) [] _ from ?_)
   rcases dropc a_1 i_25 with ⟨hie39,hd42⟩ | ⟨hlt37,x_43,hx38,hd42⟩
   ·rw [hd42,laws_eqColumnS_L1.eq_1] at hc1
    have hq41:=dlf hie39
    refine awp_seq<|sr<|s_mov (.int .i64 (i_25:Int)) rfl<|s_mov (.lst 8 (a_1.map encGColumn)) rfl<|s_dof (o_len (enc:=encGColumn) rfl) fun hl44 => s_q (.bool (decide ((i_25:Int) < (a_1.length:Int)))) rfl rfl rfl<|dk<|w_condf rfl hq41<|w_exit<|k_seqx<|k_loopx<|k_blkx<|?_;obtain rfl:=os hc1;exact k_cutn ⟨_,rfl⟩ ⟨[],[],_,_,rfl,rfl,trivial,(.refl _)⟩
   ·rw [hd42,laws_eqColumnS_L1.eq_2] at hc1
    have hq41:=dlt hlt37
    refine awp_seq<|sr<|s_mov (.int .i64 (i_25:Int)) rfl<|s_mov (.lst 8 (a_1.map encGColumn)) rfl<|s_dof (o_len (enc:=encGColumn) rfl) fun hl45 => s_q (.bool (decide ((i_25:Int) < (a_1.length:Int)))) rfl rfl rfl<|dk<|w_condt rfl hq41<|w_skip<|k_seq<|awp_seq<|w_blk<|sr<|?_
    obtain ⟨x_46,ex47,hc1⟩:=ob hc1
    obtain ⟨r_48,er49,hc1⟩:=ob hc1
    refine s_mov (.lst 8 (a_1.map encGColumn)) rfl<|s_mov (.int .i64 (i_25:Int)) rfl<|s_do (o_iaddrn (enc:=encGColumn) rfl rfl hx38)<|s_q (encGColumn x_43) rfl nle rfl<|s_mov (.lst 8 (b_2.map encGColumn)) rfl<|s_mov (.int .i64 (i_25:Int)) rfl<|s_do (o_iaddr (enc:=encGColumn) rfl rfl (idx0 ex47) (idx1 ex47))<|s_q (encGColumn x_46) rfl nle rfl<|s_dol (o_call (w_laws_eqColumn _ _ _ er49) rfl (.refl _) rfl) a_same trivial<|s_q (.bool (!r_48)) rfl trivial rfl<|dk<|?_
    rcases oi hc1 with ⟨c50,hc1⟩ | ⟨c50,hc1⟩
    ·refine w_condt rfl c50<|sr<|s_mov (.bool false) rfl<|dk<|w_ret<|?_;obtain rfl:=os hc1;obtain rfl:=os hf;exact r_flat ⟨trivial,trivial⟩ rfl (.refl _)
    ·refine w_condf rfl (bf c50)<|w_skip<|k_blk<|k_seq<|w_reg<|s_mov (.int .i64 (i_25:Int)) rfl<|s_q (.int .i64 (w64 ((i_25:Int) + 1))) rfl rfl rfl<|s_mov (.int .i64 (w64 ((i_25:Int) + 1))) rfl<|w_done<|?_;exact k_loopn ⟨(i_25 + 1),hc1⟩ (mul hlt37) ⟨[],[],_,_,rfl,rfl,⟨.refl _,⟨.refl _,⟨.of_eq (congrArg (AV.int _) (w64_incr hlt37 hl45)),trivial⟩⟩⟩,(.refl _)⟩
  ·rintro ⟨_,rfl⟩
   refine sr<|s_mov (.bool true) rfl<|dk<|w_ret<|?_;obtain rfl:=os hf;exact r_flat ⟨trivial,trivial⟩ rfl (.refl _)

/- laws.eqIntS -/
def c182:ACode :=
 (.seq (.reg (tm 4 (.c (.bool false)) .done))
 (.seq (.seq (.reg (tm 6 (.t 0) (tq 7 (.len (.t 6)) (tm 8 (.t 1) (tq 9 (.len (.t 8)) (tq 10 (.bin .neq (.t 7) (.t 9)) .done))))))
 (.cond (.t 10) (.seq (.reg (tm 4 (.c (.bool false)) .done))
 .ret)
 .skip))
 (.seq (.seq (.reg (tm 5 (.c (.int .i64 0)) .done))
 (.block 0 (.loop (.seq (.seq (.reg (tm 11 (.t 5) (tm 12 (.t 0) (tq 13 (.len (.t 12)) (tq 14 (.bin .lss (.t 11) (.t 13)) .done)))))
 (.cond (.t 14) .skip
 (.exit 0)))
 (.seq (.block 1 (.seq (.reg (tm 17 (.t 0) (tm 18 (.t 5) (tq 19 (.iaddr 1 (.t 17) (.t 18)) (tq 20 (.load 1 false (.t 19)) (tm 21 (.t 1) (tm 22 (.t 5) (tq 23 (.iaddr 1 (.t 21) (.t 22)) (tq 24 (.load 1 false (.t 23)) (tq 25 (.bin .neq (.t 20) (.t 24)) .done))))))))))
 (.cond (.t 25) (.seq (.reg (tm 4 (.c (.bool false)) .done))
 .ret)
 .skip)))
 (.reg (tm 15 (.t 5) (tq 16 (.bin .add (.t 15) (.c (.int .i64 1))) (tm 5 (.t 16) .done)))))))))
 (.cut (.seq (.reg (tm 4 (.c (.bool true)) .done))
 .ret)))))
theorem fc182:fcomp Tryz.prog Tryz.f182 = some (c182.erase,[.mov (.t 4)],26):=by kernel_rfl
def laws_eqIntS_L1 (b_2:(List Int)):List Int → Nat → Option (Fl Bool Unit)
  | [],i_21 =>
    some (.go ())
  | x_37 :: xs,i_21 =>
    (idx b_2 (i_21:Int)).bind fun x_40 =>
    if (x_37 != x_40) then
    some (.ret false)
    else
    laws_eqIntS_L1 b_2 xs (i_21 + 1)

def laws_eqIntS (a_1:(List Int)) (b_2:(List Int)):Option Bool :=
    if ((a_1.length:Int) != (b_2.length:Int)) then
    some false
    else
    (laws_eqIntS_L1 b_2 a_1 0).bind fun q => (match q with
    | .ret r => some r
    | .go _ =>
    some true)
theorem w_laws_eqIntS (a_1:(List Int)) (b_2:(List Int)) (r:Bool) (hf:laws_eqIntS a_1 b_2 = some r):CallOK Tryz.prog 182 .flat [(.lst 1 (a_1.map encI)),(.lst 1 (b_2.map encI))] (.bool r):=by
 refine CallOK.of_awp mixed Tryz.func182 fc182 nle ?_;rw [argT_eq];unfold laws_eqIntS at hf;unfold c182;refine (show awp Tryz.prog false 0 _ (ofL [(0,(.lst 1 (a_1.map encI))),(1,(.lst 1 (b_2.map encI)))]) [] _ from ?_);refine sr<|s_mov (.bool false) rfl<|dk<|awp_seq<|sr<|s_mov (.lst 1 (a_1.map encI)) rfl<|s_dof (o_len (enc:=encI) rfl) fun hl3 => s_mov (.lst 1 (b_2.map encI)) rfl<|s_dof (o_len (enc:=encI) rfl) fun hl4 => s_q (.bool ((a_1.length:Int) != (b_2.length:Int))) rfl rfl rfl<|dk<|?_
 rcases oi hf with ⟨c5,hf⟩ | ⟨c5,hf⟩
 ·refine w_condt rfl c5<|sr<|s_mov (.bool false) rfl<|dk<|w_ret<|?_;obtain rfl:=os hf;exact r_flat ⟨trivial,trivial⟩ rfl (.refl _)
 ·refine w_condf rfl (bf c5)<|w_skip<|k_seq<|awp_seq<|sr<|s_mov (.int .i64 0) rfl<|dk<|?_
  obtain ⟨p30,hb1,hf⟩:=ob hf
  refine awp_cutx (X:={q:Unit // p30 = .go q}) (fun q => ([],[])) ?_ ?_
  ·refine awp_loop (X:={q:Nat // laws_eqIntS_L1 b_2 (a_1.drop q) q = some p30}) (fun q => ([(0,(.lst 1 (a_1.map encI))),(1,(.lst 1 (b_2.map encI))),(5,(.int .i64 (q.1:Int)))],[])) (fun q => a_1.length - q.1) ⟨0,hb1⟩ ⟨[],[],_,_,rfl,rfl,⟨.refl _,⟨.refl _,⟨.refl _,trivial⟩⟩⟩,(.refl _)⟩ ?_
   rintro ⟨i_21,hc1⟩
   have hc1:laws_eqIntS_L1 b_2 (a_1.drop i_21) i_21 = some p30:=hc1
   refine (show awp Tryz.prog false 0 _ (ofL [(0,(.lst 1 (a_1.map encI))),(1,(.lst 1 (b_2.map encI))),(5,(.int .i64 (i_21:Int)))]) [] _ from ?_)
   rcases dropc a_1 i_21 with ⟨hie33,hd36⟩ | ⟨hlt31,x_37,hx32,hd36⟩
   ·rw [hd36,laws_eqIntS_L1.eq_1] at hc1
    have hq35:=dlf hie33
    refine awp_seq<|sr<|s_mov (.int .i64 (i_21:Int)) rfl<|s_mov (.lst 1 (a_1.map encI)) rfl<|s_dof (o_len (enc:=encI) rfl) fun hl38 => s_q (.bool (decide ((i_21:Int) < (a_1.length:Int)))) rfl rfl rfl<|dk<|w_condf rfl hq35<|w_exit<|k_seqx<|k_loopx<|k_blkx<|?_;obtain rfl:=os hc1;exact k_cutn ⟨_,rfl⟩ ⟨[],[],_,_,rfl,rfl,trivial,(.refl _)⟩
   ·rw [hd36,laws_eqIntS_L1.eq_2] at hc1
    have hq35:=dlt hlt31
    refine awp_seq<|sr<|s_mov (.int .i64 (i_21:Int)) rfl<|s_mov (.lst 1 (a_1.map encI)) rfl<|s_dof (o_len (enc:=encI) rfl) fun hl39 => s_q (.bool (decide ((i_21:Int) < (a_1.length:Int)))) rfl rfl rfl<|dk<|w_condt rfl hq35<|w_skip<|k_seq<|awp_seq<|w_blk<|sr<|?_
    obtain ⟨x_40,ex41,hc1⟩:=ob hc1
    refine s_mov (.lst 1 (a_1.map encI)) rfl<|s_mov (.int .i64 (i_21:Int)) rfl<|s_do (o_iaddrn (enc:=encI) rfl rfl hx32)<|s_q (.int .i64 x_37) rfl ⟨rfl,rfl⟩ rfl<|s_mov (.lst 1 (b_2.map encI)) rfl<|s_mov (.int .i64 (i_21:Int)) rfl<|s_do (o_iaddr (enc:=encI) rfl rfl (idx0 ex41) (idx1 ex41))<|s_q (.int .i64 x_40) rfl ⟨rfl,rfl⟩ rfl<|s_q (.bool (x_37 != x_40)) rfl rfl rfl<|dk<|?_
    rcases oi hc1 with ⟨c42,hc1⟩ | ⟨c42,hc1⟩
    ·refine w_condt rfl c42<|sr<|s_mov (.bool false) rfl<|dk<|w_ret<|?_;obtain rfl:=os hc1;obtain rfl:=os hf;exact r_flat ⟨trivial,trivial⟩ rfl (.refl _)
    ·refine w_condf rfl (bf c42)<|w_skip<|k_blk<|k_seq<|w_reg<|s_mov (.int .i64 (i_21:Int)) rfl<|s_q (.int .i64 (w64 ((i_21:Int) + 1))) rfl rfl rfl<|s_mov (.int .i64 (w64 ((i_21:Int) + 1))) rfl<|w_done<|?_;exact k_loopn ⟨(i_21 + 1),hc1⟩ (mul hlt31) ⟨[],[],_,_,rfl,rfl,⟨.refl _,⟨.refl _,⟨.of_eq (congrArg (AV.int _) (w64_incr hlt31 hl39)),trivial⟩⟩⟩,(.refl _)⟩
  ·rintro ⟨_,rfl⟩
   refine sr<|s_mov (.bool true) rfl<|dk<|w_ret<|?_;obtain rfl:=os hf;exact r_flat ⟨trivial,trivial⟩ rfl (.refl _)

/- laws.eqTable -/
def c130:ACode :=
 (.seq (.reg (tq 2 (.box 4 (.t 0)) (tq 3 (.box 4 (.t 1)) (tm 4 (.c (.bool false)) .done))))
 (.seq (.seq (.reg (tq 5 (.faddr 0 (.t 2)) (tq 6 (.load 1 false (.t 5)) (tq 7 (.faddr 0 (.t 3)) (tq 8 (.load 1 false (.t 7)) (tq 9 (.bin .neq (.t 6) (.t 8)) .done))))))
 (.cond (.t 9) (.seq (.reg (tm 4 (.c (.bool false)) .done))
 .ret)
 .skip))
 (.seq (.seq (.reg (tq 10 (.faddr 1 (.t 2)) (tq 11 (.load 1 false (.t 10)) (tq 12 (.faddr 1 (.t 3)) (tq 13 (.load 1 false (.t 12)) (tq 14 (.call 181 [(.t 11),(.t 13)]) (tq 15 (.not (.t 14)) .done)))))))
 (.cond (.t 15) (.seq (.reg (tm 4 (.c (.bool false)) .done))
 .ret)
 .skip))
 (.seq (.seq (.reg (tq 16 (.faddr 2 (.t 2)) (tq 17 (.load 1 false (.t 16)) (tq 18 (.faddr 2 (.t 3)) (tq 19 (.load 1 false (.t 18)) (tq 20 (.call 182 [(.t 17),(.t 19)]) (tq 21 (.not (.t 20)) .done)))))))
 (.cond (.t 21) (.seq (.reg (tm 4 (.c (.bool false)) .done))
 .ret)
 .skip))
 (.seq (.seq (.reg (tq 22 (.faddr 3 (.t 2)) (tq 23 (.load 1 false (.t 22)) (tq 24 (.faddr 3 (.t 3)) (tq 25 (.load 1 false (.t 24)) (tq 26 (.eqB true (.t 23) (.t 25)) .done))))))
 (.cond (.t 26) (.seq (.reg (tm 4 (.c (.bool false)) .done))
 .ret)
 .skip))
 (.seq (.reg (tm 4 (.c (.bool true)) .done))
 .ret))))))
theorem fc130:fcomp Tryz.prog Tryz.f130 = some (c130.erase,[.mov (.t 4)],27):=by kernel_rfl
def laws_eqTable (a_1:GTable) (b_2:GTable):Option Bool :=
    if (!(a_1.Name == b_2.Name)) then
    some false
    else
    (laws_eqColumnS a_1.Columns b_2.Columns).bind fun r_4 =>
    if (!r_4) then
    some false
    else
    (laws_eqIntS a_1.Unique b_2.Unique).bind fun r_7 =>
    if (!r_7) then
    some false
    else
    if (!(a_1.Root == b_2.Root)) then
    some false
    else
    some true
theorem w_laws_eqTable (a_1:GTable) (b_2:GTable) (r:Bool) (hf:laws_eqTable a_1 b_2 = some r):CallOK Tryz.prog 130 .flat [(encGTable a_1),(encGTable b_2)] (.bool r):=by
 refine CallOK.of_awp mixed Tryz.func130 fc130 nle ?_;rw [argT_eq];unfold laws_eqTable at hf;unfold c130;refine (show awp Tryz.prog false 0 _ (ofL [(0,(encGTable a_1)),(1,(encGTable b_2))]) [] _ from ?_);refine sr<|s_do (o_box (j:=0) (c:=(.agg [(.str a_1.Name),(.lst 8 (a_1.Columns.map encGColumn)),(.lst 1 (a_1.Unique.map encI)),(.bool a_1.Root)])) rfl trivial rfl rfl)<|s_do (o_box (j:=1) (c:=(.agg [(.str b_2.Name),(.lst 8 (b_2.Columns.map encGColumn)),(.lst 1 (b_2.Unique.map encI)),(.bool b_2.Root)])) rfl trivial rfl rfl)<|s_mov (.bool false) rfl<|dk<|awp_seq<|sr<|s_q (.ptr 0 0 0) rfl trivial rfl<|s_q (.str a_1.Name) rfl nle rfl<|s_q (.ptr 1 0 0) rfl trivial rfl<|?_
 refine s_q (.str b_2.Name) rfl nle rfl<|s_q (.bool (!(a_1.Name == b_2.Name))) rfl trivial rfl<|dk<|?_
 rcases oi hf with ⟨c3,hf⟩ | ⟨c3,hf⟩
 ·refine w_condt rfl c3<|sr<|s_mov (.bool false) rfl<|dk<|w_ret<|?_;obtain rfl:=os hf;exact r_flat ⟨trivial,trivial⟩ rfl (.refl _)
 ·refine w_condf rfl (bf c3)<|w_skip<|k_seq<|awp_seq<|sr<|?_
  obtain ⟨r_4,er5,hf⟩:=ob hf
  refine s_q (.ptr 0 0 1) rfl trivial rfl<|s_q (.lst 8 (a_1.Columns.map encGColumn)) rfl nle rfl<|s_q (.ptr 1 0 1) rfl trivial rfl<|s_q (.lst 8 (b_2.Columns.map encGColumn)) rfl nle rfl<|s_do (o_call (w_laws_eqColumnS _ _ _ er5) rfl (.refl _) rfl)<|s_q (.bool (!r_4)) rfl trivial rfl<|dk<|?_
  rcases oi hf with ⟨c6,hf⟩ | ⟨c6,hf⟩
  ·refine w_condt rfl c6<|sr<|s_mov (.bool false) rfl<|dk<|w_ret<|?_;obtain rfl:=os hf;exact r_flat ⟨trivial,trivial⟩ rfl (.refl _)
  ·refine w_condf rfl (bf c6)<|w_skip<|k_seq<|awp_seq<|sr<|?_
   obtain ⟨r_7,er8,hf⟩:=ob hf
   refine s_q (.ptr 0 0 2) rfl trivial rfl<|s_q (.lst 1 (a_1.Unique.map encI)) rfl nle rfl<|s_q (.ptr 1 0 2) rfl trivial rfl<|s_q (.lst 1 (b_2.Unique.map encI)) rfl nle rfl<|s_do (o_call (w_laws_eqIntS _ _ _ er8) rfl (.refl _) rfl)<|s_q (.bool (!r_7)) rfl trivial rfl<|dk<|?_
   rcases oi hf with ⟨c9,hf⟩ | ⟨c9,hf⟩
   ·refine w_condt rfl c9<|sr<|s_mov (.bool false) rfl<|dk<|w_ret<|?_;obtain rfl:=os hf;exact r_flat ⟨trivial,trivial⟩ rfl (.refl _)
   ·refine w_condf rfl (bf c9)<|w_skip<|k_seq<|awp_seq<|sr<|s_q (.ptr 0 0 3) rfl trivial rfl<|s_q (.bool a_1.Root) rfl nle rfl<|s_q (.ptr 1 0 3) rfl trivial rfl<|s_q (.bool b_2.Root) rfl nle rfl<|s_q (.bool (!(a_1.Root == b_2.Root))) rfl trivial rfl<|dk<|?_
    rcases oi hf with ⟨c10,hf⟩ | ⟨c10,hf⟩
    ·refine w_condt rfl c10<|sr<|s_mov (.bool false) rfl<|dk<|w_ret<|?_;obtain rfl:=os hf;exact r_flat ⟨trivial,trivial⟩ rfl (.refl _)
    ·refine w_condf rfl (bf c10)<|w_skip<|k_seq<|sr<|s_mov (.bool true) rfl<|dk<|w_ret<|?_;obtain rfl:=os hf;exact r_flat ⟨trivial,trivial⟩ rfl (.refl _)

/- laws.eqTableS -/
def c58:ACode :=
 (.seq (.reg (tm 4 (.c (.bool false)) .done))
 (.seq (.seq (.reg (tm 6 (.t 0) (tq 7 (.len (.t 6)) (tm 8 (.t 1) (tq 9 (.len (.t 8)) (tq 10 (.bin .neq (.t 7) (.t 9)) .done))))))
 (.cond (.t 10) (.seq (.reg (tm 4 (.c (.bool false)) .done))
 .ret)
 .skip))
 (.seq (.seq (.reg (tm 5 (.c (.int .i64 0)) .done))
 (.block 0 (.loop (.seq (.seq (.reg (tm 11 (.t 5) (tm 12 (.t 0) (tq 13 (.len (.t 12)) (tq 14 (.bin .lss (.t 11) (.t 13)) .done)))))
 (.cond (.t 14) .skip
 (.exit 0)))
 (.seq (.block 1 (.seq (.reg (tm 17 (.t 0) (tm 18 (.t 5) (tq 19 (.iaddr 4 (.t 17) (.t 18)) (tq 20 (.load 4 true (.t 19)) (tm 21 (.t 1) (tm 22 (.t 5) (tq 23 (.iaddr 4 (.t 21) (.t 22)) (tq 24 (.load 4 true (.t 23)) (.l ⟨(some 25),none,.call 130 [(.t 20),(.t 24)]⟩ []
 (tq 26 (.not (.t 25)) .done) .non))))))))))
 (.cond (.t 26) (.seq (.reg (tm 4 (.c (.bool false)) .done))
 .ret)
 .skip)))
 (.reg (tm 15 (.t 5) (tq 16 (.bin .add (.t 15) (.c (.int .i64 1))) (tm 5 (.t 16) .done)))))))))
 (.cut (.seq (.reg (tm 4 (.c (.bool true)) .done))
 .ret)))))
theorem fc58:fcomp Tryz.prog Tryz.f58 = some (c58.erase,[.mov (.t 4)],27):=by kernel_rfl
def laws_eqTableS_L1 (b_2:(List GTable)):List GTable → Nat → Option (Fl Bool Unit)
  | [],i_25 =>
    some (.go ())
  | x_43 :: xs,i_25 =>
    (idx b_2 (i_25:Int)).bind fun x_46 =>
    (laws_eqTable x_43 x_46).bind fun r_48 =>
    if (!r_48) then
    some (.ret false)
    else
    laws_eqTableS_L1 b_2 xs (i_25 + 1)

def laws_eqTableS (a_1:(List GTable)) (b_2:(List GTable)):Option Bool :=
    if ((a_1.length:Int) != (b_2.length:Int)) then
    some false
    else
    (laws_eqTableS_L1 b_2 a_1 0).bind fun q => (match q with
    | .ret r => some r
    | .go _ =>
    some true)
theorem w_laws_eqTableS (a_1:(List GTable)) (b_2:(List GTable)) (r:Bool) (hf:laws_eqTableS a_1 b_2 = some r):CallOK Tryz.prog 58 .flat [(.lst 4 (a_1.map encGTable)),(.lst 4 (b_2.map encGTable))] (.bool r):=by
 refine CallOK.of_awp mixed Tryz.func58 fc58 nle ?_;rw [argT_eq];unfold laws_eqTableS at hf;unfold c58;refine (show awp Tryz.prog false 0 _ (ofL [(0,(.lst 4 (a_1.map encGTable))),(1,(.lst 4 (b_2.map encGTable)))]) [] _ from ?_);refine sr<|s_mov (.bool false) rfl<|dk<|awp_seq<|sr<|s_mov (.lst 4 (a_1.map encGTable)) rfl<|s_dof (o_len (enc:=encGTable) rfl) fun hl3 => s_mov (.lst 4 (b_2.map encGTable)) rfl<|s_dof (o_len (enc:=encGTable) rfl) fun hl4 => s_q (.bool ((a_1.length:Int) != (b_2.length:Int))) rfl rfl rfl<|dk<|?_
 rcases oi hf with ⟨c5,hf⟩ | ⟨c5,hf⟩
 ·refine w_condt rfl c5<|sr<|s_mov (.bool false) rfl<|dk<|w_ret<|?_;obtain rfl:=os hf;exact r_flat ⟨trivial,trivial⟩ rfl (.refl _)
 ·refine w_condf rfl (bf c5)<|w_skip<|k_seq<|awp_seq<|sr<|s_mov (.int .i64 0) rfl<|dk<|?_
  obtain ⟨p36,hb1,hf⟩:=ob hf
  refine awp_cutx (X:={q:Unit // p36 = .go q}) (fun q => ([],[])) ?_ ?_
  ·refine awp_loop (X:={q:Nat // laws_eqTableS_L1 b_2 (a_1.drop q) q = some p36}) (fun q => ([(0,(.lst 4 (a_1.map encGTable))),(1,(.lst 4 (b_2.map encGTable))),(5,(.int .i64 (q.1:Int)))],[])) (fun q => a_1.length - q.1) ⟨0,hb1⟩ ⟨[],[],_,_,rfl,rfl,⟨.refl _,⟨.refl _,⟨.refl _,trivial⟩⟩⟩,(.refl _)⟩ ?_
   rintro ⟨i_25,hc1⟩
   have hc1:laws_eqTableS_L1 b_2 (a_1.drop i_25) i_25 = some p36:=hc1
   refine (show awp Tryz.prog false 0 _ (ofL [(0,(.lst 4 (a_1.map encGTable))),(1,(.lst 4 (b_2.map encGTable))),(5,(.int .i64 (i_25:Int)))]) [] _ from ?_)
   rcases dropc a_1 i_25 with ⟨hie39,hd42⟩ | ⟨hlt37,x_43,hx38,hd42⟩
   ·rw [hd42,laws_eqTableS_L1.eq_1] at hc1
    have hq41:=dlf hie39
    refine awp_seq<|sr<|s_mov (.int .i64 (i_25:Int)) rfl<|s_mov (.lst 4 (a_1.map encGTable)) rfl<|s_dof (o_len (enc:=encGTable) rfl) fun hl44 => s_q (.bool (decide ((i_25:Int) < (a_1.length:Int)))) rfl rfl rfl<|dk<|w_condf rfl hq41<|w_exit<|k_seqx<|k_loopx<|k_blkx<|?_;obtain rfl:=os hc1;exact k_cutn ⟨_,rfl⟩ ⟨[],[],_,_,rfl,rfl,trivial,(.refl _)⟩
   ·rw [hd42,laws_eqTableS_L1.eq_2] at hc1
    have hq41:=dlt hlt37
    refine awp_seq<|sr<|s_mov (.int .i64 (i_25:Int)) rfl<|s_mov (.lst 4 (a_1.map encGTable)) rfl<|s_dof (o_len (enc:=encGTable) rfl) fun hl45 => s_q (.bool (decide ((i_25:Int) < (a_1.length:Int)))) rfl rfl rfl<|dk<|w_condt rfl hq41<|w_skip<|k_seq<|awp_seq<|w_blk<|sr<|?_
    obtain ⟨x_46,ex47,hc1⟩:=ob hc1
    obtain ⟨r_48,er49,hc1⟩:=ob hc1
    refine s_mov (.lst 4 (a_1.map encGTable)) rfl<|s_mov (.int .i64 (i_25:Int)) rfl<|s_do (o_iaddrn (enc:=encGTable) rfl rfl hx38)<|s_q (encGTable x_43) rfl nle rfl<|s_mov (.lst 4 (b_2.map encGTable)) rfl<|s_mov (.int .i64 (i_25:Int)) rfl<|s_do (o_iaddr (enc:=encGTable) rfl rfl (idx0 ex47) (idx1 ex47))<|s_q (encGTable x_46) rfl nle rfl<|s_dol (o_call (w_laws_eqTable _ _ _ er49) rfl (.refl _) rfl) a_same trivial<|s_q (.bool (!r_48)) rfl trivial rfl<|dk<|?_
    rcases oi hc1 with ⟨c50,hc1⟩ | ⟨c50,hc1⟩
    ·refine w_condt rfl c50<|sr<|s_mov (.bool false) rfl<|dk<|w_ret<|?_;obtain rfl:=os hc1;obtain rfl:=os hf;exact r_flat ⟨trivial,trivial⟩ rfl (.refl _)
    ·refine w_condf rfl (bf c50)<|w_skip<|k_blk<|k_seq<|w_reg<|s_mov (.int .i64 (i_25:Int)) rfl<|s_q (.int .i64 (w64 ((i_25:Int) + 1))) rfl rfl rfl<|s_mov (.int .i64 (w64 ((i_25:Int) + 1))) rfl<|w_done<|?_;exact k_loopn ⟨(i_25 + 1),hc1⟩ (mul hlt37) ⟨[],[],_,_,rfl,rfl,⟨.refl _,⟨.refl _,⟨.of_eq (congrArg (AV.int _) (w64_incr hlt37 hl45)),trivial⟩⟩⟩,(.refl _)⟩
  ·rintro ⟨_,rfl⟩
   refine sr<|s_mov (.bool true) rfl<|dk<|w_ret<|?_;obtain rfl:=os hf;exact r_flat ⟨trivial,trivial⟩ rfl (.refl _)

/- laws.eqSchema -/
def c18:ACode :=
 (.seq (.reg (tq 2 (.box 1 (.t 0)) (tq 3 (.box 1 (.t 1)) (tm 4 (.c (.bool false)) .done))))
 (.seq (.seq (.reg (tq 5 (.faddr 0 (.t 2)) (tq 6 (.load 1 false (.t 5)) (tq 7 (.faddr 0 (.t 3)) (tq 8 (.load 1 false (.t 7)) (tq 9 (.call 58 [(.t 6),(.t 8)]) (tq 10 (.not (.t 9)) .done)))))))
 (.cond (.t 10) (.seq (.reg (tm 4 (.c (.bool false)) .done))
 .ret)
 .skip))
 (.seq (.reg (tm 4 (.c (.bool true)) .done))
 .ret)))
theorem fc18:fcomp Tryz.prog Tryz.f18 = some (c18.erase,[.mov (.t 4)],11):=by kernel_rfl
def laws_eqSchema (a_1:GSchema) (b_2:GSchema):Option Bool :=
    (laws_eqTableS a_1.Tables b_2.Tables).bind fun r_3 =>
    if (!r_3) then
    some false
    else
    some true
theorem w_laws_eqSchema (a_1:GSchema) (b_2:GSchema) (r:Bool) (hf:laws_eqSchema a_1 b_2 = some r):CallOK Tryz.prog 18 .flat [(encGSchema a_1),(encGSchema b_2)] (.bool r):=by
 refine CallOK.of_awp mixed Tryz.func18 fc18 nle ?_;rw [argT_eq];unfold laws_eqSchema at hf;unfold c18;refine (show awp Tryz.prog false 0 _ (ofL [(0,(encGSchema a_1)),(1,(encGSchema b_2))]) [] _ from ?_);refine sr<|s_do (o_box (j:=0) (c:=(.agg [(.lst 4 (a_1.Tables.map encGTable))])) rfl trivial rfl rfl)<|s_do (o_box (j:=1) (c:=(.agg [(.lst 4 (b_2.Tables.map encGTable))])) rfl trivial rfl rfl)<|s_mov (.bool false) rfl<|dk<|awp_seq<|sr<|?_
 obtain ⟨r_3,er4,hf⟩:=ob hf
 refine s_q (.ptr 0 0 0) rfl trivial rfl<|s_q (.lst 4 (a_1.Tables.map encGTable)) rfl nle rfl<|s_q (.ptr 1 0 0) rfl trivial rfl<|s_q (.lst 4 (b_2.Tables.map encGTable)) rfl nle rfl<|s_do (o_call (w_laws_eqTableS _ _ _ er4) rfl (.refl _) rfl)<|s_q (.bool (!r_3)) rfl trivial rfl<|dk<|?_
 rcases oi hf with ⟨c5,hf⟩ | ⟨c5,hf⟩
 ·refine w_condt rfl c5<|sr<|s_mov (.bool false) rfl<|dk<|w_ret<|?_;obtain rfl:=os hf;exact r_flat ⟨trivial,trivial⟩ rfl (.refl _)
 ·refine w_condf rfl (bf c5)<|w_skip<|k_seq<|sr<|s_mov (.bool true) rfl<|dk<|w_ret<|?_;obtain rfl:=os hf;exact r_flat ⟨trivial,trivial⟩ rfl (.refl _)

/- laws.eqAtom -/
def c235:ACode :=
 (.seq (.reg (tq 2 (.box 3 (.t 0)) (tq 3 (.box 3 (.t 1)) (tm 4 (.c (.bool false)) .done))))
 (.seq (.seq (.reg (tq 5 (.faddr 0 (.t 2)) (tq 6 (.load 1 false (.t 5)) (tq 7 (.faddr 0 (.t 3)) (tq 8 (.load 1 false (.t 7)) (tq 9 (.bin .neq (.t 6) (.t 8)) .done))))))
 (.cond (.t 9) (.seq (.reg (tm 4 (.c (.bool false)) .done))
 .ret)
 .skip))
 (.seq (.seq (.reg (tq 10 (.faddr 1 (.t 2)) (tq 11 (.load 1 false (.t 10)) (tq 12 (.faddr 1 (.t 3)) (tq 13 (.load 1 false (.t 12)) (tq 14 (.bin .neq (.t 11) (.t 13)) .done))))))
 (.cond (.t 14) (.seq (.reg (tm 4 (.c (.bool false)) .done))
 .ret)
 .skip))
 (.seq (.seq (.reg (tq 15 (.faddr 2 (.t 2)) (tq 16 (.load 1 false (.t 15)) (tq 17 (.faddr 2 (.t 3)) (tq 18 (.load 1 false (.t 17)) (tq 19 (.bin .neq (.t 16) (.t 18)) .done))))))
 (.cond (.t 19) (.seq (.reg (tm 4 (.c (.bool false)) .done))
 .ret)
 .skip))
 (.seq (.reg (tm 4 (.c (.bool true)) .done))
 .ret)))))
theorem fc235:fcomp Tryz.prog Tryz.f235 = some (c235.erase,[.mov (.t 4)],20):=by kernel_rfl
def laws_eqAtom (a_1:GAtom) (b_2:GAtom):Option Bool :=
    if (a_1.Kind != b_2.Kind) then
    some false
    else
    if (a_1.N != b_2.N) then
    some false
    else
    if (!(a_1.T == b_2.T)) then
    some false
    else
    some true
theorem w_laws_eqAtom (a_1:GAtom) (b_2:GAtom) (r:Bool) (hf:laws_eqAtom a_1 b_2 = some r):CallOK Tryz.prog 235 .flat [(encGAtom a_1),(encGAtom b_2)] (.bool r):=by
 refine CallOK.of_awp mixed Tryz.func235 fc235 nle ?_;rw [argT_eq];unfold laws_eqAtom at hf;unfold c235;refine (show awp Tryz.prog false 0 _ (ofL [(0,(encGAtom a_1)),(1,(encGAtom b_2))]) [] _ from ?_);refine sr<|s_do (o_box (j:=0) (c:=(.agg [(.int .i64 a_1.Kind),(.int .i64 a_1.N),(.str a_1.T)])) rfl trivial rfl rfl)<|s_do (o_box (j:=1) (c:=(.agg [(.int .i64 b_2.Kind),(.int .i64 b_2.N),(.str b_2.T)])) rfl trivial rfl rfl)<|s_mov (.bool false) rfl<|dk<|awp_seq<|sr<|s_q (.ptr 0 0 0) rfl trivial rfl<|s_q (.int .i64 a_1.Kind) rfl nle rfl<|s_q (.ptr 1 0 0) rfl trivial rfl<|s_q (.int .i64 b_2.Kind) rfl nle rfl<|s_q (.bool (a_1.Kind != b_2.Kind)) rfl rfl rfl<|?_
 refine dk<|?_
 rcases oi hf with ⟨c3,hf⟩ | ⟨c3,hf⟩
 ·refine w_condt rfl c3<|sr<|s_mov (.bool false) rfl<|dk<|w_ret<|?_;obtain rfl:=os hf;exact r_flat ⟨trivial,trivial⟩ rfl (.refl _)
 ·refine w_condf rfl (bf c3)<|w_skip<|k_seq<|awp_seq<|sr<|s_q (.ptr 0 0 1) rfl trivial rfl<|s_q (.int .i64 a_1.N) rfl nle rfl<|s_q (.ptr 1 0 1) rfl trivial rfl<|s_q (.int .i64 b_2.N) rfl nle rfl<|s_q (.bool (a_1.N != b_2.N)) rfl rfl rfl<|dk<|?_
  rcases oi hf with ⟨c4,hf⟩ | ⟨c4,hf⟩
  ·refine w_condt rfl c4<|sr<|s_mov (.bool false) rfl<|dk<|w_ret<|?_;obtain rfl:=os hf;exact r_flat ⟨trivial,trivial⟩ rfl (.refl _)
  ·refine w_condf rfl (bf c4)<|w_skip<|k_seq<|awp_seq<|sr<|s_q (.ptr 0 0 2) rfl trivial rfl<|s_q (.str a_1.T) rfl nle rfl<|s_q (.ptr 1 0 2) rfl trivial rfl<|s_q (.str b_2.T) rfl nle rfl<|s_q (.bool (!(a_1.T == b_2.T))) rfl trivial rfl<|dk<|?_
   rcases oi hf with ⟨c5,hf⟩ | ⟨c5,hf⟩
   ·refine w_condt rfl c5<|sr<|s_mov (.bool false) rfl<|dk<|w_ret<|?_;obtain rfl:=os hf;exact r_flat ⟨trivial,trivial⟩ rfl (.refl _)
   ·refine w_condf rfl (bf c5)<|w_skip<|k_seq<|sr<|s_mov (.bool true) rfl<|dk<|w_ret<|?_;obtain rfl:=os hf;exact r_flat ⟨trivial,trivial⟩ rfl (.refl _)

/- laws.eqAtomS -/
def c228:ACode :=
 (.seq (.reg (tm 4 (.c (.bool false)) .done))
 (.seq (.seq (.reg (tm 6 (.t 0) (tq 7 (.len (.t 6)) (tm 8 (.t 1) (tq 9 (.len (.t 8)) (tq 10 (.bin .neq (.t 7) (.t 9)) .done))))))
 (.cond (.t 10) (.seq (.reg (tm 4 (.c (.bool false)) .done))
 .ret)
 .skip))
 (.seq (.seq (.reg (tm 5 (.c (.int .i64 0)) .done))
 (.block 0 (.loop (.seq (.seq (.reg (tm 11 (.t 5) (tm 12 (.t 0) (tq 13 (.len (.t 12)) (tq 14 (.bin .lss (.t 11) (.t 13)) .done)))))
 (.cond (.t 14) .skip
 (.exit 0)))
 (.seq (.block 1 (.seq (.reg (tm 17 (.t 0) (tm 18 (.t 5) (tq 19 (.iaddr 3 (.t 17) (.t 18)) (tq 20 (.load 3 true (.t 19)) (tm 21 (.t 1) (tm 22 (.t 5) (tq 23 (.iaddr 3 (.t 21) (.t 22)) (tq 24 (.load 3 true (.t 23)) (.l ⟨(some 25),none,.call 235 [(.t 20),(.t 24)]⟩ []
 (tq 26 (.not (.t 25)) .done) .non))))))))))
 (.cond (.t 26) (.seq (.reg (tm 4 (.c (.bool false)) .done))
 .ret)
 .skip)))
 (.reg (tm 15 (.t 5) (tq 16 (.bin .add (.t 15) (.c (.int .i64 1))) (tm 5 (.t 16) .done)))))))))
 (.cut (.seq (.reg (tm 4 (.c (.bool true)) .done))
 .ret)))))
theorem fc228:fcomp Tryz.prog Tryz.f228 = some (c228.erase,[.mov (.t 4)],27):=by kernel_rfl
def laws_eqAtomS_L1 (b_2:(List GAtom)):List GAtom → Nat → Option (Fl Bool Unit)
  | [],i_25 =>
    some (.go ())
  | x_43 :: xs,i_25 =>
    (idx b_2 (i_25:Int)).bind fun x_46 =>
    (laws_eqAtom x_43 x_46).bind fun r_48 =>
    if (!r_48) then
    some (.ret false)
    else
    laws_eqAtomS_L1 b_2 xs (i_25 + 1)

def laws_eqAtomS (a_1:(List GAtom)) (b_2:(List GAtom)):Option Bool :=
    if ((a_1.length:Int) != (b_2.length:Int)) then
    some false
    else
    (laws_eqAtomS_L1 b_2 a_1 0).bind fun q => (match q with
    | .ret r => some r
    | .go _ =>
    some true)
theorem w_laws_eqAtomS (a_1:(List GAtom)) (b_2:(List GAtom)) (r:Bool) (hf:laws_eqAtomS a_1 b_2 = some r):CallOK Tryz.prog 228 .flat [(.lst 3 (a_1.map encGAtom)),(.lst 3 (b_2.map encGAtom))] (.bool r):=by
 refine CallOK.of_awp mixed Tryz.func228 fc228 nle ?_;rw [argT_eq];unfold laws_eqAtomS at hf;unfold c228;refine (show awp Tryz.prog false 0 _ (ofL [(0,(.lst 3 (a_1.map encGAtom))),(1,(.lst 3 (b_2.map encGAtom)))]) [] _ from ?_);refine sr<|s_mov (.bool false) rfl<|dk<|awp_seq<|sr<|s_mov (.lst 3 (a_1.map encGAtom)) rfl<|s_dof (o_len (enc:=encGAtom) rfl) fun hl3 => s_mov (.lst 3 (b_2.map encGAtom)) rfl<|s_dof (o_len (enc:=encGAtom) rfl) fun hl4 => s_q (.bool ((a_1.length:Int) != (b_2.length:Int))) rfl rfl rfl<|dk<|?_
 rcases oi hf with ⟨c5,hf⟩ | ⟨c5,hf⟩
 ·refine w_condt rfl c5<|sr<|s_mov (.bool false) rfl<|dk<|w_ret<|?_;obtain rfl:=os hf;exact r_flat ⟨trivial,trivial⟩ rfl (.refl _)
 ·refine w_condf rfl (bf c5)<|w_skip<|k_seq<|awp_seq<|sr<|s_mov (.int .i64 0) rfl<|dk<|?_
  obtain ⟨p36,hb1,hf⟩:=ob hf
  refine awp_cutx (X:={q:Unit // p36 = .go q}) (fun q => ([],[])) ?_ ?_
  ·refine awp_loop (X:={q:Nat // laws_eqAtomS_L1 b_2 (a_1.drop q) q = some p36}) (fun q => ([(0,(.lst 3 (a_1.map encGAtom))),(1,(.lst 3 (b_2.map encGAtom))),(5,(.int .i64 (q.1:Int)))],[])) (fun q => a_1.length - q.1) ⟨0,hb1⟩ ⟨[],[],_,_,rfl,rfl,⟨.refl _,⟨.refl _,⟨.refl _,trivial⟩⟩⟩,(.refl _)⟩ ?_
   rintro ⟨i_25,hc1⟩
   have hc1:laws_eqAtomS_L1 b_2 (a_1.drop i_25) i_25 = some p36:=hc1
   refine (show awp Tryz.prog false 0 _ (ofL [(0,(.lst 3 (a_1.map encGAtom))),(1,(.lst 3 (b_2.map encGAtom))),(5,(.int .i64 (i_25:Int)))]) [] _ from ?_)
   rcases dropc a_1 i_25 with ⟨hie39,hd42⟩ | ⟨hlt37,x_43,hx38,hd42⟩
   ·rw [hd42,laws_eqAtomS_L1.eq_1] at hc1
    have hq41:=dlf hie39
    refine awp_seq<|sr<|s_mov (.int .i64 (i_25:Int)) rfl<|s_mov (.lst 3 (a_1.map encGAtom)) rfl<|s_dof (o_len (enc:=encGAtom) rfl) fun hl44 => s_q (.bool (decide ((i_25:Int) < (a_1.length:Int)))) rfl rfl rfl<|dk<|w_condf rfl hq41<|w_exit<|k_seqx<|k_loopx<|k_blkx<|?_;obtain rfl:=os hc1;exact k_cutn ⟨_,rfl⟩ ⟨[],[],_,_,rfl,rfl,trivial,(.refl _)⟩
   ·rw [hd42,laws_eqAtomS_L1.eq_2] at hc1
    have hq41:=dlt hlt37
    refine awp_seq<|sr<|s_mov (.int .i64 (i_25:Int)) rfl<|s_mov (.lst 3 (a_1.map encGAtom)) rfl<|s_dof (o_len (enc:=encGAtom) rfl) fun hl45 => s_q (.bool (decide ((i_25:Int) < (a_1.length:Int)))) rfl rfl rfl<|dk<|w_condt rfl hq41<|w_skip<|k_seq<|awp_seq<|w_blk<|sr<|?_
    obtain ⟨x_46,ex47,hc1⟩:=ob hc1
    obtain ⟨r_48,er49,hc1⟩:=ob hc1
    refine s_mov (.lst 3 (a_1.map encGAtom)) rfl<|s_mov (.int .i64 (i_25:Int)) rfl<|s_do (o_iaddrn (enc:=encGAtom) rfl rfl hx38)<|s_q (encGAtom x_43) rfl nle rfl<|s_mov (.lst 3 (b_2.map encGAtom)) rfl<|s_mov (.int .i64 (i_25:Int)) rfl<|s_do (o_iaddr (enc:=encGAtom) rfl rfl (idx0 ex47) (idx1 ex47))<|s_q (encGAtom x_46) rfl nle rfl<|s_dol (o_call (w_laws_eqAtom _ _ _ er49) rfl (.refl _) rfl) a_same trivial<|s_q (.bool (!r_48)) rfl trivial rfl<|dk<|?_
    rcases oi hc1 with ⟨c50,hc1⟩ | ⟨c50,hc1⟩
    ·refine w_condt rfl c50<|sr<|s_mov (.bool false) rfl<|dk<|w_ret<|?_;obtain rfl:=os hc1;obtain rfl:=os hf;exact r_flat ⟨trivial,trivial⟩ rfl (.refl _)
    ·refine w_condf rfl (bf c50)<|w_skip<|k_blk<|k_seq<|w_reg<|s_mov (.int .i64 (i_25:Int)) rfl<|s_q (.int .i64 (w64 ((i_25:Int) + 1))) rfl rfl rfl<|s_mov (.int .i64 (w64 ((i_25:Int) + 1))) rfl<|w_done<|?_;exact k_loopn ⟨(i_25 + 1),hc1⟩ (mul hlt37) ⟨[],[],_,_,rfl,rfl,⟨.refl _,⟨.refl _,⟨.of_eq (congrArg (AV.int _) (w64_incr hlt37 hl45)),trivial⟩⟩⟩,(.refl _)⟩
  ·rintro ⟨_,rfl⟩
   refine sr<|s_mov (.bool true) rfl<|dk<|w_ret<|?_;obtain rfl:=os hf;exact r_flat ⟨trivial,trivial⟩ rfl (.refl _)

/- laws.eqAtomSS -/
def c212:ACode :=
 (.seq (.reg (tm 4 (.c (.bool false)) .done))
 (.seq (.seq (.reg (tm 6 (.t 0) (tq 7 (.len (.t 6)) (tm 8 (.t 1) (tq 9 (.len (.t 8)) (tq 10 (.bin .neq (.t 7) (.t 9)) .done))))))
 (.cond (.t 10) (.seq (.reg (tm 4 (.c (.bool false)) .done))
 .ret)
 .skip))
 (.seq (.seq (.reg (tm 5 (.c (.int .i64 0)) .done))
 (.block 0 (.loop (.seq (.seq (.reg (tm 11 (.t 5) (tm 12 (.t 0) (tq 13 (.len (.t 12)) (tq 14 (.bin .lss (.t 11) (.t 13)) .done)))))
 (.cond (.t 14) .skip
 (.exit 0)))
 (.seq (.block 1 (.seq (.reg (tm 17 (.t 0) (tm 18 (.t 5) (tq 19 (.iaddr 1 (.t 17) (.t 18)) (tq 20 (.load 1 false (.t 19)) (tm 21 (.t 1) (tm 22 (.t 5) (tq 23 (.iaddr 1 (.t 21) (.t 22)) (tq 24 (.load 1 false (.t 23)) (.l ⟨(some 25),none,.call 228 [(.t 20),(.t 24)]⟩ []
 (tq 26 (.not (.t 25)) .done) .non))))))))))
 (.cond (.t 26) (.seq (.reg (tm 4 (.c (.bool false)) .done))
 .ret)
 .skip)))
 (.reg (tm 15 (.t 5) (tq 16 (.bin .add (.t 15) (.c (.int .i64 1))) (tm 5 (.t 16) .done)))))))))
 (.cut (.seq (.reg (tm 4 (.c (.bool true)) .done))
 .ret)))))
theorem fc212:fcomp Tryz.prog Tryz.f212 = some (c212.erase,[.mov (.t 4)],27):=by kernel_rfl
def laws_eqAtomSS_L1 (b_2:(List (List GAtom))):List (List GAtom) → Nat → Option (Fl Bool Unit)
  | [],i_25 =>
    some (.go ())
  | x_43 :: xs,i_25 =>
    (idx b_2 (i_25:Int)).bind fun x_46 =>
    (laws_eqAtomS x_43 x_46).bind fun r_48 =>
    if (!r_48) then
    some (.ret false)
    else
    laws_eqAtomSS_L1 b_2 xs (i_25 + 1)

def laws_eqAtomSS (a_1:(List (List GAtom))) (b_2:(List (List GAtom))):Option Bool :=
    if ((a_1.length:Int) != (b_2.length:Int)) then
    some false
    else
    (laws_eqAtomSS_L1 b_2 a_1 0).bind fun q => (match q with
    | .ret r => some r
    | .go _ =>
    some true)
theorem w_laws_eqAtomSS (a_1:(List (List GAtom))) (b_2:(List (List GAtom))) (r:Bool) (hf:laws_eqAtomSS a_1 b_2 = some r):CallOK Tryz.prog 212 .flat [(.lst 1 (a_1.map (encL 3 encGAtom))),(.lst 1 (b_2.map (encL 3 encGAtom)))] (.bool r):=by
 refine CallOK.of_awp mixed Tryz.func212 fc212 nle ?_;rw [argT_eq];unfold laws_eqAtomSS at hf;unfold c212;refine (show awp Tryz.prog false 0 _ (ofL [(0,(.lst 1 (a_1.map (encL 3 encGAtom)))),(1,(.lst 1 (b_2.map (encL 3 encGAtom))))]) [] _ from ?_);refine sr<|s_mov (.bool false) rfl<|dk<|awp_seq<|sr<|s_mov (.lst 1 (a_1.map (encL 3 encGAtom))) rfl<|s_dof (o_len (enc:=(encL 3 encGAtom)) rfl) fun hl3 => s_mov (.lst 1 (b_2.map (encL 3 encGAtom))) rfl<|s_dof (o_len (enc:=(encL 3 encGAtom)) rfl) fun hl4 => s_q (.bool ((a_1.length:Int) != (b_2.length:Int))) rfl rfl rfl<|dk<|?_
 rcases oi hf with ⟨c5,hf⟩ | ⟨c5,hf⟩
 ·refine w_condt rfl c5<|sr<|s_mov (.bool false) rfl<|dk<|w_ret<|?_;obtain rfl:=os hf;exact r_flat ⟨trivial,trivial⟩ rfl (.refl _)
 ·refine w_condf rfl (bf c5)<|w_skip<|k_seq<|awp_seq<|sr<|s_mov (.int .i64 0) rfl<|dk<|?_
  obtain ⟨p36,hb1,hf⟩:=ob hf
  refine awp_cutx (X:={q:Unit // p36 = .go q}) (fun q => ([],[])) ?_ ?_
  ·refine awp_loop (X:={q:Nat // laws_eqAtomSS_L1 b_2 (a_1.drop q) q = some p36}) (fun q => ([(0,(.lst 1 (a_1.map (encL 3 encGAtom)))),(1,(.lst 1 (b_2.map (encL 3 encGAtom)))),(5,(.int .i64 (q.1:Int)))],[])) (fun q => a_1.length - q.1) ⟨0,hb1⟩ ⟨[],[],_,_,rfl,rfl,⟨.refl _,⟨.refl _,⟨.refl _,trivial⟩⟩⟩,(.refl _)⟩ ?_
   rintro ⟨i_25,hc1⟩
   have hc1:laws_eqAtomSS_L1 b_2 (a_1.drop i_25) i_25 = some p36:=hc1
   refine (show awp Tryz.prog false 0 _ (ofL [(0,(.lst 1 (a_1.map (encL 3 encGAtom)))),(1,(.lst 1 (b_2.map (encL 3 encGAtom)))),(5,(.int .i64 (i_25:Int)))]) [] _ from ?_)
   rcases dropc a_1 i_25 with ⟨hie39,hd42⟩ | ⟨hlt37,x_43,hx38,hd42⟩
   ·rw [hd42,laws_eqAtomSS_L1.eq_1] at hc1
    have hq41:=dlf hie39
    refine awp_seq<|sr<|s_mov (.int .i64 (i_25:Int)) rfl<|s_mov (.lst 1 (a_1.map (encL 3 encGAtom))) rfl<|s_dof (o_len (enc:=(encL 3 encGAtom)) rfl) fun hl44 => s_q (.bool (decide ((i_25:Int) < (a_1.length:Int)))) rfl rfl rfl<|dk<|w_condf rfl hq41<|w_exit<|k_seqx<|k_loopx<|k_blkx<|?_;obtain rfl:=os hc1;exact k_cutn ⟨_,rfl⟩ ⟨[],[],_,_,rfl,rfl,trivial,(.refl _)⟩
   ·rw [hd42,laws_eqAtomSS_L1.eq_2] at hc1
    have hq41:=dlt hlt37
    refine awp_seq<|sr<|s_mov (.int .i64 (i_25:Int)) rfl<|s_mov (.lst 1 (a_1.map (encL 3 encGAtom))) rfl<|s_dof (o_len (enc:=(encL 3 encGAtom)) rfl) fun hl45 => s_q (.bool (decide ((i_25:Int) < (a_1.length:Int)))) rfl rfl rfl<|dk<|w_condt rfl hq41<|w_skip<|k_seq<|awp_seq<|w_blk<|sr<|?_
    obtain ⟨x_46,ex47,hc1⟩:=ob hc1
    obtain ⟨r_48,er49,hc1⟩:=ob hc1
    refine s_mov (.lst 1 (a_1.map (encL 3 encGAtom))) rfl<|s_mov (.int .i64 (i_25:Int)) rfl<|s_do (o_iaddrn (enc:=(encL 3 encGAtom)) rfl rfl hx38)<|s_q (.lst 3 (x_43.map encGAtom)) rfl ⟨rfl,rfl⟩ rfl<|s_mov (.lst 1 (b_2.map (encL 3 encGAtom))) rfl<|s_mov (.int .i64 (i_25:Int)) rfl<|s_do (o_iaddr (enc:=(encL 3 encGAtom)) rfl rfl (idx0 ex47) (idx1 ex47))<|s_q (.lst 3 (x_46.map encGAtom)) rfl ⟨rfl,rfl⟩ rfl<|s_dol (o_call (w_laws_eqAtomS _ _ _ er49) rfl (.refl _) rfl) a_same trivial<|s_q (.bool (!r_48)) rfl trivial rfl<|dk<|?_
    rcases oi hc1 with ⟨c50,hc1⟩ | ⟨c50,hc1⟩
    ·refine w_condt rfl c50<|sr<|s_mov (.bool false) rfl<|dk<|w_ret<|?_;obtain rfl:=os hc1;obtain rfl:=os hf;exact r_flat ⟨trivial,trivial⟩ rfl (.refl _)
    ·refine w_condf rfl (bf c50)<|w_skip<|k_blk<|k_seq<|w_reg<|s_mov (.int .i64 (i_25:Int)) rfl<|s_q (.int .i64 (w64 ((i_25:Int) + 1))) rfl rfl rfl<|s_mov (.int .i64 (w64 ((i_25:Int) + 1))) rfl<|w_done<|?_;exact k_loopn ⟨(i_25 + 1),hc1⟩ (mul hlt37) ⟨[],[],_,_,rfl,rfl,⟨.refl _,⟨.refl _,⟨.of_eq (congrArg (AV.int _) (w64_incr hlt37 hl45)),trivial⟩⟩⟩,(.refl _)⟩
  ·rintro ⟨_,rfl⟩
   refine sr<|s_mov (.bool true) rfl<|dk<|w_ret<|?_;obtain rfl:=os hf;exact r_flat ⟨trivial,trivial⟩ rfl (.refl _)

/- laws.eqRow -/
def c183:ACode :=
 (.seq (.reg (tq 2 (.box 2 (.t 0)) (tq 3 (.box 2 (.t 1)) (tm 4 (.c (.bool false)) .done))))
 (.seq (.seq (.reg (tq 5 (.faddr 0 (.t 2)) (tq 6 (.load 1 false (.t 5)) (tq 7 (.faddr 0 (.t 3)) (tq 8 (.load 1 false (.t 7)) (tq 9 (.bin .neq (.t 6) (.t 8)) .done))))))
 (.cond (.t 9) (.seq (.reg (tm 4 (.c (.bool false)) .done))
 .ret)
 .skip))
 (.seq (.seq (.reg (tq 10 (.faddr 1 (.t 2)) (tq 11 (.load 1 false (.t 10)) (tq 12 (.faddr 1 (.t 3)) (tq 13 (.load 1 false (.t 12)) (tq 14 (.call 212 [(.t 11),(.t 13)]) (tq 15 (.not (.t 14)) .done)))))))
 (.cond (.t 15) (.seq (.reg (tm 4 (.c (.bool false)) .done))
 .ret)
 .skip))
 (.seq (.reg (tm 4 (.c (.bool true)) .done))
 .ret))))
theorem fc183:fcomp Tryz.prog Tryz.f183 = some (c183.erase,[.mov (.t 4)],16):=by kernel_rfl
def laws_eqRow (a_1:GRow) (b_2:GRow):Option Bool :=
    if (a_1.Id != b_2.Id) then
    some false
    else
    (laws_eqAtomSS a_1.Cells b_2.Cells).bind fun r_4 =>
    if (!r_4) then
    some false
    else
    some true
theorem w_laws_eqRow (a_1:GRow) (b_2:GRow) (r:Bool) (hf:laws_eqRow a_1 b_2 = some r):CallOK Tryz.prog 183 .flat [(encGRow a_1),(encGRow b_2)] (.bool r):=by
 refine CallOK.of_awp mixed Tryz.func183 fc183 nle ?_;rw [argT_eq];unfold laws_eqRow at hf;unfold c183;refine (show awp Tryz.prog false 0 _ (ofL [(0,(encGRow a_1)),(1,(encGRow b_2))]) [] _ from ?_);refine sr<|s_do (o_box (j:=0) (c:=(.agg [(.int .i64 a_1.Id),(.lst 1 (a_1.Cells.map (encL 3 encGAtom)))])) rfl trivial rfl rfl)<|s_do (o_box (j:=1) (c:=(.agg [(.int .i64 b_2.Id),(.lst 1 (b_2.Cells.map (encL 3 encGAtom)))])) rfl trivial rfl rfl)<|s_mov (.bool false) rfl<|dk<|awp_seq<|sr<|s_q (.ptr 0 0 0) rfl trivial rfl<|s_q (.int .i64 a_1.Id) rfl nle rfl<|s_q (.ptr 1 0 0) rfl trivial rfl<|s_q (.int .i64 b_2.Id) rfl nle rfl<|s_q (.bool (a_1.Id != b_2.Id)) rfl rfl rfl<|?_
 refine dk<|?_
 rcases oi hf with ⟨c3,hf⟩ | ⟨c3,hf⟩
 ·refine w_condt rfl c3<|sr<|s_mov (.bool false) rfl<|dk<|w_ret<|?_;obtain rfl:=os hf;exact r_flat ⟨trivial,trivial⟩ rfl (.refl _)
 ·refine w_condf rfl (bf c3)<|w_skip<|k_seq<|awp_seq<|sr<|?_
  obtain ⟨r_4,er5,hf⟩:=ob hf
  refine s_q (.ptr 0 0 1) rfl trivial rfl<|s_q (.lst 1 (a_1.Cells.map (encL 3 encGAtom))) rfl nle rfl<|s_q (.ptr 1 0 1) rfl trivial rfl<|s_q (.lst 1 (b_2.Cells.map (encL 3 encGAtom))) rfl nle rfl<|s_do (o_call (w_laws_eqAtomSS _ _ _ er5) rfl (.refl _) rfl)<|s_q (.bool (!r_4)) rfl trivial rfl<|dk<|?_
  rcases oi hf with ⟨c6,hf⟩ | ⟨c6,hf⟩
  ·refine w_condt rfl c6<|sr<|s_mov (.bool false) rfl<|dk<|w_ret<|?_;obtain rfl:=os hf;exact r_flat ⟨trivial,trivial⟩ rfl (.refl _)
  ·refine w_condf rfl (bf c6)<|w_skip<|k_seq<|sr<|s_mov (.bool true) rfl<|dk<|w_ret<|?_;obtain rfl:=os hf;exact r_flat ⟨trivial,trivial⟩ rfl (.refl _)

/- laws.eqRowS -/
def c131:ACode :=
 (.seq (.reg (tm 4 (.c (.bool false)) .done))
 (.seq (.seq (.reg (tm 6 (.t 0) (tq 7 (.len (.t 6)) (tm 8 (.t 1) (tq 9 (.len (.t 8)) (tq 10 (.bin .neq (.t 7) (.t 9)) .done))))))
 (.cond (.t 10) (.seq (.reg (tm 4 (.c (.bool false)) .done))
 .ret)
 .skip))
 (.seq (.seq (.reg (tm 5 (.c (.int .i64 0)) .done))
 (.block 0 (.loop (.seq (.seq (.reg (tm 11 (.t 5) (tm 12 (.t 0) (tq 13 (.len (.t 12)) (tq 14 (.bin .lss (.t 11) (.t 13)) .done)))))
 (.cond (.t 14) .skip
 (.exit 0)))
 (.seq (.block 1 (.seq (.reg (tm 17 (.t 0) (tm 18 (.t 5) (tq 19 (.iaddr 2 (.t 17) (.t 18)) (tq 20 (.load 2 true (.t 19)) (tm 21 (.t 1) (tm 22 (.t 5) (tq 23 (.iaddr 2 (.t 21) (.t 22)) (tq 24 (.load 2 true (.t 23)) (.l ⟨(some 25),none,.call 183 [(.t 20),(.t 24)]⟩ []
 (tq 26 (.not (.t 25)) .done) .non))))))))))
 (.cond (.t 26) (.seq (.reg (tm 4 (.c (.bool false)) .done))
 .ret)
 .skip)))
 (.reg (tm 15 (.t 5) (tq 16 (.bin .add (.t 15) (.c (.int .i64 1))) (tm 5 (.t 16) .done)))))))))
 (.cut (.seq (.reg (tm 4 (.c (.bool true)) .done))
 .ret)))))
theorem fc131:fcomp Tryz.prog Tryz.f131 = some (c131.erase,[.mov (.t 4)],27):=by kernel_rfl
def laws_eqRowS_L1 (b_2:(List GRow)):List GRow → Nat → Option (Fl Bool Unit)
  | [],i_25 =>
    some (.go ())
  | x_43 :: xs,i_25 =>
    (idx b_2 (i_25:Int)).bind fun x_46 =>
    (laws_eqRow x_43 x_46).bind fun r_48 =>
    if (!r_48) then
    some (.ret false)
    else
    laws_eqRowS_L1 b_2 xs (i_25 + 1)

def laws_eqRowS (a_1:(List GRow)) (b_2:(List GRow)):Option Bool :=
    if ((a_1.length:Int) != (b_2.length:Int)) then
    some false
    else
    (laws_eqRowS_L1 b_2 a_1 0).bind fun q => (match q with
    | .ret r => some r
    | .go _ =>
    some true)
theorem w_laws_eqRowS (a_1:(List GRow)) (b_2:(List GRow)) (r:Bool) (hf:laws_eqRowS a_1 b_2 = some r):CallOK Tryz.prog 131 .flat [(.lst 2 (a_1.map encGRow)),(.lst 2 (b_2.map encGRow))] (.bool r):=by
 refine CallOK.of_awp mixed Tryz.func131 fc131 nle ?_;rw [argT_eq];unfold laws_eqRowS at hf;unfold c131;refine (show awp Tryz.prog false 0 _ (ofL [(0,(.lst 2 (a_1.map encGRow))),(1,(.lst 2 (b_2.map encGRow)))]) [] _ from ?_);refine sr<|s_mov (.bool false) rfl<|dk<|awp_seq<|sr<|s_mov (.lst 2 (a_1.map encGRow)) rfl<|s_dof (o_len (enc:=encGRow) rfl) fun hl3 => s_mov (.lst 2 (b_2.map encGRow)) rfl<|s_dof (o_len (enc:=encGRow) rfl) fun hl4 => s_q (.bool ((a_1.length:Int) != (b_2.length:Int))) rfl rfl rfl<|dk<|?_
 rcases oi hf with ⟨c5,hf⟩ | ⟨c5,hf⟩
 ·refine w_condt rfl c5<|sr<|s_mov (.bool false) rfl<|dk<|w_ret<|?_;obtain rfl:=os hf;exact r_flat ⟨trivial,trivial⟩ rfl (.refl _)
 ·refine w_condf rfl (bf c5)<|w_skip<|k_seq<|awp_seq<|sr<|s_mov (.int .i64 0) rfl<|dk<|?_
  obtain ⟨p36,hb1,hf⟩:=ob hf
  refine awp_cutx (X:={q:Unit // p36 = .go q}) (fun q => ([],[])) ?_ ?_
  ·refine awp_loop (X:={q:Nat // laws_eqRowS_L1 b_2 (a_1.drop q) q = some p36}) (fun q => ([(0,(.lst 2 (a_1.map encGRow))),(1,(.lst 2 (b_2.map encGRow))),(5,(.int .i64 (q.1:Int)))],[])) (fun q => a_1.length - q.1) ⟨0,hb1⟩ ⟨[],[],_,_,rfl,rfl,⟨.refl _,⟨.refl _,⟨.refl _,trivial⟩⟩⟩,(.refl _)⟩ ?_
   rintro ⟨i_25,hc1⟩
   have hc1:laws_eqRowS_L1 b_2 (a_1.drop i_25) i_25 = some p36:=hc1
   refine (show awp Tryz.prog false 0 _ (ofL [(0,(.lst 2 (a_1.map encGRow))),(1,(.lst 2 (b_2.map encGRow))),(5,(.int .i64 (i_25:Int)))]) [] _ from ?_)
   rcases dropc a_1 i_25 with ⟨hie39,hd42⟩ | ⟨hlt37,x_43,hx38,hd42⟩
   ·rw [hd42,laws_eqRowS_L1.eq_1] at hc1
    have hq41:=dlf hie39
    refine awp_seq<|sr<|s_mov (.int .i64 (i_25:Int)) rfl<|s_mov (.lst 2 (a_1.map encGRow)) rfl<|s_dof (o_len (enc:=encGRow) rfl) fun hl44 => s_q (.bool (decide ((i_25:Int) < (a_1.length:Int)))) rfl rfl rfl<|dk<|w_condf rfl hq41<|w_exit<|k_seqx<|k_loopx<|k_blkx<|?_;obtain rfl:=os hc1;exact k_cutn ⟨_,rfl⟩ ⟨[],[],_,_,rfl,rfl,trivial,(.refl _)⟩
   ·rw [hd42,laws_eqRowS_L1.eq_2] at hc1
    have hq41:=dlt hlt37
    refine awp_seq<|sr<|s_mov (.int .i64 (i_25:Int)) rfl<|s_mov (.lst 2 (a_1.map encGRow)) rfl<|s_dof (o_len (enc:=encGRow) rfl) fun hl45 => s_q (.bool (decide ((i_25:Int) < (a_1.length:Int)))) rfl rfl rfl<|dk<|w_condt rfl hq41<|w_skip<|k_seq<|awp_seq<|w_blk<|sr<|?_
    obtain ⟨x_46,ex47,hc1⟩:=ob hc1
    obtain ⟨r_48,er49,hc1⟩:=ob hc1
    refine s_mov (.lst 2 (a_1.map encGRow)) rfl<|s_mov (.int .i64 (i_25:Int)) rfl<|s_do (o_iaddrn (enc:=encGRow) rfl rfl hx38)<|s_q (encGRow x_43) rfl nle rfl<|s_mov (.lst 2 (b_2.map encGRow)) rfl<|s_mov (.int .i64 (i_25:Int)) rfl<|s_do (o_iaddr (enc:=encGRow) rfl rfl (idx0 ex47) (idx1 ex47))<|s_q (encGRow x_46) rfl nle rfl<|s_dol (o_call (w_laws_eqRow _ _ _ er49) rfl (.refl _) rfl) a_same trivial<|s_q (.bool (!r_48)) rfl trivial rfl<|dk<|?_
    rcases oi hc1 with ⟨c50,hc1⟩ | ⟨c50,hc1⟩
    ·refine w_condt rfl c50<|sr<|s_mov (.bool false) rfl<|dk<|w_ret<|?_;obtain rfl:=os hc1;obtain rfl:=os hf;exact r_flat ⟨trivial,trivial⟩ rfl (.refl _)
    ·refine w_condf rfl (bf c50)<|w_skip<|k_blk<|k_seq<|w_reg<|s_mov (.int .i64 (i_25:Int)) rfl<|s_q (.int .i64 (w64 ((i_25:Int) + 1))) rfl rfl rfl<|s_mov (.int .i64 (w64 ((i_25:Int) + 1))) rfl<|w_done<|?_;exact k_loopn ⟨(i_25 + 1),hc1⟩ (mul hlt37) ⟨[],[],_,_,rfl,rfl,⟨.refl _,⟨.refl _,⟨.of_eq (congrArg (AV.int _) (w64_incr hlt37 hl45)),trivial⟩⟩⟩,(.refl _)⟩
  ·rintro ⟨_,rfl⟩
   refine sr<|s_mov (.bool true) rfl<|dk<|w_ret<|?_;obtain rfl:=os hf;exact r_flat ⟨trivial,trivial⟩ rfl (.refl _)

/- laws.eqRowSS -/
def c59:ACode :=
 (.seq (.reg (tm 4 (.c (.bool false)) .done))
 (.seq (.seq (.reg (tm 6 (.t 0) (tq 7 (.len (.t 6)) (tm 8 (.t 1) (tq 9 (.len (.t 8)) (tq 10 (.bin .neq (.t 7) (.t 9)) .done))))))
 (.cond (.t 10) (.seq (.reg (tm 4 (.c (.bool false)) .done))
 .ret)
 .skip))
 (.seq (.seq (.reg (tm 5 (.c (.int .i64 0)) .done))
 (.block 0 (.loop (.seq (.seq (.reg (tm 11 (.t 5) (tm 12 (.t 0) (tq 13 (.len (.t 12)) (tq 14 (.bin .lss (.t 11) (.t 13)) .done)))))
 (.cond (.t 14) .skip
 (.exit 0)))
 (.seq (.block 1 (.seq (.reg (tm 17 (.t 0) (tm 18 (.t 5) (tq 19 (.iaddr 1 (.t 17) (.t 18)) (tq 20 (.load 1 false (.t 19)) (tm 21 (.t 1) (tm 22 (.t 5) (tq 23 (.iaddr 1 (.t 21) (.t 22)) (tq 24 (.load 1 false (.t 23)) (.l ⟨(some 25),none,.call 131 [(.t 20),(.t 24)]⟩ []
 (tq 26 (.not (.t 25)) .done) .non))))))))))
 (.cond (.t 26) (.seq (.reg (tm 4 (.c (.bool false)) .done))
 .ret)
 .skip)))
 (.reg (tm 15 (.t 5) (tq 16 (.bin .add (.t 15) (.c (.int .i64 1))) (tm 5 (.t 16) .done)))))))))
 (.cut (.seq (.reg (tm 4 (.c (.bool true)) .done))
 .ret)))))
theorem fc59:fcomp Tryz.prog Tryz.f59 = some (c59.erase,[.mov (.t 4)],27):=by kernel_rfl
def laws_eqRowSS_L1 (b_2:(List (List GRow))):List (List GRow) → Nat → Option (Fl Bool Unit)
  | [],i_25 =>
    some (.go ())
  | x_43 :: xs,i_25 =>
    (idx b_2 (i_25:Int)).bind fun x_46 =>
    (laws_eqRowS x_43 x_46).bind fun r_48 =>
    if (!r_48) then
    some (.ret false)
    else
    laws_eqRowSS_L1 b_2 xs (i_25 + 1)

def laws_eqRowSS (a_1:(List (List GRow))) (b_2:(List (List GRow))):Option Bool :=
    if ((a_1.length:Int) != (b_2.length:Int)) then
    some false
    else
    (laws_eqRowSS_L1 b_2 a_1 0).bind fun q => (match q with
    | .ret r => some r
    | .go _ =>
    some true)
theorem w_laws_eqRowSS (a_1:(List (List GRow))) (b_2:(List (List GRow))) (r:Bool) (hf:laws_eqRowSS a_1 b_2 = some r):CallOK Tryz.prog 59 .flat [(.lst 1 (a_1.map (encL 2 encGRow))),(.lst 1 (b_2.map (encL 2 encGRow)))] (.bool r):=by
 refine CallOK.of_awp mixed Tryz.func59 fc59 nle ?_;rw [argT_eq];unfold laws_eqRowSS at hf;unfold c59;refine (show awp Tryz.prog false 0 _ (ofL [(0,(.lst 1 (a_1.map (encL 2 encGRow)))),(1,(.lst 1 (b_2.map (encL 2 encGRow))))]) [] _ from ?_);refine sr<|s_mov (.bool false) rfl<|dk<|awp_seq<|sr<|s_mov (.lst 1 (a_1.map (encL 2 encGRow))) rfl<|s_dof (o_len (enc:=(encL 2 encGRow)) rfl) fun hl3 => s_mov (.lst 1 (b_2.map (encL 2 encGRow))) rfl<|s_dof (o_len (enc:=(encL 2 encGRow)) rfl) fun hl4 => s_q (.bool ((a_1.length:Int) != (b_2.length:Int))) rfl rfl rfl<|dk<|?_
 rcases oi hf with ⟨c5,hf⟩ | ⟨c5,hf⟩
 ·refine w_condt rfl c5<|sr<|s_mov (.bool false) rfl<|dk<|w_ret<|?_;obtain rfl:=os hf;exact r_flat ⟨trivial,trivial⟩ rfl (.refl _)
 ·refine w_condf rfl (bf c5)<|w_skip<|k_seq<|awp_seq<|sr<|s_mov (.int .i64 0) rfl<|dk<|?_
  obtain ⟨p36,hb1,hf⟩:=ob hf
  refine awp_cutx (X:={q:Unit // p36 = .go q}) (fun q => ([],[])) ?_ ?_
  ·refine awp_loop (X:={q:Nat // laws_eqRowSS_L1 b_2 (a_1.drop q) q = some p36}) (fun q => ([(0,(.lst 1 (a_1.map (encL 2 encGRow)))),(1,(.lst 1 (b_2.map (encL 2 encGRow)))),(5,(.int .i64 (q.1:Int)))],[])) (fun q => a_1.length - q.1) ⟨0,hb1⟩ ⟨[],[],_,_,rfl,rfl,⟨.refl _,⟨.refl _,⟨.refl _,trivial⟩⟩⟩,(.refl _)⟩ ?_
   rintro ⟨i_25,hc1⟩
   have hc1:laws_eqRowSS_L1 b_2 (a_1.drop i_25) i_25 = some p36:=hc1
   refine (show awp Tryz.prog false 0 _ (ofL [(0,(.lst 1 (a_1.map (encL 2 encGRow)))),(1,(.lst 1 (b_2.map (encL 2 encGRow)))),(5,(.int .i64 (i_25:Int)))]) [] _ from ?_)
   rcases dropc a_1 i_25 with ⟨hie39,hd42⟩ | ⟨hlt37,x_43,hx38,hd42⟩
   ·rw [hd42,laws_eqRowSS_L1.eq_1] at hc1
    have hq41:=dlf hie39
    refine awp_seq<|sr<|s_mov (.int .i64 (i_25:Int)) rfl<|s_mov (.lst 1 (a_1.map (encL 2 encGRow))) rfl<|s_dof (o_len (enc:=(encL 2 encGRow)) rfl) fun hl44 => s_q (.bool (decide ((i_25:Int) < (a_1.length:Int)))) rfl rfl rfl<|dk<|w_condf rfl hq41<|w_exit<|k_seqx<|k_loopx<|k_blkx<|?_;obtain rfl:=os hc1;exact k_cutn ⟨_,rfl⟩ ⟨[],[],_,_,rfl,rfl,trivial,(.refl _)⟩
   ·rw [hd42,laws_eqRowSS_L1.eq_2] at hc1
    have hq41:=dlt hlt37
    refine awp_seq<|sr<|s_mov (.int .i64 (i_25:Int)) rfl<|s_mov (.lst 1 (a_1.map (encL 2 encGRow))) rfl<|s_dof (o_len (enc:=(encL 2 encGRow)) rfl) fun hl45 => s_q (.bool (decide ((i_25:Int) < (a_1.length:Int)))) rfl rfl rfl<|dk<|w_condt rfl hq41<|w_skip<|k_seq<|awp_seq<|w_blk<|sr<|?_
    obtain ⟨x_46,ex47,hc1⟩:=ob hc1
    obtain ⟨r_48,er49,hc1⟩:=ob hc1
    refine s_mov (.lst 1 (a_1.map (encL 2 encGRow))) rfl<|s_mov (.int .i64 (i_25:Int)) rfl<|s_do (o_iaddrn (enc:=(encL 2 encGRow)) rfl rfl hx38)<|s_q (.lst 2 (x_43.map encGRow)) rfl ⟨rfl,rfl⟩ rfl<|s_mov (.lst 1 (b_2.map (encL 2 encGRow))) rfl<|s_mov (.int .i64 (i_25:Int)) rfl<|s_do (o_iaddr (enc:=(encL 2 encGRow)) rfl rfl (idx0 ex47) (idx1 ex47))<|s_q (.lst 2 (x_46.map encGRow)) rfl ⟨rfl,rfl⟩ rfl<|s_dol (o_call (w_laws_eqRowS _ _ _ er49) rfl (.refl _) rfl) a_same trivial<|s_q (.bool (!r_48)) rfl trivial rfl<|dk<|?_
    rcases oi hc1 with ⟨c50,hc1⟩ | ⟨c50,hc1⟩
    ·refine w_condt rfl c50<|sr<|s_mov (.bool false) rfl<|dk<|w_ret<|?_;obtain rfl:=os hc1;obtain rfl:=os hf;exact r_flat ⟨trivial,trivial⟩ rfl (.refl _)
    ·refine w_condf rfl (bf c50)<|w_skip<|k_blk<|k_seq<|w_reg<|s_mov (.int .i64 (i_25:Int)) rfl<|s_q (.int .i64 (w64 ((i_25:Int) + 1))) rfl rfl rfl<|s_mov (.int .i64 (w64 ((i_25:Int) + 1))) rfl<|w_done<|?_;exact k_loopn ⟨(i_25 + 1),hc1⟩ (mul hlt37) ⟨[],[],_,_,rfl,rfl,⟨.refl _,⟨.refl _,⟨.of_eq (congrArg (AV.int _) (w64_incr hlt37 hl45)),trivial⟩⟩⟩,(.refl _)⟩
  ·rintro ⟨_,rfl⟩
   refine sr<|s_mov (.bool true) rfl<|dk<|w_ret<|?_;obtain rfl:=os hf;exact r_flat ⟨trivial,trivial⟩ rfl (.refl _)

/- laws.eqStore -/
def c19:ACode :=
 (.seq (.reg (tq 2 (.box 2 (.t 0)) (tq 3 (.box 2 (.t 1)) (tm 4 (.c (.bool false)) .done))))
 (.seq (.seq (.reg (tq 5 (.faddr 0 (.t 2)) (tq 6 (.load 1 false (.t 5)) (tq 7 (.faddr 0 (.t 3)) (tq 8 (.load 1 false (.t 7)) (tq 9 (.call 59 [(.t 6),(.t 8)]) (tq 10 (.not (.t 9)) .done)))))))
 (.cond (.t 10) (.seq (.reg (tm 4 (.c (.bool false)) .done))
 .ret)
 .skip))
 (.seq (.seq (.reg (tq 11 (.faddr 1 (.t 2)) (tq 12 (.load 1 false (.t 11)) (tq 13 (.faddr 1 (.t 3)) (tq 14 (.load 1 false (.t 13)) (tq 15 (.bin .neq (.t 12) (.t 14)) .done))))))
 (.cond (.t 15) (.seq (.reg (tm 4 (.c (.bool false)) .done))
 .ret)
 .skip))
 (.seq (.reg (tm 4 (.c (.bool true)) .done))
 .ret))))
theorem fc19:fcomp Tryz.prog Tryz.f19 = some (c19.erase,[.mov (.t 4)],16):=by kernel_rfl
def laws_eqStore (a_1:GStore) (b_2:GStore):Option Bool :=
    (laws_eqRowSS a_1.Tables b_2.Tables).bind fun r_3 =>
    if (!r_3) then
    some false
    else
    if (a_1.Next != b_2.Next) then
    some false
    else
    some true
theorem w_laws_eqStore (a_1:GStore) (b_2:GStore) (r:Bool) (hf:laws_eqStore a_1 b_2 = some r):CallOK Tryz.prog 19 .flat [(encGStore a_1),(encGStore b_2)] (.bool r):=by
 refine CallOK.of_awp mixed Tryz.func19 fc19 nle ?_;rw [argT_eq];unfold laws_eqStore at hf;unfold c19;refine (show awp Tryz.prog false 0 _ (ofL [(0,(encGStore a_1)),(1,(encGStore b_2))]) [] _ from ?_);refine sr<|s_do (o_box (j:=0) (c:=(.agg [(.lst 1 (a_1.Tables.map (encL 2 encGRow))),(.int .i64 a_1.Next)])) rfl trivial rfl rfl)<|s_do (o_box (j:=1) (c:=(.agg [(.lst 1 (b_2.Tables.map (encL 2 encGRow))),(.int .i64 b_2.Next)])) rfl trivial rfl rfl)<|s_mov (.bool false) rfl<|dk<|awp_seq<|sr<|?_
 obtain ⟨r_3,er4,hf⟩:=ob hf
 refine s_q (.ptr 0 0 0) rfl trivial rfl<|s_q (.lst 1 (a_1.Tables.map (encL 2 encGRow))) rfl nle rfl<|s_q (.ptr 1 0 0) rfl trivial rfl<|s_q (.lst 1 (b_2.Tables.map (encL 2 encGRow))) rfl nle rfl<|s_do (o_call (w_laws_eqRowSS _ _ _ er4) rfl (.refl _) rfl)<|s_q (.bool (!r_3)) rfl trivial rfl<|dk<|?_
 rcases oi hf with ⟨c5,hf⟩ | ⟨c5,hf⟩
 ·refine w_condt rfl c5<|sr<|s_mov (.bool false) rfl<|dk<|w_ret<|?_;obtain rfl:=os hf;exact r_flat ⟨trivial,trivial⟩ rfl (.refl _)
 ·refine w_condf rfl (bf c5)<|w_skip<|k_seq<|awp_seq<|sr<|s_q (.ptr 0 0 1) rfl trivial rfl<|s_q (.int .i64 a_1.Next) rfl nle rfl<|s_q (.ptr 1 0 1) rfl trivial rfl<|s_q (.int .i64 b_2.Next) rfl nle rfl<|s_q (.bool (a_1.Next != b_2.Next)) rfl rfl rfl<|dk<|?_
  rcases oi hf with ⟨c6,hf⟩ | ⟨c6,hf⟩
  ·refine w_condt rfl c6<|sr<|s_mov (.bool false) rfl<|dk<|w_ret<|?_;obtain rfl:=os hf;exact r_flat ⟨trivial,trivial⟩ rfl (.refl _)
  ·refine w_condf rfl (bf c6)<|w_skip<|k_seq<|sr<|s_mov (.bool true) rfl<|dk<|w_ret<|?_;obtain rfl:=os hf;exact r_flat ⟨trivial,trivial⟩ rfl (.refl _)

/- laws.FnExactCommitCode -/
def c4:ACode :=
 (.seq (.reg (tq 2 (.box 1 (.t 0)) (tq 3 (.box 2 (.t 1)) (tm 4 (.c (.bool false)) .done))))
 (.seq (.reg (tm 5 (.c (.int .i64 1048576)) .done))
 (.seq (.reg (tq 12 (.load 1 true (.t 2)) (tm 13 (.t 5) (tq 14 (.call 12 [(.t 12),(.t 13)]) (tm 5 (.t 14) .done)))))
 (.seq (.seq (.reg (tm 15 (.t 5) (tq 16 (.bin .lss (.t 15) (.c (.int .i64 0))) .done)))
 (.cond (.t 16) (.seq (.reg (tm 4 (.c (.bool true)) .done))
 .ret)
 .skip))
 (.seq (.reg (tq 17 (.load 2 true (.t 3)) (tm 18 (.t 5) (tq 19 (.call 13 [(.t 17),(.t 18)]) (tm 5 (.t 19) .done)))))
 (.seq (.seq (.reg (tm 20 (.t 5) (tq 21 (.bin .lss (.t 20) (.c (.int .i64 0))) .done)))
 (.cond (.t 21) (.seq (.reg (tm 4 (.c (.bool true)) .done))
 .ret)
 .skip))
 (.seq (.reg (tq 23 (.load 1 true (.t 2)) (tq 25 (.load 2 true (.t 3)) (.l ⟨(some 24),none,.call 15 [(.t 23)]⟩ [⟨(some 25),none,.load 2 true (.t 3)⟩]
 (.l ⟨(some 26),none,.call 16 [(.t 25)]⟩ []
 (.l ⟨(some 27),none,.call 14 [(.t 24),(.t 26)]⟩ []
 (tm 22 (.t 27) (tq 28 (.extract 0 (.t 22)) (tq 29 (.extract 1 (.t 22)) (tm 6 (.t 28) (tm 7 (.t 29) .done))))) .non) .non) .non))))
 (.seq (.reg (tq 30 (.load 1 true (.t 2)) (tq 31 (.call 15 [(.t 30)]) (tq 8 (.box 1 (.c (.agg [.nil]))) (.q ⟨none,none,.store 1 (.t 8) (.t 31)⟩
 .done)))))
 (.seq (.reg (tq 32 (.load 2 true (.t 3)) (tq 33 (.call 16 [(.t 32)]) (tq 9 (.box 2 (.c (.agg [.nil,(.int .i64 0)]))) (.q ⟨none,none,.store 2 (.t 9) (.t 33)⟩
 .done)))))
 (.seq (.reg (tq 35 (.load 1 true (.t 8)) (tq 36 (.load 2 true (.t 9)) (tq 37 (.call 17 [(.t 35),(.t 36)]) (tm 34 (.t 37) (tq 38 (.extract 0 (.t 34)) (tq 39 (.extract 1 (.t 34)) (tm 10 (.t 38) (tm 11 (.t 39) .done)))))))))
 (.seq (.seq (.reg (tm 40 (.t 10) (tm 41 (.t 6) (tq 42 (.bin .neq (.t 40) (.t 41)) (tm 43 (.t 42) (tg 44 43 false (.mov (.t 11)) (tg 45 43 false (.mov (.t 7)) (tg 46 43 false (.bin .neq (.t 44) (.t 45)) (tq 47 (.pick (.t 43) (.c (.bool true)) (.t 46)) .done)))))))))
 (.cut (.cond (.t 47) (.seq (.reg (tm 4 (.c (.bool false)) .done))
 .ret)
 .skip)))
 (.seq (.seq (.reg (tq 48 (.load 1 true (.t 8)) (tq 49 (.load 1 true (.t 2)) (.l ⟨(some 50),none,.call 15 [(.t 49)]⟩ [⟨(some 48),none,.load 1 true (.t 8)⟩]
 (.l ⟨(some 51),none,.call 18 [(.t 48),(.t 50)]⟩ []
 (tq 52 (.not (.t 51)) .done) .non) .non))))
 (.cond (.t 52) (.seq (.reg (tm 4 (.c (.bool false)) .done))
 .ret)
 .skip))
 (.seq (.seq (.reg (tq 53 (.load 2 true (.t 9)) (tq 54 (.load 2 true (.t 3)) (.l ⟨(some 55),none,.call 16 [(.t 54)]⟩ [⟨(some 53),none,.load 2 true (.t 9)⟩]
 (.l ⟨(some 56),none,.call 19 [(.t 53),(.t 55)]⟩ []
 (tq 57 (.not (.t 56)) .done) .non) .non))))
 (.cond (.t 57) (.seq (.reg (tm 4 (.c (.bool false)) .done))
 .ret)
 .skip))
 (.seq (.reg (tm 4 (.c (.bool true)) .done))
 .ret))))))))))))))
theorem fc4:fcomp Tryz.prog Tryz.f4 = some (c4.erase,[.mov (.t 4)],58):=by kernel_rfl
def laws_FnExactCommitCode (aS_1:GSchema) (aX_2:GStore):Option Bool :=
    (laws_szSchema aS_1 1048576).bind fun r_3 =>
    if (decide (r_3 < 0)) then
    some true
    else
    (laws_szStore aX_2 r_3).bind fun r_6 =>
    if (decide (r_6 < 0)) then
    some true
    else
    (laws_toSchema aS_1).bind fun r_9 =>
    (laws_toStore aX_2).bind fun r_11 =>
    (spec_CommitCode r_9 r_11).bind fun r_13 =>
    (laws_toSchema aS_1).bind fun r_15 =>
    (laws_toStore aX_2).bind fun r_17 =>
    (impl_CommitCode r_15 r_17).bind fun r_19 =>
    ((if (r_19.1 != r_13.1) then
    some true
    else
    some (r_19.2 != r_13.2):Option Bool)).bind fun s47_22 =>
    if s47_22 then
    some false
    else
    (laws_toSchema aS_1).bind fun r_26 =>
    (laws_eqSchema r_15 r_26).bind fun r_28 =>
    if (!r_28) then
    some false
    else
    (laws_toStore aX_2).bind fun r_31 =>
    (laws_eqStore r_17 r_31).bind fun r_33 =>
    if (!r_33) then
    some false
    else
    some true
theorem w_laws_FnExactCommitCode (aS_1:GSchema) (aX_2:GStore) (r:Bool) (hf:laws_FnExactCommitCode aS_1 aX_2 = some r):CallOK Tryz.prog 4 .flat [(encGSchema aS_1),(encGStore aX_2)] (.bool r):=by
 refine CallOK.of_awp mixed Tryz.func4 fc4 nle ?_;rw [argT_eq];unfold laws_FnExactCommitCode at hf;unfold c4;refine (show awp Tryz.prog false 0 _ (ofL [(0,(encGSchema aS_1)),(1,(encGStore aX_2))]) [] _ from ?_);refine sr<|s_do (o_box (j:=0) (c:=(.agg [(.lst 4 (aS_1.Tables.map encGTable))])) rfl trivial rfl rfl)<|s_do (o_box (j:=1) (c:=(.agg [(.lst 1 (aX_2.Tables.map (encL 2 encGRow))),(.int .i64 aX_2.Next)])) rfl trivial rfl rfl)<|s_mov (.bool false) rfl<|dk<|sr<|s_mov (.int .i64 1048576) rfl<|dk<|sr<|?_
 obtain ⟨r_3,er4,hf⟩:=ob hf
 refine s_q (.agg [(.lst 4 (aS_1.Tables.map encGTable))]) rfl nle rfl<|s_mov (.int .i64 1048576) rfl<|s_do (o_call (w_laws_szSchema _ _ _ er4) rfl (.refl _) rfl)<|s_mov (.int .i64 r_3) rfl<|dk<|awp_seq<|sr<|s_mov (.int .i64 r_3) rfl<|s_q (.bool (decide (r_3 < 0))) rfl rfl rfl<|dk<|?_
 rcases oi hf with ⟨c5,hf⟩ | ⟨c5,hf⟩
 ·refine w_condt rfl c5<|sr<|s_mov (.bool true) rfl<|dk<|w_ret<|?_;obtain rfl:=os hf;exact r_flat ⟨trivial,trivial⟩ rfl (.refl _)
 ·refine w_condf rfl (bf c5)<|w_skip<|k_seq<|sr<|?_
  obtain ⟨r_6,er7,hf⟩:=ob hf
  refine s_q (.agg [(.lst 1 (aX_2.Tables.map (encL 2 encGRow))),(.int .i64 aX_2.Next)]) rfl nle rfl<|s_mov (.int .i64 r_3) rfl<|s_do (o_call (w_laws_szStore _ _ _ er7) rfl (.refl _) rfl)<|s_mov (.int .i64 r_6) rfl<|dk<|awp_seq<|sr<|s_mov (.int .i64 r_6) rfl<|s_q (.bool (decide (r_6 < 0))) rfl rfl rfl<|dk<|?_
  rcases oi hf with ⟨c8,hf⟩ | ⟨c8,hf⟩
  ·refine w_condt rfl c8<|sr<|s_mov (.bool true) rfl<|dk<|w_ret<|?_;obtain rfl:=os hf;exact r_flat ⟨trivial,trivial⟩ rfl (.refl _)
  ·refine w_condf rfl (bf c8)<|w_skip<|k_seq<|sr<|?_
   obtain ⟨r_9,er10,hf⟩:=ob hf
   obtain ⟨r_11,er12,hf⟩:=ob hf
   obtain ⟨r_13,er14,hf⟩:=ob hf
   refine s_q (.agg [(.lst 4 (aS_1.Tables.map encGTable))]) rfl nle rfl<|s_q (.agg [(.lst 1 (aX_2.Tables.map (encL 2 encGRow))),(.int .i64 aX_2.Next)]) rfl nle rfl<|s_dol (o_callc rfl (w_laws_toSchema _ _ er10) rfl (.refl _) rfl) a_same trivial<|s_dol (o_callc rfl (w_laws_toStore _ _ er12) rfl (.refl _) rfl) a_same trivial<|s_dol (o_call (w_spec_CommitCode _ _ _ er14) rfl (.refl _) rfl) a_same trivial<|s_mov (.tup [(.int .i64 r_13.1),(.int .i64 r_13.2)]) rfl<|s_q (.int .i64 r_13.1) rfl nle rfl<|s_q (.int .i64 r_13.2) rfl nle rfl<|s_mov (.int .i64 r_13.1) rfl<|s_mov (.int .i64 r_13.2) rfl<|dk<|sr<|?_
   obtain ⟨r_15,er16,hf⟩:=ob hf
   refine s_q (.agg [(.lst 4 (aS_1.Tables.map encGTable))]) rfl nle rfl<|s_do (o_callc rfl (w_laws_toSchema _ _ er16) rfl (.refl _) rfl)<|s_do (o_box (j:=2) (c:=(.agg [.nil])) rfl trivial rfl rfl)<|s_do0 (o_storebox (v:=(.agg [(.lst 4 (r_15.Tables.map encGTable))])) (y':=(.agg [(.lst 4 (r_15.Tables.map encGTable))])) rfl rfl rfl trivial ⟨rfl,nle⟩ ⟨⟨rfl,trivial⟩,trivial⟩ rfl)<|dk<|sr<|?_
   obtain ⟨r_17,er18,hf⟩:=ob hf
   refine s_q (.agg [(.lst 1 (aX_2.Tables.map (encL 2 encGRow))),(.int .i64 aX_2.Next)]) rfl nle rfl<|s_do (o_callc rfl (w_laws_toStore _ _ er18) rfl (.refl _) rfl)<|s_do (o_box (j:=3) (c:=(.agg [.nil,(.int .i64 0)])) rfl trivial rfl rfl)<|s_do0 (o_storebox (v:=(.agg [(.lst 1 (r_17.Tables.map (encL 2 encGRow))),(.int .i64 r_17.Next)])) (y':=(.agg [(.lst 1 (r_17.Tables.map (encL 2 encGRow))),(.int .i64 r_17.Next)])) rfl rfl rfl trivial ⟨rfl,nle⟩ ⟨⟨rfl,trivial⟩,⟨⟨rfl,trivial⟩,trivial⟩⟩ rfl)<|dk<|sr<|?_
   obtain ⟨r_19,er20,hf⟩:=ob hf
   refine s_q (.agg [(.lst 4 (r_15.Tables.map encGTable))]) rfl nle rfl<|s_q (.agg [(.lst 1 (r_17.Tables.map (encL 2 encGRow))),(.int .i64 r_17.Next)]) rfl nle rfl<|s_do (o_call (w_impl_CommitCode _ _ _ er20) rfl (.refl _) rfl)<|s_mov (.tup [(.int .i64 r_19.1),(.int .i64 r_19.2)]) rfl<|s_q (.int .i64 r_19.1) rfl nle rfl<|s_q (.int .i64 r_19.2) rfl nle rfl<|s_mov (.int .i64 r_19.1) rfl<|s_mov (.int .i64 r_19.2) rfl<|dk<|awp_seq<|awp_seq<|?_
   obtain ⟨s47_22,hb1,hf⟩:=ob hf
   refine awp_cut ([(2,(.ptr 0 0 0)),(3,(.ptr 1 0 0)),(8,(.ptr 2 0 0)),(9,(.ptr 3 0 0)),(47,(.bool s47_22))],[.box 1 (.agg [(.lst 4 (aS_1.Tables.map encGTable))]),.box 2 (.agg [(.lst 1 (aX_2.Tables.map (encL 2 encGRow))),(.int .i64 aX_2.Next)]),.box 1 (.agg [(.lst 4 (r_15.Tables.map encGTable))]),.box 2 (.agg [(.lst 1 (r_17.Tables.map (encL 2 encGRow))),(.int .i64 r_17.Next)])]) ?_ ?_
   ·refine w_reg ?_
    rcases oi hb1 with ⟨c24,hb1⟩ | ⟨c24,hb1⟩
    ·refine s_mov (.int .i64 r_19.1) rfl<|s_mov (.int .i64 r_13.1) rfl<|s_q (.bool (r_19.1 != r_13.1)) rfl rfl rfl<|s_mov (.bool (r_19.1 != r_13.1)) rfl<|s_lit (s:=43) (b:=true) rfl c24<|s_off rfl rfl<|s_off rfl rfl<|s_off rfl rfl<|s_q (.bool true) rfl trivial rfl<|w_done<|?_;obtain rfl:=os hb1;exact ⟨[],[0,1,2,3],_,_,rfl,rfl,⟨.refl _,⟨.refl _,⟨.refl _,⟨.refl _,⟨.refl _,trivial⟩⟩⟩⟩⟩,(.refl _)⟩
    ·refine s_mov (.int .i64 r_19.1) rfl<|s_mov (.int .i64 r_13.1) rfl<|s_q (.bool (r_19.1 != r_13.1)) rfl rfl rfl<|s_mov (.bool (r_19.1 != r_13.1)) rfl<|s_lit (s:=43) (b:=false) rfl (bf c24)<|s_on rfl<|s_mov (.int .i64 r_19.2) rfl<|s_on rfl<|s_mov (.int .i64 r_13.2) rfl<|s_on rfl<|s_q (.bool (r_19.2 != r_13.2)) rfl rfl rfl<|s_q (.bool (r_19.2 != r_13.2)) rfl trivial rfl<|w_done<|?_;obtain rfl:=os hb1;exact ⟨[],[0,1,2,3],_,_,rfl,rfl,⟨.refl _,⟨.refl _,⟨.refl _,⟨.refl _,⟨.refl _,trivial⟩⟩⟩⟩⟩,(.refl _)⟩
   ·rcases oi hf with ⟨c25,hf⟩ | ⟨c25,hf⟩
    ·refine w_condt rfl c25<|sr<|s_mov (.bool false) rfl<|dk<|w_ret<|?_;obtain rfl:=os hf;exact r_flat ⟨trivial,trivial⟩ rfl (.refl _)
    ·refine w_condf rfl (bf c25)<|w_skip<|k_seq<|awp_seq<|sr<|?_
     obtain ⟨r_26,er27,hf⟩:=ob hf
     obtain ⟨r_28,er29,hf⟩:=ob hf
     refine s_q (.agg [(.lst 4 (r_15.Tables.map encGTable))]) rfl nle rfl<|s_q (.agg [(.lst 4 (aS_1.Tables.map encGTable))]) rfl nle rfl<|s_dol (o_callc rfl (w_laws_toSchema _ _ er27) rfl (.refl _) rfl) a_same trivial<|s_dol (o_call (w_laws_eqSchema _ _ _ er29) rfl (.refl _) rfl) a_same trivial<|s_q (.bool (!r_28)) rfl trivial rfl<|dk<|?_
     rcases oi hf with ⟨c30,hf⟩ | ⟨c30,hf⟩
     ·refine w_condt rfl c30<|sr<|s_mov (.bool false) rfl<|dk<|w_ret<|?_;obtain rfl:=os hf;exact r_flat ⟨trivial,trivial⟩ rfl (.refl _)
     ·refine w_condf rfl (bf c30)<|w_skip<|k_seq<|awp_seq<|sr<|?_
      obtain ⟨r_31,er32,hf⟩:=ob hf
      obtain ⟨r_33,er34,hf⟩:=ob hf
      refine s_q (.agg [(.lst 1 (r_17.Tables.map (encL 2 encGRow))),(.int .i64 r_17.Next)]) rfl nle rfl<|s_q (.agg [(.lst 1 (aX_2.Tables.map (encL 2 encGRow))),(.int .i64 aX_2.Next)]) rfl nle rfl<|s_dol (o_callc rfl (w_laws_toStore _ _ er32) rfl (.refl _) rfl) a_same trivial<|s_dol (o_call (w_laws_eqStore _ _ _ er34) rfl (.refl _) rfl) a_same trivial<|s_q (.bool (!r_33)) rfl trivial rfl<|dk<|?_
      rcases oi hf with ⟨c35,hf⟩ | ⟨c35,hf⟩
      ·refine w_condt rfl c35<|sr<|s_mov (.bool false) rfl<|dk<|w_ret<|?_;obtain rfl:=os hf;exact r_flat ⟨trivial,trivial⟩ rfl (.refl _)
      ·refine w_condf rfl (bf c35)<|w_skip<|k_seq<|sr<|s_mov (.bool true) rfl<|dk<|w_ret<|?_;obtain rfl:=os hf;exact r_flat ⟨trivial,trivial⟩ rfl (.refl _)

end Go.R
