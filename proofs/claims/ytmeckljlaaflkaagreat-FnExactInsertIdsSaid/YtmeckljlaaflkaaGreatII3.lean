/- Walks. -/
import Derived.Test.YtmeckljlaaflkaaGreatII2
set_option linter.all false
namespace Go.R
open Go Go.Proofs
set_option linter.unusedVariables false
set_option linter.unusedSimpArgs false
set_option maxHeartbeats 8000000
/- slices.IndexFunc[[]impl.Mut,impl.Mut] -/
def c211:ACode :=
 (.seq (.reg (tm 4 (.c (.int .i64 0)) .done))
 (.seq (.seq (.reg (tm 6 (.t 0) (tq 7 (.len (.t 6)) (tm 8 (.c (.int .i64 0)) .done))))
 (.block 0 (.loop (.seq (.reg (tq 9 (.bin .lss (.t 8) (.t 7)) .done))
 (.seq (.cond (.t 9) .skip
 (.exit 0))
 (.seq (.block 1 (.seq (.reg (tm 10 (.t 8) (tm 5 (.t 10) .done)))
 (.seq (.reg (tm 11 (.t 1) (tm 12 (.t 0) (tm 13 (.t 5) (tq 14 (.iaddr 3 (.t 12) (.t 13)) (tq 15 (.load 3 true (.t 14)) (tq 16 (.calv (.t 11) [(.t 15)]) .done)))))))
 (.cond (.t 16) (.seq (.reg (tm 17 (.t 5) (tm 4 (.t 17) .done)))
 .ret)
 .skip))))
 (.reg (tq 18 (.bin .add (.t 8) (.c (.int .i64 1))) (tm 8 (.t 18) .done)))))))))
 (.cut (.seq (.reg (tq 4 (.mov (.c (.int .i64 (-1)))) .done))
 .ret))))
theorem fc211:fcomp Tryz.prog Tryz.f211 = some (c211.erase,[.mov (.t 4)],19):=by kernel_rfl
def slices_IndexFunc_impl_Mut_impl_Mut_L1 (f_2:(GMut → Option Bool)):List GMut → Nat → Option (Fl Int Unit)
  | [],s8_17 =>
    some (.go ())
  | x_31 :: xs,s8_17 =>
    (f_2 x_31).bind fun r_32 =>
    if r_32 then
    some (.ret (s8_17:Int))
    else
    slices_IndexFunc_impl_Mut_impl_Mut_L1 f_2 xs (s8_17 + 1)

def slices_IndexFunc_impl_Mut_impl_Mut (s_1:(List GMut)) (f_2:(GMut → Option Bool)):Option Int :=
    (slices_IndexFunc_impl_Mut_impl_Mut_L1 f_2 s_1 0).bind fun q => (match q with
    | .ret r => some r
    | .go _ =>
    some (-1))
theorem w_slices_IndexFunc_impl_Mut_impl_Mut (s_1:(List GMut)) (f_2:(GMut → Option Bool)) (r:Int) (hf:slices_IndexFunc_impl_Mut_impl_Mut s_1 f_2 = some r) (kf_f_2:Nat) (cf_f_2:List AV) (okf_f_2:okFn Tryz.prog kf_f_2 = true) (hcf_f_2:∀ h p,closeWs h p cf_f_2 = some cf_f_2) (hrf_f_2:∀ f,rens f cf_f_2 = cf_f_2) (hpf_f_2:∀ a0 r,f_2 a0 = some r → CallOK Tryz.prog kf_f_2 .flat ([(encGMut a0)] ++ cf_f_2) (.bool r)):CallOK Tryz.prog 211 .flat [(.lst 3 (s_1.map encGMut)),(.fn kf_f_2 cf_f_2)] (.int .i64 r):=by
 refine CallOK.of_awp mixed Tryz.func211 fc211 nle ?_;rw [argT_eq];unfold slices_IndexFunc_impl_Mut_impl_Mut at hf;unfold c211;refine (show awp Tryz.prog false 0 _ (ofL [(0,(.lst 3 (s_1.map encGMut))),(1,(.fn kf_f_2 cf_f_2))]) [] _ from ?_);refine sr<|s_mov (.int .i64 0) rfl<|dk<|awp_seq<|sr<|s_mov (.lst 3 (s_1.map encGMut)) rfl<|s_dof (o_len (enc:=encGMut) rfl) fun hl3 => s_mov (.int .i64 0) rfl<|dk<|?_
 obtain ⟨p24,hb1,hf⟩:=ob hf
 refine awp_cutx (X:={q:Unit // p24 = .go q}) (fun q => ([],[])) ?_ ?_
 ·refine awp_loop (X:={q:Nat // slices_IndexFunc_impl_Mut_impl_Mut_L1 f_2 (s_1.drop q) q = some p24}) (fun q => ([(0,(.lst 3 (s_1.map encGMut))),(1,(.fn kf_f_2 cf_f_2)),(7,(.int .i64 (s_1.length:Int))),(8,(.int .i64 (q.1:Int)))],[])) (fun q => s_1.length - q.1) ⟨0,hb1⟩ ⟨[],[],_,_,rfl,rfl,⟨.refl _,⟨.of_eq (congrArg (AV.fn _) (hrf_f_2 _)),⟨.refl _,⟨.refl _,trivial⟩⟩⟩⟩,(.refl _)⟩ ?_
  rintro ⟨s8_17,hc1⟩
  have hc1:slices_IndexFunc_impl_Mut_impl_Mut_L1 f_2 (s_1.drop s8_17) s8_17 = some p24:=hc1
  refine (show awp Tryz.prog false 0 _ (ofL [(0,(.lst 3 (s_1.map encGMut))),(1,(.fn kf_f_2 cf_f_2)),(7,(.int .i64 (s_1.length:Int))),(8,(.int .i64 (s8_17:Int)))]) [] _ from ?_)
  rcases dropc s_1 s8_17 with ⟨hie27,hd30⟩ | ⟨hlt25,x_31,hx26,hd30⟩
  ·rw [hd30,slices_IndexFunc_impl_Mut_impl_Mut_L1.eq_1] at hc1
   have hq29:=dlf hie27
   refine sr<|s_q (.bool (decide ((s8_17:Int) < (s_1.length:Int)))) rfl rfl rfl<|dk<|awp_seq<|w_condf rfl hq29<|w_exit<|k_seqx<|k_loopx<|k_blkx<|?_;obtain rfl:=os hc1;exact k_cutn ⟨_,rfl⟩ ⟨[],[],_,_,rfl,rfl,trivial,(.refl _)⟩
  ·rw [hd30,slices_IndexFunc_impl_Mut_impl_Mut_L1.eq_2] at hc1
   have hq29:=dlt hlt25
   refine sr<|s_q (.bool (decide ((s8_17:Int) < (s_1.length:Int)))) rfl rfl rfl<|dk<|awp_seq<|w_condt rfl hq29<|w_skip<|k_seq<|awp_seq<|w_blk<|sr<|s_mov (.int .i64 (s8_17:Int)) rfl<|s_mov (.int .i64 (s8_17:Int)) rfl<|dk<|sr<|?_
   obtain ⟨r_32,er33,hc1⟩:=ob hc1
   refine s_mov (.fn kf_f_2 cf_f_2) rfl<|s_mov (.lst 3 (s_1.map encGMut)) rfl<|s_mov (.int .i64 (s8_17:Int)) rfl<|s_do (o_iaddrn (enc:=encGMut) rfl rfl hx26)<|s_q (encGMut x_31) rfl nle rfl<|s_do (o_calvp (v:=(.bool r_32)) rfl okf_f_2 hcf_f_2 (hpf_f_2 _ _ er33) rfl (.refl _) rfl)<|dk<|?_
   rcases oi hc1 with ⟨c34,hc1⟩ | ⟨c34,hc1⟩
   ·refine w_condt rfl c34<|sr<|s_mov (.int .i64 (s8_17:Int)) rfl<|s_mov (.int .i64 (s8_17:Int)) rfl<|dk<|w_ret<|?_;obtain rfl:=os hc1;obtain rfl:=os hf;exact r_flat ⟨trivial,trivial⟩ rfl (.refl _)
   ·refine w_condf rfl (bf c34)<|w_skip<|k_blk<|k_seq<|w_reg<|s_q (.int .i64 (w64 ((s8_17:Int) + 1))) rfl rfl rfl<|s_mov (.int .i64 (w64 ((s8_17:Int) + 1))) rfl<|w_done<|?_;exact k_loopn ⟨(s8_17 + 1),hc1⟩ (mul hlt25) ⟨[],[],_,_,rfl,rfl,⟨.refl _,⟨.of_eq (congrArg (AV.fn _) (hrf_f_2 _)),⟨.refl _,⟨.of_eq (congrArg (AV.int _) (w64_incr hlt25 hl3)),trivial⟩⟩⟩⟩,(.refl _)⟩
 ·rintro ⟨_,rfl⟩
  refine sr<|s_mov (.int .i64 (-1)) rfl<|dk<|w_ret<|?_;obtain rfl:=os hf;exact r_flat ⟨trivial,trivial⟩ rfl (.refl _)

/- slices.ContainsFunc[[]impl.Mut,impl.Mut] -/
def c139:ACode :=
 (.seq (.reg (tm 4 (.c (.bool false)) .done))
 (.seq (.reg (tm 5 (.t 0) (tm 6 (.t 1) (tq 7 (.call 211 [(.t 5),(.t 6)]) (tq 8 (.bin .geq (.t 7) (.c (.int .i64 0))) (tm 4 (.t 8) .done))))))
 .ret))
theorem fc139:fcomp Tryz.prog Tryz.f139 = some (c139.erase,[.mov (.t 4)],9):=by kernel_rfl
def slices_ContainsFunc_impl_Mut_impl_Mut (s_1:(List GMut)) (f_2:(GMut → Option Bool)):Option Bool :=
    (slices_IndexFunc_impl_Mut_impl_Mut s_1 f_2).bind fun r_3 =>
    some (decide (r_3 ≥ 0))
theorem w_slices_ContainsFunc_impl_Mut_impl_Mut (s_1:(List GMut)) (f_2:(GMut → Option Bool)) (r:Bool) (hf:slices_ContainsFunc_impl_Mut_impl_Mut s_1 f_2 = some r) (kf_f_2:Nat) (cf_f_2:List AV) (okf_f_2:okFn Tryz.prog kf_f_2 = true) (hcf_f_2:∀ h p,closeWs h p cf_f_2 = some cf_f_2) (hrf_f_2:∀ f,rens f cf_f_2 = cf_f_2) (hpf_f_2:∀ a0 r,f_2 a0 = some r → CallOK Tryz.prog kf_f_2 .flat ([(encGMut a0)] ++ cf_f_2) (.bool r)):CallOK Tryz.prog 139 .flat [(.lst 3 (s_1.map encGMut)),(.fn kf_f_2 cf_f_2)] (.bool r):=by
 refine CallOK.of_awp mixed Tryz.func139 fc139 nle ?_;rw [argT_eq];unfold slices_ContainsFunc_impl_Mut_impl_Mut at hf;unfold c139;refine (show awp Tryz.prog false 0 _ (ofL [(0,(.lst 3 (s_1.map encGMut))),(1,(.fn kf_f_2 cf_f_2))]) [] _ from ?_);refine sr<|s_mov (.bool false) rfl<|dk<|sr<|?_
 obtain ⟨r_3,er4,hf⟩:=ob hf
 refine s_mov (.lst 3 (s_1.map encGMut)) rfl<|s_mov (.fn kf_f_2 cf_f_2) rfl<|s_do (o_call (w_slices_IndexFunc_impl_Mut_impl_Mut _ _ _ er4 kf_f_2 cf_f_2 okf_f_2 hcf_f_2 hrf_f_2 hpf_f_2) (cls_cons rfl (cls_cons (cls_fn hcf_f_2) rfl)) (.refl _) rfl)<|s_q (.bool (decide (r_3 ≥ 0))) rfl rfl rfl<|s_mov (.bool (decide (r_3 ≥ 0))) rfl<|dk<|w_ret<|?_;obtain rfl:=os hf;exact r_flat ⟨trivial,trivial⟩ rfl (.refl _)

/- impl.mutOK -/
def c141:ACode :=
 (.seq (.reg (tq 1 (.box 3 (.t 0)) (tm 2 (.c (.bool false)) .done)))
 (.seq (.reg (tq 3 (.faddr 1 (.t 1)) (tq 4 (.load 1 false (.t 3)) (tq 5 (.call 57 [(.t 4),(.c (.int .i64 1)),(.c (.int .i64 7))]) (tm 6 (.t 5) (tg 7 6 true (.faddr 2 (.t 1)) (tg 8 6 true (.load 1 false (.t 7)) (tg 9 6 true (.call 149 [(.t 8)]) (tq 10 (.pick (.t 6) (.t 9) (.c (.bool false))) (tm 11 (.t 10) (tg 12 11 true (.faddr 0 (.t 1)) (tg 13 11 true (.load 1 false (.t 12)) (tg 14 11 true (.bslice 1 [(.t 13)]) (tg 15 11 true (.call 53 [(.t 14)]) (tq 16 (.pick (.t 11) (.t 15) (.c (.bool false))) (tm 2 (.t 16) .done))))))))))))))))
 .ret))
theorem fc141:fcomp Tryz.prog Tryz.f141 = some (c141.erase,[.mov (.t 2)],17):=by kernel_rfl
def impl_mutOK (m_1:GMut):Option Bool :=
    (impl_within m_1.Func 1 7).bind fun r_2 =>
    if r_2 then
    (impl_DatumOK m_1.Value).bind fun r_5 =>
    if r_5 then
    (impl_areShort [m_1.Column]).bind fun r_8 =>
    some r_8
    else
    some false
    else
    some false
theorem w_impl_mutOK (m_1:GMut) (r:Bool) (hf:impl_mutOK m_1 = some r):CallOK Tryz.prog 141 .flat [(encGMut m_1)] (.bool r):=by
 refine CallOK.of_awp mixed Tryz.func141 fc141 nle ?_;rw [argT_eq];unfold impl_mutOK at hf;unfold c141;refine (show awp Tryz.prog false 0 _ (ofL [(0,(encGMut m_1))]) [] _ from ?_);refine sr<|s_do (o_box (j:=0) (c:=(.agg [(.str m_1.Column),(.int .i64 m_1.Func),(.lst 3 (m_1.Value.map encGAtom))])) rfl trivial rfl rfl)<|s_mov (.bool false) rfl<|dk<|sr<|s_q (.ptr 0 0 1) rfl trivial rfl<|s_q (.int .i64 m_1.Func) rfl nle rfl<|?_
 obtain ⟨r_2,er3,hf⟩:=ob hf
 refine s_do (o_call (w_impl_within _ _ _ _ er3) rfl (.refl _) rfl)<|s_mov (.bool r_2) rfl<|?_
 rcases oi hf with ⟨c4,hf⟩ | ⟨c4,hf⟩
 ·refine s_lit (s:=6) (b:=true) rfl c4<|s_on rfl<|s_q (.ptr 0 0 2) rfl trivial rfl<|s_on rfl<|s_q (.lst 3 (m_1.Value.map encGAtom)) rfl nle rfl<|s_on rfl<|?_
  obtain ⟨r_5,er6,hf⟩:=ob hf
  refine s_do (o_call (w_impl_DatumOK _ _ er6) rfl (.refl _) rfl)<|s_q (.bool r_5) rfl trivial rfl<|s_mov (.bool r_5) rfl<|?_
  rcases oi hf with ⟨c7,hf⟩ | ⟨c7,hf⟩
  ·refine s_lit (s:=11) (b:=true) rfl c7<|s_on rfl<|s_q (.ptr 0 0 0) rfl trivial rfl<|s_on rfl<|s_q (.str m_1.Column) rfl nle rfl<|s_on rfl<|?_;refine s_do (o_bslice (j:=1) (as':=[(.str m_1.Column)]) rfl (fun _ => by decide) ⟨rfl,trivial⟩ (.refl _) rfl rfl rfl) ?_;refine s_on rfl ?_
   obtain ⟨r_8,er9,hf⟩:=ob hf
   refine s_do (o_call (w_impl_areShort _ _ er9) rfl (.cons (.of_eq (congrArg (AV.lst _) (tko [m_1.Column]))) .nil) rfl)<|s_q (.bool r_8) rfl trivial rfl<|s_mov (.bool r_8) rfl<|dk<|w_ret<|?_;obtain rfl:=os hf;exact r_flat ⟨trivial,trivial⟩ rfl (.refl _)
  ·refine s_lit (s:=11) (b:=false) rfl (bf c7)<|s_off rfl rfl<|s_off rfl rfl<|s_off rfl rfl<|s_off rfl rfl<|s_q (.bool false) rfl trivial rfl<|s_mov (.bool false) rfl<|dk<|w_ret<|?_;obtain rfl:=os hf;exact r_flat ⟨trivial,trivial⟩ rfl (.refl _)
 ·refine s_lit (s:=6) (b:=false) rfl (bf c4)<|s_off rfl rfl<|s_off rfl rfl<|s_off rfl rfl<|s_q (.bool false) rfl trivial rfl<|s_mov (.bool false) rfl<|s_off rfl rfl<|s_off rfl rfl<|s_off rfl rfl<|s_off rfl rfl<|s_q (.bool false) rfl trivial rfl<|s_mov (.bool false) rfl<|dk<|w_ret<|?_;obtain rfl:=os hf;exact r_flat ⟨trivial,trivial⟩ rfl (.refl _)

/- impl.mutsOK$1 -/
def c140:ACode :=
 (.seq (.reg (tq 1 (.box 3 (.t 0)) (tm 2 (.c (.bool false)) .done)))
 (.seq (.reg (tq 3 (.load 3 true (.t 1)) (tq 4 (.call 141 [(.t 3)]) (tq 5 (.not (.t 4)) (tm 2 (.t 5) .done)))))
 .ret))
theorem fc140:fcomp Tryz.prog Tryz.f140 = some (c140.erase,[.mov (.t 2)],6):=by kernel_rfl
def impl_mutsOK_1 (m_1:GMut):Option Bool :=
    (impl_mutOK m_1).bind fun r_2 =>
    some (!r_2)
theorem w_impl_mutsOK_1 (m_1:GMut) (r:Bool) (hf:impl_mutsOK_1 m_1 = some r):CallOK Tryz.prog 140 .flat [(encGMut m_1)] (.bool r):=by
  refine CallOK.of_awp mixed Tryz.func140 fc140 nle ?_
  rw [argT_eq]
  unfold impl_mutsOK_1 at hf
  unfold c140
  refine (show awp Tryz.prog false 0 _ (ofL [(0,(encGMut m_1))]) [] _ from ?_)
  refine awp_seq ?_
  refine w_reg ?_
  refine s_do (o_box (j:=0) (c:=(.agg [(.str m_1.Column),(.int .i64 m_1.Func),(.lst 3 (m_1.Value.map encGAtom))])) rfl trivial rfl rfl) ?_
  refine s_do (o_mov (.bool false) rfl) ?_
  refine w_done ?_
  refine k_seq ?_
  refine awp_seq ?_
  refine w_reg ?_
  obtain ⟨r_2,er3,hf⟩:=ob hf
  refine s_do (o_q (.agg [(.str m_1.Column),(.int .i64 m_1.Func),(.lst 3 (m_1.Value.map encGAtom))]) rfl nle rfl) ?_
  refine s_do (o_call (w_impl_mutOK _ _ er3) rfl (.refl _) rfl) ?_
  refine s_do (o_q (.bool (!r_2)) rfl trivial rfl) ?_
  refine s_do (o_mov (.bool (!r_2)) rfl) ?_
  refine w_done ?_
  refine k_seq ?_
  refine w_ret ?_
  obtain rfl:=os hf
  exact r_flat ⟨trivial,trivial⟩ rfl (.refl _)

/- impl.mutsOK -/
def c55:ACode :=
 (.seq (.reg (tm 2 (.c (.bool false)) .done))
 (.seq (.reg (tm 3 (.t 0) (tq 4 (.len (.t 3)) (tq 5 (.bin .leq (.t 4) (.c (.int .i64 8))) (tm 6 (.t 5) (tg 7 6 true (.mov (.t 0)) (tg 8 6 true (.call 139 [(.t 7),(.c (.fn 140 []))]) (tg 9 6 true (.not (.t 8)) (tq 10 (.pick (.t 6) (.t 9) (.c (.bool false))) (tm 2 (.t 10) .done))))))))))
 .ret))
theorem fc55:fcomp Tryz.prog Tryz.f55 = some (c55.erase,[.mov (.t 2)],11):=by kernel_rfl
def impl_mutsOK (list_1:(List GMut)):Option Bool :=
    if (decide ((list_1.length:Int) ≤ 8)) then
    (slices_ContainsFunc_impl_Mut_impl_Mut list_1 impl_mutsOK_1).bind fun r_4 =>
    some (!r_4)
    else
    some false
theorem w_impl_mutsOK (list_1:(List GMut)) (r:Bool) (hf:impl_mutsOK list_1 = some r):CallOK Tryz.prog 55 .flat [(.lst 3 (list_1.map encGMut))] (.bool r):=by
 refine CallOK.of_awp mixed Tryz.func55 fc55 nle ?_;rw [argT_eq];unfold impl_mutsOK at hf;unfold c55;refine (show awp Tryz.prog false 0 _ (ofL [(0,(.lst 3 (list_1.map encGMut)))]) [] _ from ?_);refine sr<|s_mov (.bool false) rfl<|dk<|sr<|?_
 rcases oi hf with ⟨c3,hf⟩ | ⟨c3,hf⟩
 ·obtain ⟨r_4,er5,hf⟩:=ob hf
  refine s_mov (.lst 3 (list_1.map encGMut)) rfl<|s_dof (o_len (enc:=encGMut) rfl) fun hl2 => s_q (.bool (decide ((list_1.length:Int) ≤ 8))) rfl rfl rfl<|s_mov (.bool (decide ((list_1.length:Int) ≤ 8))) rfl<|s_lit (s:=6) (b:=true) rfl c3<|s_on rfl<|s_mov (.lst 3 (list_1.map encGMut)) rfl<|s_on rfl<|?_;refine s_do (o_call (w_slices_ContainsFunc_impl_Mut_impl_Mut _ _ _ er5 140 [] (by kernel_rfl) (fun _ _ => rfl) (fun _ => rfl) (fun a0 r h => w_impl_mutsOK_1 a0 r h)) rfl (.refl _) rfl) ?_;refine s_on rfl<|s_q (.bool (!r_4)) rfl trivial rfl<|s_q (.bool (!r_4)) rfl trivial rfl<|s_mov (.bool (!r_4)) rfl<|dk<|w_ret<|?_;obtain rfl:=os hf;exact r_flat ⟨trivial,trivial⟩ rfl (.refl _)
 ·refine s_mov (.lst 3 (list_1.map encGMut)) rfl<|s_dof (o_len (enc:=encGMut) rfl) fun hl2 => s_q (.bool (decide ((list_1.length:Int) ≤ 8))) rfl rfl rfl<|s_mov (.bool (decide ((list_1.length:Int) ≤ 8))) rfl<|s_lit (s:=6) (b:=false) rfl (bf c3)<|s_off rfl rfl<|s_off rfl rfl<|s_off rfl rfl<|s_q (.bool false) rfl trivial rfl<|s_mov (.bool false) rfl<|dk<|w_ret<|?_;obtain rfl:=os hf;exact r_flat ⟨trivial,trivial⟩ rfl (.refl _)

/- slices.IndexFunc[[]impl.Set,impl.Set] -/
def c170:ACode :=
 (.seq (.reg (tm 4 (.c (.int .i64 0)) .done))
 (.seq (.seq (.reg (tm 6 (.t 0) (tq 7 (.len (.t 6)) (tm 8 (.c (.int .i64 0)) .done))))
 (.block 0 (.loop (.seq (.reg (tq 9 (.bin .lss (.t 8) (.t 7)) .done))
 (.seq (.cond (.t 9) .skip
 (.exit 0))
 (.seq (.block 1 (.seq (.reg (tm 10 (.t 8) (tm 5 (.t 10) .done)))
 (.seq (.reg (tm 11 (.t 1) (tm 12 (.t 0) (tm 13 (.t 5) (tq 14 (.iaddr 3 (.t 12) (.t 13)) (tq 15 (.load 3 true (.t 14)) (tq 16 (.calv (.t 11) [(.t 15)]) .done)))))))
 (.cond (.t 16) (.seq (.reg (tm 17 (.t 5) (tm 4 (.t 17) .done)))
 .ret)
 .skip))))
 (.reg (tq 18 (.bin .add (.t 8) (.c (.int .i64 1))) (tm 8 (.t 18) .done)))))))))
 (.cut (.seq (.reg (tq 4 (.mov (.c (.int .i64 (-1)))) .done))
 .ret))))
theorem fc170:fcomp Tryz.prog Tryz.f170 = some (c170.erase,[.mov (.t 4)],19):=by kernel_rfl
def slices_IndexFunc_impl_Set_impl_Set_L1 (f_2:(GSet → Option Bool)):List GSet → Nat → Option (Fl Int Unit)
  | [],s8_17 =>
    some (.go ())
  | x_31 :: xs,s8_17 =>
    (f_2 x_31).bind fun r_32 =>
    if r_32 then
    some (.ret (s8_17:Int))
    else
    slices_IndexFunc_impl_Set_impl_Set_L1 f_2 xs (s8_17 + 1)

def slices_IndexFunc_impl_Set_impl_Set (s_1:(List GSet)) (f_2:(GSet → Option Bool)):Option Int :=
    (slices_IndexFunc_impl_Set_impl_Set_L1 f_2 s_1 0).bind fun q => (match q with
    | .ret r => some r
    | .go _ =>
    some (-1))
theorem w_slices_IndexFunc_impl_Set_impl_Set (s_1:(List GSet)) (f_2:(GSet → Option Bool)) (r:Int) (hf:slices_IndexFunc_impl_Set_impl_Set s_1 f_2 = some r) (kf_f_2:Nat) (cf_f_2:List AV) (okf_f_2:okFn Tryz.prog kf_f_2 = true) (hcf_f_2:∀ h p,closeWs h p cf_f_2 = some cf_f_2) (hrf_f_2:∀ f,rens f cf_f_2 = cf_f_2) (hpf_f_2:∀ a0 r,f_2 a0 = some r → CallOK Tryz.prog kf_f_2 .flat ([(encGSet a0)] ++ cf_f_2) (.bool r)):CallOK Tryz.prog 170 .flat [(.lst 3 (s_1.map encGSet)),(.fn kf_f_2 cf_f_2)] (.int .i64 r):=by
 refine CallOK.of_awp mixed Tryz.func170 fc170 nle ?_;rw [argT_eq];unfold slices_IndexFunc_impl_Set_impl_Set at hf;unfold c170;refine (show awp Tryz.prog false 0 _ (ofL [(0,(.lst 3 (s_1.map encGSet))),(1,(.fn kf_f_2 cf_f_2))]) [] _ from ?_);refine sr<|s_mov (.int .i64 0) rfl<|dk<|awp_seq<|sr<|s_mov (.lst 3 (s_1.map encGSet)) rfl<|s_dof (o_len (enc:=encGSet) rfl) fun hl3 => s_mov (.int .i64 0) rfl<|dk<|?_
 obtain ⟨p24,hb1,hf⟩:=ob hf
 refine awp_cutx (X:={q:Unit // p24 = .go q}) (fun q => ([],[])) ?_ ?_
 ·refine awp_loop (X:={q:Nat // slices_IndexFunc_impl_Set_impl_Set_L1 f_2 (s_1.drop q) q = some p24}) (fun q => ([(0,(.lst 3 (s_1.map encGSet))),(1,(.fn kf_f_2 cf_f_2)),(7,(.int .i64 (s_1.length:Int))),(8,(.int .i64 (q.1:Int)))],[])) (fun q => s_1.length - q.1) ⟨0,hb1⟩ ⟨[],[],_,_,rfl,rfl,⟨.refl _,⟨.of_eq (congrArg (AV.fn _) (hrf_f_2 _)),⟨.refl _,⟨.refl _,trivial⟩⟩⟩⟩,(.refl _)⟩ ?_
  rintro ⟨s8_17,hc1⟩
  have hc1:slices_IndexFunc_impl_Set_impl_Set_L1 f_2 (s_1.drop s8_17) s8_17 = some p24:=hc1
  refine (show awp Tryz.prog false 0 _ (ofL [(0,(.lst 3 (s_1.map encGSet))),(1,(.fn kf_f_2 cf_f_2)),(7,(.int .i64 (s_1.length:Int))),(8,(.int .i64 (s8_17:Int)))]) [] _ from ?_)
  rcases dropc s_1 s8_17 with ⟨hie27,hd30⟩ | ⟨hlt25,x_31,hx26,hd30⟩
  ·rw [hd30,slices_IndexFunc_impl_Set_impl_Set_L1.eq_1] at hc1
   have hq29:=dlf hie27
   refine sr<|s_q (.bool (decide ((s8_17:Int) < (s_1.length:Int)))) rfl rfl rfl<|dk<|awp_seq<|w_condf rfl hq29<|w_exit<|k_seqx<|k_loopx<|k_blkx<|?_;obtain rfl:=os hc1;exact k_cutn ⟨_,rfl⟩ ⟨[],[],_,_,rfl,rfl,trivial,(.refl _)⟩
  ·rw [hd30,slices_IndexFunc_impl_Set_impl_Set_L1.eq_2] at hc1
   have hq29:=dlt hlt25
   refine sr<|s_q (.bool (decide ((s8_17:Int) < (s_1.length:Int)))) rfl rfl rfl<|dk<|awp_seq<|w_condt rfl hq29<|w_skip<|k_seq<|awp_seq<|w_blk<|sr<|s_mov (.int .i64 (s8_17:Int)) rfl<|s_mov (.int .i64 (s8_17:Int)) rfl<|dk<|sr<|?_
   obtain ⟨r_32,er33,hc1⟩:=ob hc1
   refine s_mov (.fn kf_f_2 cf_f_2) rfl<|s_mov (.lst 3 (s_1.map encGSet)) rfl<|s_mov (.int .i64 (s8_17:Int)) rfl<|s_do (o_iaddrn (enc:=encGSet) rfl rfl hx26)<|s_q (encGSet x_31) rfl nle rfl<|s_do (o_calvp (v:=(.bool r_32)) rfl okf_f_2 hcf_f_2 (hpf_f_2 _ _ er33) rfl (.refl _) rfl)<|dk<|?_
   rcases oi hc1 with ⟨c34,hc1⟩ | ⟨c34,hc1⟩
   ·refine w_condt rfl c34<|sr<|s_mov (.int .i64 (s8_17:Int)) rfl<|s_mov (.int .i64 (s8_17:Int)) rfl<|dk<|w_ret<|?_;obtain rfl:=os hc1;obtain rfl:=os hf;exact r_flat ⟨trivial,trivial⟩ rfl (.refl _)
   ·refine w_condf rfl (bf c34)<|w_skip<|k_blk<|k_seq<|w_reg<|s_q (.int .i64 (w64 ((s8_17:Int) + 1))) rfl rfl rfl<|s_mov (.int .i64 (w64 ((s8_17:Int) + 1))) rfl<|w_done<|?_;exact k_loopn ⟨(s8_17 + 1),hc1⟩ (mul hlt25) ⟨[],[],_,_,rfl,rfl,⟨.refl _,⟨.of_eq (congrArg (AV.fn _) (hrf_f_2 _)),⟨.refl _,⟨.of_eq (congrArg (AV.int _) (w64_incr hlt25 hl3)),trivial⟩⟩⟩⟩,(.refl _)⟩
 ·rintro ⟨_,rfl⟩
  refine sr<|s_mov (.int .i64 (-1)) rfl<|dk<|w_ret<|?_;obtain rfl:=os hf;exact r_flat ⟨trivial,trivial⟩ rfl (.refl _)

/- slices.ContainsFunc[[]impl.Set,impl.Set] -/
def c90:ACode :=
 (.seq (.reg (tm 4 (.c (.bool false)) .done))
 (.seq (.reg (tm 5 (.t 0) (tm 6 (.t 1) (tq 7 (.call 170 [(.t 5),(.t 6)]) (tq 8 (.bin .geq (.t 7) (.c (.int .i64 0))) (tm 4 (.t 8) .done))))))
 .ret))
theorem fc90:fcomp Tryz.prog Tryz.f90 = some (c90.erase,[.mov (.t 4)],9):=by kernel_rfl
def slices_ContainsFunc_impl_Set_impl_Set (s_1:(List GSet)) (f_2:(GSet → Option Bool)):Option Bool :=
    (slices_IndexFunc_impl_Set_impl_Set s_1 f_2).bind fun r_3 =>
    some (decide (r_3 ≥ 0))
theorem w_slices_ContainsFunc_impl_Set_impl_Set (s_1:(List GSet)) (f_2:(GSet → Option Bool)) (r:Bool) (hf:slices_ContainsFunc_impl_Set_impl_Set s_1 f_2 = some r) (kf_f_2:Nat) (cf_f_2:List AV) (okf_f_2:okFn Tryz.prog kf_f_2 = true) (hcf_f_2:∀ h p,closeWs h p cf_f_2 = some cf_f_2) (hrf_f_2:∀ f,rens f cf_f_2 = cf_f_2) (hpf_f_2:∀ a0 r,f_2 a0 = some r → CallOK Tryz.prog kf_f_2 .flat ([(encGSet a0)] ++ cf_f_2) (.bool r)):CallOK Tryz.prog 90 .flat [(.lst 3 (s_1.map encGSet)),(.fn kf_f_2 cf_f_2)] (.bool r):=by
 refine CallOK.of_awp mixed Tryz.func90 fc90 nle ?_;rw [argT_eq];unfold slices_ContainsFunc_impl_Set_impl_Set at hf;unfold c90;refine (show awp Tryz.prog false 0 _ (ofL [(0,(.lst 3 (s_1.map encGSet))),(1,(.fn kf_f_2 cf_f_2))]) [] _ from ?_);refine sr<|s_mov (.bool false) rfl<|dk<|sr<|?_
 obtain ⟨r_3,er4,hf⟩:=ob hf
 refine s_mov (.lst 3 (s_1.map encGSet)) rfl<|s_mov (.fn kf_f_2 cf_f_2) rfl<|s_do (o_call (w_slices_IndexFunc_impl_Set_impl_Set _ _ _ er4 kf_f_2 cf_f_2 okf_f_2 hcf_f_2 hrf_f_2 hpf_f_2) (cls_cons rfl (cls_cons (cls_fn hcf_f_2) rfl)) (.refl _) rfl)<|s_q (.bool (decide (r_3 ≥ 0))) rfl rfl rfl<|s_mov (.bool (decide (r_3 ≥ 0))) rfl<|dk<|w_ret<|?_;obtain rfl:=os hf;exact r_flat ⟨trivial,trivial⟩ rfl (.refl _)

/- impl.isDigit -/
def c145:ACode :=
 (.seq (.reg (tm 2 (.c (.bool false)) .done))
 (.seq (.reg (tm 3 (.t 0) (tq 4 (.bin .geq (.t 3) (.c (.int .u8 48))) (tm 5 (.t 4) (tg 6 5 true (.mov (.t 0)) (tg 7 5 true (.bin .leq (.t 6) (.c (.int .u8 57))) (tq 8 (.pick (.t 5) (.t 7) (.c (.bool false))) (tm 2 (.t 8) .done))))))))
 .ret))
theorem fc145:fcomp Tryz.prog Tryz.f145 = some (c145.erase,[.mov (.t 2)],9):=by kernel_rfl
def impl_isDigit (b_1:Int):Option Bool :=
    if (decide (b_1 ≥ 48)) then
    some (decide (b_1 ≤ 57))
    else
    some false
theorem w_impl_isDigit (b_1:Int) (r:Bool) (hf:impl_isDigit b_1 = some r):CallOK Tryz.prog 145 .flat [(.int .u8 b_1)] (.bool r):=by
 refine CallOK.of_awp mixed Tryz.func145 fc145 nle ?_;rw [argT_eq];unfold impl_isDigit at hf;unfold c145;refine (show awp Tryz.prog false 0 _ (ofL [(0,(.int .u8 b_1))]) [] _ from ?_);refine sr<|s_mov (.bool false) rfl<|dk<|sr<|?_
 rcases oi hf with ⟨c2,hf⟩ | ⟨c2,hf⟩
 ·refine s_mov (.int .u8 b_1) rfl<|s_q (.bool (decide (b_1 ≥ 48))) rfl rfl rfl<|s_mov (.bool (decide (b_1 ≥ 48))) rfl<|s_lit (s:=5) (b:=true) rfl c2<|s_on rfl<|s_mov (.int .u8 b_1) rfl<|s_on rfl<|s_q (.bool (decide (b_1 ≤ 57))) rfl rfl rfl<|s_q (.bool (decide (b_1 ≤ 57))) rfl trivial rfl<|s_mov (.bool (decide (b_1 ≤ 57))) rfl<|dk<|w_ret<|?_;obtain rfl:=os hf;exact r_flat ⟨trivial,trivial⟩ rfl (.refl _)
 ·refine s_mov (.int .u8 b_1) rfl<|s_q (.bool (decide (b_1 ≥ 48))) rfl rfl rfl<|s_mov (.bool (decide (b_1 ≥ 48))) rfl<|s_lit (s:=5) (b:=false) rfl (bf c2)<|s_off rfl rfl<|s_off rfl rfl<|s_q (.bool false) rfl trivial rfl<|s_mov (.bool false) rfl<|dk<|w_ret<|?_;obtain rfl:=os hf;exact r_flat ⟨trivial,trivial⟩ rfl (.refl _)

/- impl.NameOK -/
def c60:ACode :=
 (.seq (.reg (tm 2 (.c (.bool false)) .done))
 (.seq (.seq (.reg (tm 6 (.t 0) (tq 7 (.lenS (.t 6)) (tm 8 (.c (.int .i64 0)) .done))))
 (.block 0 (.loop (.seq (.reg (tq 9 (.bin .lss (.t 8) (.t 7)) .done))
 (.seq (.cond (.t 9) .skip
 (.exit 0))
 (.seq (.block 1 (.seq (.reg (tm 10 (.t 8) (tm 3 (.t 10) .done)))
 (.seq (.reg (tm 11 (.t 0) (tm 12 (.t 3) (tq 13 (.idxs (.t 11) (.t 12)) (tm 4 (.t 13) .done)))))
 (.seq (.reg (tm 14 (.t 4) (tq 15 (.bin .geq (.t 14) (.c (.int .u8 97))) (tm 16 (.t 15) (tg 17 16 true (.mov (.t 4)) (tg 18 16 true (.bin .leq (.t 17) (.c (.int .u8 122))) (tq 19 (.pick (.t 16) (.t 18) (.c (.bool false))) (tm 20 (.t 19) (tg 21 20 false (.mov (.t 4)) (tg 22 20 false (.bin .geq (.t 21) (.c (.int .u8 65))) (tg 23 20 false (.mov (.t 22)) (tg 24 23 true (.mov (.t 4)) (tg 25 23 true (.bin .leq (.t 24) (.c (.int .u8 90))) (tg 26 20 false (.pick (.t 23) (.t 25) (.c (.bool false))) (tq 27 (.pick (.t 20) (.c (.bool true)) (.t 26)) (tm 28 (.t 27) (tg 29 28 false (.mov (.t 4)) (tg 30 28 false (.bin .eql (.t 29) (.c (.int .u8 95))) (tq 31 (.pick (.t 28) (.c (.bool true)) (.t 30)) (tm 5 (.t 31) .done))))))))))))))))))))
 (.cut (.seq (.reg (tm 32 (.t 5) (tq 33 (.not (.t 32)) (tm 34 (.t 33) (tg 35 34 true (.mov (.t 3)) (tg 36 34 true (.bin .eql (.t 35) (.c (.int .i64 0))) (tg 37 34 true (.mov (.t 36)) (tg 38 37 false (.mov (.t 4)) (tg 39 37 false (.call 145 [(.t 38)]) (tg 40 37 false (.not (.t 39)) (tg 41 34 true (.pick (.t 37) (.c (.bool true)) (.t 40)) (tq 42 (.pick (.t 34) (.t 41) (.c (.bool false))) .done))))))))))))
 (.cut (.cond (.t 42) (.seq (.reg (tm 2 (.c (.bool false)) .done))
 .ret)
 .skip))))))))
 (.reg (tq 43 (.bin .add (.t 8) (.c (.int .i64 1))) (tm 8 (.t 43) .done)))))))))
 (.cut (.seq (.reg (tm 44 (.t 0) (tq 45 (.lenS (.t 44)) (tq 46 (.call 57 [(.t 45),(.c (.int .i64 1)),(.c (.int .i64 40))]) (tm 2 (.t 46) .done)))))
 .ret))))
theorem fc60:fcomp Tryz.prog Tryz.f60 = some (c60.erase,[.mov (.t 2)],47):=by kernel_rfl
def impl_NameOK_L1 :List UInt8 → Nat → Option (Fl Bool Unit)
  | [],s8_34 =>
    some (.go ())
  | x_57 :: xs,s8_34 =>
    ((some ():Option Unit)).bind fun _ =>
    ((if (!(bif (bif (bif (decide ((x_57.toNat:Int) ≥ 97)) then (decide ((x_57.toNat:Int) ≤ 122)) else false) then true else (bif (decide ((x_57.toNat:Int) ≥ 65)) then (decide ((x_57.toNat:Int) ≤ 90)) else false)) then true else ((x_57.toNat:Int) == 95))) then
    if ((s8_34:Int) == 0) then
    some true
    else
    (impl_isDigit (x_57.toNat:Int)).bind fun r_67 =>
    some (!r_67)
    else
    some false:Option Bool)).bind fun s42_63 =>
    if s42_63 then
    some (.ret false)
    else
    impl_NameOK_L1 xs (s8_34 + 1)

def impl_NameOK (t_1:Str):Option Bool :=
    (impl_NameOK_L1 t_1 0).bind fun q => (match q with
    | .ret r => some r
    | .go _ =>
    (impl_within (t_1.length:Int) 1 40).bind fun r_71 =>
    some r_71)
theorem w_impl_NameOK (t_1:Str) (r:Bool) (hf:impl_NameOK t_1 = some r):CallOK Tryz.prog 60 .flat [(.str t_1)] (.bool r):=by
 refine CallOK.of_awp mixed Tryz.func60 fc60 nle ?_;rw [argT_eq];unfold impl_NameOK at hf;unfold c60;refine (show awp Tryz.prog false 0 _ (ofL [(0,(.str t_1))]) [] _ from ?_);refine sr<|s_mov (.bool false) rfl<|dk<|awp_seq<|sr<|s_mov (.str t_1) rfl<|s_dof (o_lenS rfl) fun hl2 => s_mov (.int .i64 0) rfl<|dk<|?_
 obtain ⟨p50,hb1,hf⟩:=ob hf
 refine awp_cutx (X:={q:Unit // p50 = .go q}) (fun q => ([(0,(.str t_1))],[])) ?_ ?_
 ·refine awp_loop (X:={q:Nat // impl_NameOK_L1 (t_1.drop q) q = some p50}) (fun q => ([(0,(.str t_1)),(7,(.int .i64 (t_1.length:Int))),(8,(.int .i64 (q.1:Int)))],[])) (fun q => t_1.length - q.1) ⟨0,hb1⟩ ⟨[],[],_,_,rfl,rfl,⟨.refl _,⟨.refl _,⟨.refl _,trivial⟩⟩⟩,(.refl _)⟩ ?_
  rintro ⟨s8_34,hc1⟩
  have hc1:impl_NameOK_L1 (t_1.drop s8_34) s8_34 = some p50:=hc1
  refine (show awp Tryz.prog false 0 _ (ofL [(0,(.str t_1)),(7,(.int .i64 (t_1.length:Int))),(8,(.int .i64 (s8_34:Int)))]) [] _ from ?_)
  rcases dropc t_1 s8_34 with ⟨hie53,hd56⟩ | ⟨hlt51,x_57,hx52,hd56⟩
  ·rw [hd56,impl_NameOK_L1.eq_1] at hc1
   have hq55:=dlf hie53
   refine sr<|s_q (.bool (decide ((s8_34:Int) < (t_1.length:Int)))) rfl rfl rfl<|dk<|awp_seq<|w_condf rfl hq55<|w_exit<|k_seqx<|k_loopx<|k_blkx<|?_;obtain rfl:=os hc1;exact k_cutn ⟨_,rfl⟩ ⟨[],[],_,_,rfl,rfl,⟨.refl _,trivial⟩,(.refl _)⟩
  ·rw [hd56,impl_NameOK_L1.eq_2] at hc1
   have hq55:=dlt hlt51
   refine sr<|s_q (.bool (decide ((s8_34:Int) < (t_1.length:Int)))) rfl rfl rfl<|dk<|awp_seq<|w_condt rfl hq55<|w_skip<|k_seq<|awp_seq<|w_blk<|sr<|s_mov (.int .i64 (s8_34:Int)) rfl<|s_mov (.int .i64 (s8_34:Int)) rfl<|dk<|sr<|s_mov (.str t_1) rfl<|s_mov (.int .i64 (s8_34:Int)) rfl<|s_do (o_idxsn rfl rfl hx52)<|s_mov (.int .u8 (x_57.toNat:Int)) rfl<|dk<|awp_seq<|?_
   obtain ⟨p58,hb2,hc1⟩:=ob hc1
   refine awp_cut ([(0,(.str t_1)),(3,(.int .i64 (s8_34:Int))),(4,(.int .u8 (x_57.toNat:Int))),(5,(.bool (bif (bif (bif (decide ((x_57.toNat:Int) ≥ 97)) then (decide ((x_57.toNat:Int) ≤ 122)) else false) then true else (bif (decide ((x_57.toNat:Int) ≥ 65)) then (decide ((x_57.toNat:Int) ≤ 90)) else false)) then true else ((x_57.toNat:Int) == 95)))),(7,(.int .i64 (t_1.length:Int))),(8,(.int .i64 (s8_34:Int)))],[]) ?_ ?_
   ·refine w_reg<|s_mov (.int .u8 (x_57.toNat:Int)) rfl<|s_q (.bool (decide ((x_57.toNat:Int) ≥ 97))) rfl rfl rfl<|s_mov (.bool (decide ((x_57.toNat:Int) ≥ 97))) rfl<|?_;refine s_g (v:=(decide ((x_57.toNat:Int) ≥ 97))) (.int .u8 (x_57.toNat:Int)) rfl (fun hv => by (try simp only [gs_on hv]);exact ⟨rfl,trivial,rfl⟩) ?_;refine s_g (v:=(decide ((x_57.toNat:Int) ≥ 97))) (.bool (decide ((x_57.toNat:Int) ≤ 122))) rfl (fun hv => by (try simp only [gs_on hv]);exact ⟨rfl,rfl,rfl⟩) ?_;refine s_pick (x:=(decide ((x_57.toNat:Int) ≤ 122))) (y:=false) rfl (fun hv => by (try simp only [gs_on hv]);rfl) (fun hv => by (try simp only [gs_on hv]);rfl) ?_;refine s_mov (.bool (bif (decide ((x_57.toNat:Int) ≥ 97)) then (decide ((x_57.toNat:Int) ≤ 122)) else false)) rfl ?_
    refine s_g (v:=(bif (decide ((x_57.toNat:Int) ≥ 97)) then (decide ((x_57.toNat:Int) ≤ 122)) else false)) (.int .u8 (x_57.toNat:Int)) rfl (fun hv => by (try simp only [gs_on hv]);exact ⟨rfl,trivial,rfl⟩) ?_;refine s_g (v:=(bif (decide ((x_57.toNat:Int) ≥ 97)) then (decide ((x_57.toNat:Int) ≤ 122)) else false)) (.bool (decide ((x_57.toNat:Int) ≥ 65))) rfl (fun hv => by (try simp only [gs_on hv]);exact ⟨rfl,rfl,rfl⟩) ?_;refine s_g (v:=(bif (decide ((x_57.toNat:Int) ≥ 97)) then (decide ((x_57.toNat:Int) ≤ 122)) else false)) (.bool (decide ((x_57.toNat:Int) ≥ 65))) rfl (fun hv => by (try simp only [gs_on hv]);exact ⟨rfl,trivial,rfl⟩) ?_;refine s_gg (v1:=(bif (decide ((x_57.toNat:Int) ≥ 97)) then (decide ((x_57.toNat:Int) ≤ 122)) else false)) (b1:=false) (v2:=(decide ((x_57.toNat:Int) ≥ 65))) (.int .u8 (x_57.toNat:Int)) rfl (fun hv hw => by (try simp only [gs_on hv,gs_on hw]);exact ⟨rfl,trivial,rfl⟩) ?_
    refine s_gg (v1:=(bif (decide ((x_57.toNat:Int) ≥ 97)) then (decide ((x_57.toNat:Int) ≤ 122)) else false)) (b1:=false) (v2:=(decide ((x_57.toNat:Int) ≥ 65))) (.bool (decide ((x_57.toNat:Int) ≤ 90))) rfl (fun hv hw => by (try simp only [gs_on hv,gs_on hw]);exact ⟨rfl,rfl,rfl⟩) ?_;refine s_gp (v1:=(bif (decide ((x_57.toNat:Int) ≥ 97)) then (decide ((x_57.toNat:Int) ≤ 122)) else false)) (b1:=false) (v2:=(decide ((x_57.toNat:Int) ≥ 65))) (x:=(decide ((x_57.toNat:Int) ≤ 90))) (y:=false) rfl (fun hv => by (try simp only [gs_on hv]);rfl) (fun hv hw => by (try simp only [gs_on hv,gs_on hw]);rfl) (fun hv hw => by (try simp only [gs_on hv,gs_on hw]);rfl) ?_;refine s_pick (x:=true) (y:=(bif (decide ((x_57.toNat:Int) ≥ 65)) then (decide ((x_57.toNat:Int) ≤ 90)) else false)) rfl (fun hv => by (try simp only [gs_on hv]);rfl) (fun hv => by (try simp only [gs_on hv]);rfl) ?_
    refine s_mov (.bool (bif (bif (decide ((x_57.toNat:Int) ≥ 97)) then (decide ((x_57.toNat:Int) ≤ 122)) else false) then true else (bif (decide ((x_57.toNat:Int) ≥ 65)) then (decide ((x_57.toNat:Int) ≤ 90)) else false))) rfl ?_;refine s_g (v:=(bif (bif (decide ((x_57.toNat:Int) ≥ 97)) then (decide ((x_57.toNat:Int) ≤ 122)) else false) then true else (bif (decide ((x_57.toNat:Int) ≥ 65)) then (decide ((x_57.toNat:Int) ≤ 90)) else false))) (.int .u8 (x_57.toNat:Int)) rfl (fun hv => by (try simp only [gs_on hv]);exact ⟨rfl,trivial,rfl⟩) ?_;refine s_g (v:=(bif (bif (decide ((x_57.toNat:Int) ≥ 97)) then (decide ((x_57.toNat:Int) ≤ 122)) else false) then true else (bif (decide ((x_57.toNat:Int) ≥ 65)) then (decide ((x_57.toNat:Int) ≤ 90)) else false))) (.bool ((x_57.toNat:Int) == 95)) rfl (fun hv => by (try simp only [gs_on hv]);exact ⟨rfl,rfl,rfl⟩) ?_
    refine s_pick (x:=true) (y:=((x_57.toNat:Int) == 95)) rfl (fun hv => by (try simp only [gs_on hv]);rfl) (fun hv => by (try simp only [gs_on hv]);rfl) ?_;refine s_mov (.bool (bif (bif (bif (decide ((x_57.toNat:Int) ≥ 97)) then (decide ((x_57.toNat:Int) ≤ 122)) else false) then true else (bif (decide ((x_57.toNat:Int) ≥ 65)) then (decide ((x_57.toNat:Int) ≤ 90)) else false)) then true else ((x_57.toNat:Int) == 95))) rfl<|w_done<|?_;obtain rfl:=os hb2;exact ⟨[],[],_,_,rfl,rfl,⟨.refl _,⟨.refl _,⟨.refl _,⟨.refl _,⟨.refl _,⟨.refl _,trivial⟩⟩⟩⟩⟩⟩,(.refl _)⟩
   ·refine awp_seq ?_
    obtain ⟨s42_63,hb2,hc1⟩:=ob hc1
    refine awp_cut ([(0,(.str t_1)),(7,(.int .i64 (t_1.length:Int))),(8,(.int .i64 (s8_34:Int))),(42,(.bool s42_63))],[]) ?_ ?_
    ·refine w_reg ?_
     rcases oi hb2 with ⟨c65,hb2⟩ | ⟨c65,hb2⟩
     ·rcases oi hb2 with ⟨c66,hb2⟩ | ⟨c66,hb2⟩
      ·refine s_mov (.bool (bif (bif (bif (decide ((x_57.toNat:Int) ≥ 97)) then (decide ((x_57.toNat:Int) ≤ 122)) else false) then true else (bif (decide ((x_57.toNat:Int) ≥ 65)) then (decide ((x_57.toNat:Int) ≤ 90)) else false)) then true else ((x_57.toNat:Int) == 95))) rfl<|s_q (.bool (!(bif (bif (bif (decide ((x_57.toNat:Int) ≥ 97)) then (decide ((x_57.toNat:Int) ≤ 122)) else false) then true else (bif (decide ((x_57.toNat:Int) ≥ 65)) then (decide ((x_57.toNat:Int) ≤ 90)) else false)) then true else ((x_57.toNat:Int) == 95)))) rfl trivial rfl<|s_mov (.bool (!(bif (bif (bif (decide ((x_57.toNat:Int) ≥ 97)) then (decide ((x_57.toNat:Int) ≤ 122)) else false) then true else (bif (decide ((x_57.toNat:Int) ≥ 65)) then (decide ((x_57.toNat:Int) ≤ 90)) else false)) then true else ((x_57.toNat:Int) == 95)))) rfl<|?_
       refine s_lit (s:=34) (b:=true) rfl c65<|s_on rfl<|s_mov (.int .i64 (s8_34:Int)) rfl<|s_on rfl<|s_q (.bool ((s8_34:Int) == 0)) rfl rfl rfl<|s_on rfl<|s_mov (.bool ((s8_34:Int) == 0)) rfl<|s_lit (s:=37) (b:=true) rfl c66<|s_off rfl rfl<|s_off rfl rfl<|s_off rfl rfl<|s_on rfl<|s_q (.bool true) rfl trivial rfl<|s_q (.bool true) rfl trivial rfl<|w_done<|?_;obtain rfl:=os hb2;exact ⟨[],[],_,_,rfl,rfl,⟨.refl _,⟨.refl _,⟨.refl _,⟨.refl _,trivial⟩⟩⟩⟩,(.refl _)⟩
      ·obtain ⟨r_67,er68,hb2⟩:=ob hb2
       refine s_mov (.bool (bif (bif (bif (decide ((x_57.toNat:Int) ≥ 97)) then (decide ((x_57.toNat:Int) ≤ 122)) else false) then true else (bif (decide ((x_57.toNat:Int) ≥ 65)) then (decide ((x_57.toNat:Int) ≤ 90)) else false)) then true else ((x_57.toNat:Int) == 95))) rfl<|s_q (.bool (!(bif (bif (bif (decide ((x_57.toNat:Int) ≥ 97)) then (decide ((x_57.toNat:Int) ≤ 122)) else false) then true else (bif (decide ((x_57.toNat:Int) ≥ 65)) then (decide ((x_57.toNat:Int) ≤ 90)) else false)) then true else ((x_57.toNat:Int) == 95)))) rfl trivial rfl<|s_mov (.bool (!(bif (bif (bif (decide ((x_57.toNat:Int) ≥ 97)) then (decide ((x_57.toNat:Int) ≤ 122)) else false) then true else (bif (decide ((x_57.toNat:Int) ≥ 65)) then (decide ((x_57.toNat:Int) ≤ 90)) else false)) then true else ((x_57.toNat:Int) == 95)))) rfl<|?_
       refine s_lit (s:=34) (b:=true) rfl c65<|s_on rfl<|s_mov (.int .i64 (s8_34:Int)) rfl<|s_on rfl<|s_q (.bool ((s8_34:Int) == 0)) rfl rfl rfl<|s_on rfl<|s_mov (.bool ((s8_34:Int) == 0)) rfl<|s_lit (s:=37) (b:=false) rfl (bf c66)<|s_on rfl<|s_mov (.int .u8 (x_57.toNat:Int)) rfl<|s_on rfl<|s_do (o_call (w_impl_isDigit _ _ er68) rfl (.refl _) rfl)<|s_on rfl<|s_q (.bool (!r_67)) rfl trivial rfl<|s_on rfl<|s_q (.bool (!r_67)) rfl trivial rfl<|s_q (.bool (!r_67)) rfl trivial rfl<|w_done<|?_;obtain rfl:=os hb2;exact ⟨[],[],_,_,rfl,rfl,⟨.refl _,⟨.refl _,⟨.refl _,⟨.refl _,trivial⟩⟩⟩⟩,(.refl _)⟩
     ·refine s_mov (.bool (bif (bif (bif (decide ((x_57.toNat:Int) ≥ 97)) then (decide ((x_57.toNat:Int) ≤ 122)) else false) then true else (bif (decide ((x_57.toNat:Int) ≥ 65)) then (decide ((x_57.toNat:Int) ≤ 90)) else false)) then true else ((x_57.toNat:Int) == 95))) rfl<|s_q (.bool (!(bif (bif (bif (decide ((x_57.toNat:Int) ≥ 97)) then (decide ((x_57.toNat:Int) ≤ 122)) else false) then true else (bif (decide ((x_57.toNat:Int) ≥ 65)) then (decide ((x_57.toNat:Int) ≤ 90)) else false)) then true else ((x_57.toNat:Int) == 95)))) rfl trivial rfl<|s_mov (.bool (!(bif (bif (bif (decide ((x_57.toNat:Int) ≥ 97)) then (decide ((x_57.toNat:Int) ≤ 122)) else false) then true else (bif (decide ((x_57.toNat:Int) ≥ 65)) then (decide ((x_57.toNat:Int) ≤ 90)) else false)) then true else ((x_57.toNat:Int) == 95)))) rfl<|?_
      refine s_lit (s:=34) (b:=false) rfl (bf c65)<|s_off rfl rfl<|s_off rfl rfl<|s_off rfl rfl<|s_offs rfl<|s_offs rfl<|s_offs rfl<|s_off rfl rfl<|s_q (.bool false) rfl trivial rfl<|w_done<|?_;obtain rfl:=os hb2;exact ⟨[],[],_,_,rfl,rfl,⟨.refl _,⟨.refl _,⟨.refl _,⟨.refl _,trivial⟩⟩⟩⟩,(.refl _)⟩
    ·rcases oi hc1 with ⟨c69,hc1⟩ | ⟨c69,hc1⟩
     ·refine w_condt rfl c69<|sr<|s_mov (.bool false) rfl<|dk<|w_ret<|?_;obtain rfl:=os hc1;obtain rfl:=os hf;exact r_flat ⟨trivial,trivial⟩ rfl (.refl _)
     ·refine w_condf rfl (bf c69)<|w_skip<|k_blk<|k_seq<|w_reg<|s_q (.int .i64 (w64 ((s8_34:Int) + 1))) rfl rfl rfl<|s_mov (.int .i64 (w64 ((s8_34:Int) + 1))) rfl<|w_done<|?_;exact k_loopn ⟨(s8_34 + 1),hc1⟩ (mul hlt51) ⟨[],[],_,_,rfl,rfl,⟨.refl _,⟨.refl _,⟨.of_eq (congrArg (AV.int _) (w64_incr hlt51 hl2)),trivial⟩⟩⟩,(.refl _)⟩
 ·rintro ⟨_,rfl⟩
  refine sr<|?_
  obtain ⟨r_71,er72,hf⟩:=ob hf
  refine s_mov (.str t_1) rfl<|s_dof (o_lenS rfl) fun hl70 => s_do (o_call (w_impl_within _ _ _ _ er72) rfl (.refl _) rfl)<|s_mov (.bool r_71) rfl<|dk<|w_ret<|?_;obtain rfl:=os hf;exact r_flat ⟨trivial,trivial⟩ rfl (.refl _)

/- impl.setOK$1 -/
def c212:ACode :=
 (.seq (.reg (tm 2 (.c (.bool false)) .done))
 (.seq (.reg (tm 3 (.t 0) (tq 4 (.call 60 [(.t 3)]) (tq 5 (.not (.t 4)) (tm 2 (.t 5) .done)))))
 .ret))
theorem fc212:fcomp Tryz.prog Tryz.f212 = some (c212.erase,[.mov (.t 2)],6):=by kernel_rfl
def impl_setOK_1 (name_1:Str):Option Bool :=
    (impl_NameOK name_1).bind fun r_2 =>
    some (!r_2)
theorem w_impl_setOK_1 (name_1:Str) (r:Bool) (hf:impl_setOK_1 name_1 = some r):CallOK Tryz.prog 212 .flat [(.str name_1)] (.bool r):=by
  refine CallOK.of_awp mixed Tryz.func212 fc212 nle ?_
  rw [argT_eq]
  unfold impl_setOK_1 at hf
  unfold c212
  refine (show awp Tryz.prog false 0 _ (ofL [(0,(.str name_1))]) [] _ from ?_)
  refine awp_seq ?_
  refine w_reg ?_
  refine s_do (o_mov (.bool false) rfl) ?_
  refine w_done ?_
  refine k_seq ?_
  refine awp_seq ?_
  refine w_reg ?_
  obtain ⟨r_2,er3,hf⟩:=ob hf
  refine s_do (o_mov (.str name_1) rfl) ?_
  refine s_do (o_call (w_impl_NameOK _ _ er3) rfl (.refl _) rfl) ?_
  refine s_do (o_q (.bool (!r_2)) rfl trivial rfl) ?_
  refine s_do (o_mov (.bool (!r_2)) rfl) ?_
  refine w_done ?_
  refine k_seq ?_
  refine w_ret ?_
  obtain rfl:=os hf
  exact r_flat ⟨trivial,trivial⟩ rfl (.refl _)

/- impl.setOK -/
def c143:ACode :=
 (.seq (.reg (tq 1 (.box 3 (.t 0)) (tm 2 (.c (.bool false)) .done)))
 (.seq (.seq (.reg (tq 3 (.faddr 0 (.t 1)) (tq 4 (.load 1 false (.t 3)) (tq 5 (.bslice 1 [(.t 4)]) (tq 6 (.call 53 [(.t 5)]) (tq 7 (.not (.t 6)) (tm 8 (.t 7) (tg 9 8 false (.faddr 1 (.t 1)) (tg 10 8 false (.load 1 false (.t 9)) (tg 11 8 false (.call 149 [(.t 10)]) (tg 12 8 false (.not (.t 11)) (tq 13 (.pick (.t 8) (.c (.bool true)) (.t 12)) (tm 14 (.t 13) (tg 15 14 false (.faddr 1 (.t 1)) (tg 16 14 false (.load 1 false (.t 15)) (tg 17 14 false (.len (.t 16)) (tg 18 14 false (.bin .gtr (.t 17) (.c (.int .i64 0))) (tg 19 14 false (.mov (.t 18)) (tg 20 19 true (.faddr 2 (.t 1)) (tg 21 19 true (.load 1 false (.t 20)) (tg 22 19 true (.len (.t 21)) (tg 23 19 true (.bin .gtr (.t 22) (.c (.int .i64 0))) (tg 24 14 false (.pick (.t 19) (.t 23) (.c (.bool false))) (tq 25 (.pick (.t 14) (.c (.bool true)) (.t 24)) (tm 26 (.t 25) (tg 27 26 false (.faddr 2 (.t 1)) (tg 28 26 false (.load 1 false (.t 27)) (tg 29 26 false (.len (.t 28)) (tg 30 26 false (.bin .gtr (.t 29) (.c (.int .i64 8))) (tq 31 (.pick (.t 26) (.c (.bool true)) (.t 30)) .done))))))))))))))))))))))))))))))
 (.cut (.cond (.t 31) (.seq (.reg (tm 2 (.c (.bool false)) .done))
 .ret)
 .skip)))
 (.seq (.reg (tq 32 (.faddr 2 (.t 1)) (tq 33 (.load 1 false (.t 32)) (tq 34 (.call 58 [(.t 33),(.c (.fn 212 []))]) (tq 35 (.not (.t 34)) (tm 2 (.t 35) .done))))))
 .ret)))
theorem fc143:fcomp Tryz.prog Tryz.f143 = some (c143.erase,[.mov (.t 2)],36):=by kernel_rfl
def impl_setOK (x_1:GSet):Option Bool :=
    (((impl_areShort [x_1.Column]).bind fun r_12 =>
    if (!r_12) then
    some true
    else
    (impl_DatumOK x_1.Value).bind fun r_15 =>
    some (bif (bif (!r_15) then true else (bif (decide ((x_1.Value.length:Int) > 0)) then (decide ((x_1.Names.length:Int) > 0)) else false)) then true else (decide ((x_1.Names.length:Int) > 8))):Option Bool)).bind fun s31_10 =>
    if s31_10 then
    some false
    else
    (slices_ContainsFunc_string_string x_1.Names impl_setOK_1).bind fun r_21 =>
    some (!r_21)
theorem w_impl_setOK (x_1:GSet) (r:Bool) (hf:impl_setOK x_1 = some r):CallOK Tryz.prog 143 .flat [(encGSet x_1)] (.bool r):=by
 refine CallOK.of_awp mixed Tryz.func143 fc143 nle ?_;rw [argT_eq];unfold impl_setOK at hf;unfold c143;refine (show awp Tryz.prog false 0 _ (ofL [(0,(encGSet x_1))]) [] _ from ?_);refine sr<|s_do (o_box (j:=0) (c:=(.agg [(.str x_1.Column),(.lst 3 (x_1.Value.map encGAtom)),(.lst 1 (x_1.Names.map AV.str))])) rfl trivial rfl rfl)<|s_mov (.bool false) rfl<|dk<|awp_seq<|awp_seq<|?_
 obtain ⟨s31_10,hb1,hf⟩:=ob hf
 refine awp_cut ([(1,(.ptr 0 0 0)),(31,(.bool s31_10))],[.box 3 (.agg [(.str x_1.Column),(.lst 3 (x_1.Value.map encGAtom)),(.lst 1 (x_1.Names.map AV.str))])]) ?_ ?_
 ·refine w_reg<|s_q (.ptr 0 0 0) rfl trivial rfl<|s_q (.str x_1.Column) rfl nle rfl<|?_;refine s_do (o_bslice (j:=1) (as':=[(.str x_1.Column)]) rfl (fun _ => by decide) ⟨rfl,trivial⟩ (.refl _) rfl rfl rfl) ?_
  obtain ⟨r_12,er13,hb1⟩:=ob hb1
  refine s_do (o_call (w_impl_areShort _ _ er13) rfl (.cons (.of_eq (congrArg (AV.lst _) (tko [x_1.Column]))) .nil) rfl)<|s_q (.bool (!r_12)) rfl trivial rfl<|s_mov (.bool (!r_12)) rfl<|?_
  rcases oi hb1 with ⟨c14,hb1⟩ | ⟨c14,hb1⟩
  ·refine s_lit (s:=8) (b:=true) rfl c14<|s_off rfl rfl<|s_off rfl rfl<|s_off rfl rfl<|s_off rfl rfl<|s_q (.bool true) rfl trivial rfl<|s_mov (.bool true) rfl<|s_off rfl rfl<|s_off rfl rfl<|s_off rfl rfl<|s_off rfl rfl<|s_off rfl rfl<|s_offs rfl<|s_offs rfl<|s_offs rfl<|s_offs rfl<|s_off rfl rfl<|s_q (.bool true) rfl trivial rfl<|s_mov (.bool true) rfl<|s_off rfl rfl<|s_off rfl rfl<|s_off rfl rfl<|s_off rfl rfl<|s_q (.bool true) rfl trivial rfl<|w_done<|?_;obtain rfl:=os hb1;exact ⟨[],[0],_,_,rfl,rfl,⟨.refl _,⟨.refl _,trivial⟩⟩,(.refl _)⟩
  ·refine s_lit (s:=8) (b:=false) rfl (bf c14)<|s_on rfl<|s_q (.ptr 0 0 1) rfl trivial rfl<|s_on rfl<|s_q (.lst 3 (x_1.Value.map encGAtom)) rfl nle rfl<|s_on rfl<|?_
   obtain ⟨r_15,er16,hb1⟩:=ob hb1
   refine s_do (o_call (w_impl_DatumOK _ _ er16) rfl (.refl _) rfl)<|s_on rfl<|s_q (.bool (!r_15)) rfl trivial rfl<|s_q (.bool (!r_15)) rfl trivial rfl<|s_mov (.bool (!r_15)) rfl<|?_;refine s_g (v:=(!r_15)) (.ptr 0 0 1) rfl (fun hv => by (try simp only [gs_on hv]);exact ⟨rfl,trivial,rfl⟩) ?_;refine s_g (v:=(!r_15)) (.lst 3 (x_1.Value.map encGAtom)) rfl (fun hv => by (try simp only [gs_on hv]);exact ⟨rfl,nle,rfl⟩) ?_;refine s_g (v:=(!r_15)) (.int .i64 (x_1.Value.length:Int)) rfl (fun hv => by (try simp only [gs_on hv]);exact ⟨rfl,trivial,lenV _ _⟩) ?_;refine s_g (v:=(!r_15)) (.bool (decide ((x_1.Value.length:Int) > 0))) rfl (fun hv => by (try simp only [gs_on hv]);exact ⟨rfl,rfl,rfl⟩) ?_
   refine s_g (v:=(!r_15)) (.bool (decide ((x_1.Value.length:Int) > 0))) rfl (fun hv => by (try simp only [gs_on hv]);exact ⟨rfl,trivial,rfl⟩) ?_;refine s_gg (v1:=(!r_15)) (b1:=false) (v2:=(decide ((x_1.Value.length:Int) > 0))) (.ptr 0 0 2) rfl (fun hv hw => by (try simp only [gs_on hv,gs_on hw]);exact ⟨rfl,trivial,rfl⟩) ?_;refine s_gg (v1:=(!r_15)) (b1:=false) (v2:=(decide ((x_1.Value.length:Int) > 0))) (.lst 1 (x_1.Names.map AV.str)) rfl (fun hv hw => by (try simp only [gs_on hv,gs_on hw]);exact ⟨rfl,nle,rfl⟩) ?_;refine s_gg (v1:=(!r_15)) (b1:=false) (v2:=(decide ((x_1.Value.length:Int) > 0))) (.int .i64 (x_1.Names.length:Int)) rfl (fun hv hw => by (try simp only [gs_on hv,gs_on hw]);exact ⟨rfl,trivial,lenV _ _⟩) ?_
   refine s_gg (v1:=(!r_15)) (b1:=false) (v2:=(decide ((x_1.Value.length:Int) > 0))) (.bool (decide ((x_1.Names.length:Int) > 0))) rfl (fun hv hw => by (try simp only [gs_on hv,gs_on hw]);exact ⟨rfl,rfl,rfl⟩) ?_;refine s_gp (v1:=(!r_15)) (b1:=false) (v2:=(decide ((x_1.Value.length:Int) > 0))) (x:=(decide ((x_1.Names.length:Int) > 0))) (y:=false) rfl (fun hv => by (try simp only [gs_on hv]);rfl) (fun hv hw => by (try simp only [gs_on hv,gs_on hw]);rfl) (fun hv hw => by (try simp only [gs_on hv,gs_on hw]);rfl) ?_;refine s_pick (x:=true) (y:=(bif (decide ((x_1.Value.length:Int) > 0)) then (decide ((x_1.Names.length:Int) > 0)) else false)) rfl (fun hv => by (try simp only [gs_on hv]);rfl) (fun hv => by (try simp only [gs_on hv]);rfl) ?_
   refine s_mov (.bool (bif (!r_15) then true else (bif (decide ((x_1.Value.length:Int) > 0)) then (decide ((x_1.Names.length:Int) > 0)) else false))) rfl ?_;refine s_g (v:=(bif (!r_15) then true else (bif (decide ((x_1.Value.length:Int) > 0)) then (decide ((x_1.Names.length:Int) > 0)) else false))) (.ptr 0 0 2) rfl (fun hv => by (try simp only [gs_on hv]);exact ⟨rfl,trivial,rfl⟩) ?_;refine s_g (v:=(bif (!r_15) then true else (bif (decide ((x_1.Value.length:Int) > 0)) then (decide ((x_1.Names.length:Int) > 0)) else false))) (.lst 1 (x_1.Names.map AV.str)) rfl (fun hv => by (try simp only [gs_on hv]);exact ⟨rfl,nle,rfl⟩) ?_;refine s_g (v:=(bif (!r_15) then true else (bif (decide ((x_1.Value.length:Int) > 0)) then (decide ((x_1.Names.length:Int) > 0)) else false))) (.int .i64 (x_1.Names.length:Int)) rfl (fun hv => by (try simp only [gs_on hv]);exact ⟨rfl,trivial,lenV _ _⟩) ?_
   refine s_g (v:=(bif (!r_15) then true else (bif (decide ((x_1.Value.length:Int) > 0)) then (decide ((x_1.Names.length:Int) > 0)) else false))) (.bool (decide ((x_1.Names.length:Int) > 8))) rfl (fun hv => by (try simp only [gs_on hv]);exact ⟨rfl,rfl,rfl⟩) ?_;refine s_pick (x:=true) (y:=(decide ((x_1.Names.length:Int) > 8))) rfl (fun hv => by (try simp only [gs_on hv]);rfl) (fun hv => by (try simp only [gs_on hv]);rfl) ?_;refine w_done ?_;obtain rfl:=os hb1;exact ⟨[],[0],_,_,rfl,rfl,⟨.refl _,⟨.refl _,trivial⟩⟩,(.refl _)⟩
 ·rcases oi hf with ⟨c20,hf⟩ | ⟨c20,hf⟩
  ·refine w_condt rfl c20<|sr<|s_mov (.bool false) rfl<|dk<|w_ret<|?_;obtain rfl:=os hf;exact r_flat ⟨trivial,trivial⟩ rfl (.refl _)
  ·refine w_condf rfl (bf c20)<|w_skip<|k_seq<|sr<|?_
   obtain ⟨r_21,er22,hf⟩:=ob hf
   refine s_q (.ptr 0 0 2) rfl trivial rfl<|s_q (.lst 1 (x_1.Names.map AV.str)) rfl nle rfl<|?_;refine s_do (o_call (w_slices_ContainsFunc_string_string _ _ _ er22 212 [] (by kernel_rfl) (fun _ _ => rfl) (fun _ => rfl) (fun a0 r h => w_impl_setOK_1 a0 r h)) rfl (.refl _) rfl) ?_;refine s_q (.bool (!r_21)) rfl trivial rfl<|s_mov (.bool (!r_21)) rfl<|dk<|w_ret<|?_;obtain rfl:=os hf;exact r_flat ⟨trivial,trivial⟩ rfl (.refl _)

/- impl.setsOK$1 -/
def c142:ACode :=
 (.seq (.reg (tq 1 (.box 3 (.t 0)) (tm 2 (.c (.bool false)) .done)))
 (.seq (.reg (tq 3 (.load 3 true (.t 1)) (tq 4 (.call 143 [(.t 3)]) (tq 5 (.not (.t 4)) (tm 2 (.t 5) .done)))))
 .ret))
theorem fc142:fcomp Tryz.prog Tryz.f142 = some (c142.erase,[.mov (.t 2)],6):=by kernel_rfl
def impl_setsOK_1 (x_1:GSet):Option Bool :=
    (impl_setOK x_1).bind fun r_2 =>
    some (!r_2)
theorem w_impl_setsOK_1 (x_1:GSet) (r:Bool) (hf:impl_setsOK_1 x_1 = some r):CallOK Tryz.prog 142 .flat [(encGSet x_1)] (.bool r):=by
  refine CallOK.of_awp mixed Tryz.func142 fc142 nle ?_
  rw [argT_eq]
  unfold impl_setsOK_1 at hf
  unfold c142
  refine (show awp Tryz.prog false 0 _ (ofL [(0,(encGSet x_1))]) [] _ from ?_)
  refine awp_seq ?_
  refine w_reg ?_
  refine s_do (o_box (j:=0) (c:=(.agg [(.str x_1.Column),(.lst 3 (x_1.Value.map encGAtom)),(.lst 1 (x_1.Names.map AV.str))])) rfl trivial rfl rfl) ?_
  refine s_do (o_mov (.bool false) rfl) ?_
  refine w_done ?_
  refine k_seq ?_
  refine awp_seq ?_
  refine w_reg ?_
  obtain ⟨r_2,er3,hf⟩:=ob hf
  refine s_do (o_q (.agg [(.str x_1.Column),(.lst 3 (x_1.Value.map encGAtom)),(.lst 1 (x_1.Names.map AV.str))]) rfl nle rfl) ?_
  refine s_do (o_call (w_impl_setOK _ _ er3) rfl (.refl _) rfl) ?_
  refine s_do (o_q (.bool (!r_2)) rfl trivial rfl) ?_
  refine s_do (o_mov (.bool (!r_2)) rfl) ?_
  refine w_done ?_
  refine k_seq ?_
  refine w_ret ?_
  obtain rfl:=os hf
  exact r_flat ⟨trivial,trivial⟩ rfl (.refl _)

/- impl.setsOK -/
def c56:ACode :=
 (.seq (.reg (tm 2 (.c (.bool false)) .done))
 (.seq (.reg (tm 3 (.t 0) (tq 4 (.len (.t 3)) (tq 5 (.bin .leq (.t 4) (.c (.int .i64 6))) (tm 6 (.t 5) (tg 7 6 true (.mov (.t 0)) (tg 8 6 true (.call 90 [(.t 7),(.c (.fn 142 []))]) (tg 9 6 true (.not (.t 8)) (tq 10 (.pick (.t 6) (.t 9) (.c (.bool false))) (tm 2 (.t 10) .done))))))))))
 .ret))
theorem fc56:fcomp Tryz.prog Tryz.f56 = some (c56.erase,[.mov (.t 2)],11):=by kernel_rfl
def impl_setsOK (list_1:(List GSet)):Option Bool :=
    if (decide ((list_1.length:Int) ≤ 6)) then
    (slices_ContainsFunc_impl_Set_impl_Set list_1 impl_setsOK_1).bind fun r_4 =>
    some (!r_4)
    else
    some false
theorem w_impl_setsOK (list_1:(List GSet)) (r:Bool) (hf:impl_setsOK list_1 = some r):CallOK Tryz.prog 56 .flat [(.lst 3 (list_1.map encGSet))] (.bool r):=by
 refine CallOK.of_awp mixed Tryz.func56 fc56 nle ?_;rw [argT_eq];unfold impl_setsOK at hf;unfold c56;refine (show awp Tryz.prog false 0 _ (ofL [(0,(.lst 3 (list_1.map encGSet)))]) [] _ from ?_);refine sr<|s_mov (.bool false) rfl<|dk<|sr<|?_
 rcases oi hf with ⟨c3,hf⟩ | ⟨c3,hf⟩
 ·obtain ⟨r_4,er5,hf⟩:=ob hf
  refine s_mov (.lst 3 (list_1.map encGSet)) rfl<|s_dof (o_len (enc:=encGSet) rfl) fun hl2 => s_q (.bool (decide ((list_1.length:Int) ≤ 6))) rfl rfl rfl<|s_mov (.bool (decide ((list_1.length:Int) ≤ 6))) rfl<|s_lit (s:=6) (b:=true) rfl c3<|s_on rfl<|s_mov (.lst 3 (list_1.map encGSet)) rfl<|s_on rfl<|?_;refine s_do (o_call (w_slices_ContainsFunc_impl_Set_impl_Set _ _ _ er5 142 [] (by kernel_rfl) (fun _ _ => rfl) (fun _ => rfl) (fun a0 r h => w_impl_setsOK_1 a0 r h)) rfl (.refl _) rfl) ?_;refine s_on rfl<|s_q (.bool (!r_4)) rfl trivial rfl<|s_q (.bool (!r_4)) rfl trivial rfl<|s_mov (.bool (!r_4)) rfl<|dk<|w_ret<|?_;obtain rfl:=os hf;exact r_flat ⟨trivial,trivial⟩ rfl (.refl _)
 ·refine s_mov (.lst 3 (list_1.map encGSet)) rfl<|s_dof (o_len (enc:=encGSet) rfl) fun hl2 => s_q (.bool (decide ((list_1.length:Int) ≤ 6))) rfl rfl rfl<|s_mov (.bool (decide ((list_1.length:Int) ≤ 6))) rfl<|s_lit (s:=6) (b:=false) rfl (bf c3)<|s_off rfl rfl<|s_off rfl rfl<|s_off rfl rfl<|s_q (.bool false) rfl trivial rfl<|s_mov (.bool false) rfl<|dk<|w_ret<|?_;obtain rfl:=os hf;exact r_flat ⟨trivial,trivial⟩ rfl (.refl _)

/- impl.OpOK -/
def c11:ACode :=
 (.seq (.reg (tq 1 (.box 8 (.t 0)) (tm 2 (.c (.bool false)) .done)))
 (.seq (.reg (tq 3 (.load 8 true (.t 1)) (tq 4 (.call 52 [(.t 3)]) (tm 5 (.t 4) (tg 6 5 true (.faddr 1 (.t 1)) (tg 7 5 true (.load 1 false (.t 6)) (tg 8 5 true (.faddr 2 (.t 1)) (tg 9 5 true (.load 1 false (.t 8)) (tg 10 5 true (.bslice 1 [(.t 7),(.t 9)]) (tg 11 5 true (.call 53 [(.t 10)]) (tq 12 (.pick (.t 5) (.t 11) (.c (.bool false))) (tm 13 (.t 12) (tg 14 13 true (.faddr 6 (.t 1)) (tg 15 13 true (.load 1 false (.t 14)) (tg 16 13 true (.len (.t 15)) (tg 17 13 true (.bin .leq (.t 16) (.c (.int .i64 6))) (tq 18 (.pick (.t 13) (.t 17) (.c (.bool false))) (tm 19 (.t 18) (tg 20 19 true (.faddr 6 (.t 1)) (tg 21 19 true (.load 1 false (.t 20)) (tg 22 19 true (.call 53 [(.t 21)]) (tq 23 (.pick (.t 19) (.t 22) (.c (.bool false))) (tm 24 (.t 23) (tg 25 24 true (.faddr 3 (.t 1)) (tg 26 24 true (.load 1 false (.t 25)) (tg 27 24 true (.call 54 [(.t 26)]) (tq 28 (.pick (.t 24) (.t 27) (.c (.bool false))) (tm 29 (.t 28) (tg 30 29 true (.faddr 5 (.t 1)) (tg 31 29 true (.load 1 false (.t 30)) (tg 32 29 true (.call 55 [(.t 31)]) (tq 33 (.pick (.t 29) (.t 32) (.c (.bool false))) (tm 34 (.t 33) (tg 35 34 true (.faddr 4 (.t 1)) (tg 36 34 true (.load 1 false (.t 35)) (tg 37 34 true (.call 56 [(.t 36)]) (tq 38 (.pick (.t 34) (.t 37) (.c (.bool false))) (tm 2 (.t 38) .done))))))))))))))))))))))))))))))))))))))
 .ret))
theorem fc11:fcomp Tryz.prog Tryz.f11 = some (c11.erase,[.mov (.t 2)],39):=by kernel_rfl
def impl_OpOK (o_1:GOp):Option Bool :=
    (impl_Op_isUnused o_1).bind fun r_2 =>
    if r_2 then
    (impl_areShort [o_1.Table,o_1.Name]).bind fun r_5 =>
    if (bif r_5 then (decide ((o_1.Columns.length:Int) ≤ 6)) else false) then
    (impl_areShort o_1.Columns).bind fun r_9 =>
    if r_9 then
    (impl_condsOK o_1.Where).bind fun r_12 =>
    if r_12 then
    (impl_mutsOK o_1.Muts).bind fun r_15 =>
    if r_15 then
    (impl_setsOK o_1.Row).bind fun r_18 =>
    some r_18
    else
    some false
    else
    some false
    else
    some false
    else
    some false
    else
    some false
theorem w_impl_OpOK (o_1:GOp) (r:Bool) (hf:impl_OpOK o_1 = some r):CallOK Tryz.prog 11 .flat [(encGOp o_1)] (.bool r):=by
 refine CallOK.of_awp mixed Tryz.func11 fc11 nle ?_;rw [argT_eq];unfold impl_OpOK at hf;unfold c11;refine (show awp Tryz.prog false 0 _ (ofL [(0,(encGOp o_1))]) [] _ from ?_);refine sr<|s_do (o_box (j:=0) (c:=(.agg [(.int .i64 o_1.Kind),(.str o_1.Table),(.str o_1.Name),(.lst 3 (o_1.Where.map encGCond)),(.lst 3 (o_1.Row.map encGSet)),(.lst 3 (o_1.Muts.map encGMut)),(.lst 1 (o_1.Columns.map AV.str)),(.bool o_1.Until)])) rfl trivial rfl rfl)<|s_mov (.bool false) rfl<|dk<|sr<|s_q (.agg [(.int .i64 o_1.Kind),(.str o_1.Table),(.str o_1.Name),(.lst 3 (o_1.Where.map encGCond)),(.lst 3 (o_1.Row.map encGSet)),(.lst 3 (o_1.Muts.map encGMut)),(.lst 1 (o_1.Columns.map AV.str)),(.bool o_1.Until)]) rfl nle rfl<|?_
 obtain ⟨r_2,er3,hf⟩:=ob hf
 refine s_do (o_call (w_impl_Op_isUnused _ _ er3) rfl (.refl _) rfl)<|s_mov (.bool r_2) rfl<|?_
 rcases oi hf with ⟨c4,hf⟩ | ⟨c4,hf⟩
 ·refine s_lit (s:=5) (b:=true) rfl c4<|s_on rfl<|s_q (.ptr 0 0 1) rfl trivial rfl<|s_on rfl<|s_q (.str o_1.Table) rfl nle rfl<|s_on rfl<|s_q (.ptr 0 0 2) rfl trivial rfl<|s_on rfl<|s_q (.str o_1.Name) rfl nle rfl<|s_on rfl<|?_;refine s_do (o_bslice (j:=1) (as':=[(.str o_1.Table),(.str o_1.Name)]) rfl (fun _ => by decide) ⟨rfl,⟨rfl,trivial⟩⟩ (.refl _) rfl rfl rfl) ?_;refine s_on rfl ?_
  obtain ⟨r_5,er6,hf⟩:=ob hf
  refine s_do (o_call (w_impl_areShort _ _ er6) rfl (.cons (.of_eq (congrArg (AV.lst _) (tko [o_1.Table,o_1.Name]))) .nil) rfl)<|s_q (.bool r_5) rfl trivial rfl<|s_mov (.bool r_5) rfl<|?_;refine s_g (v:=r_5) (.ptr 0 0 6) rfl (fun hv => by (try simp only [gs_on hv]);exact ⟨rfl,trivial,rfl⟩) ?_;refine s_g (v:=r_5) (.lst 1 (o_1.Columns.map AV.str)) rfl (fun hv => by (try simp only [gs_on hv]);exact ⟨rfl,nle,rfl⟩) ?_;refine s_g (v:=r_5) (.int .i64 (o_1.Columns.length:Int)) rfl (fun hv => by (try simp only [gs_on hv]);exact ⟨rfl,trivial,lenV _ _⟩) ?_;refine s_g (v:=r_5) (.bool (decide ((o_1.Columns.length:Int) ≤ 6))) rfl (fun hv => by (try simp only [gs_on hv]);exact ⟨rfl,rfl,rfl⟩) ?_
  refine s_pick (x:=(decide ((o_1.Columns.length:Int) ≤ 6))) (y:=false) rfl (fun hv => by (try simp only [gs_on hv]);rfl) (fun hv => by (try simp only [gs_on hv]);rfl) ?_;refine s_mov (.bool (bif r_5 then (decide ((o_1.Columns.length:Int) ≤ 6)) else false)) rfl ?_
  rcases oi hf with ⟨c8,hf⟩ | ⟨c8,hf⟩
  ·refine s_lit (s:=19) (b:=true) rfl c8<|s_on rfl<|s_q (.ptr 0 0 6) rfl trivial rfl<|s_on rfl<|s_q (.lst 1 (o_1.Columns.map AV.str)) rfl nle rfl<|s_on rfl<|?_
   obtain ⟨r_9,er10,hf⟩:=ob hf
   refine s_do (o_call (w_impl_areShort _ _ er10) rfl (.refl _) rfl)<|s_q (.bool r_9) rfl trivial rfl<|s_mov (.bool r_9) rfl<|?_
   rcases oi hf with ⟨c11,hf⟩ | ⟨c11,hf⟩
   ·refine s_lit (s:=24) (b:=true) rfl c11<|s_on rfl<|s_q (.ptr 0 0 3) rfl trivial rfl<|s_on rfl<|s_q (.lst 3 (o_1.Where.map encGCond)) rfl nle rfl<|s_on rfl<|?_
    obtain ⟨r_12,er13,hf⟩:=ob hf
    refine s_do (o_call (w_impl_condsOK _ _ er13) rfl (.refl _) rfl)<|s_q (.bool r_12) rfl trivial rfl<|s_mov (.bool r_12) rfl<|?_
    rcases oi hf with ⟨c14,hf⟩ | ⟨c14,hf⟩
    ·refine s_lit (s:=29) (b:=true) rfl c14<|s_on rfl<|s_q (.ptr 0 0 5) rfl trivial rfl<|s_on rfl<|s_q (.lst 3 (o_1.Muts.map encGMut)) rfl nle rfl<|s_on rfl<|?_
     obtain ⟨r_15,er16,hf⟩:=ob hf
     refine s_do (o_call (w_impl_mutsOK _ _ er16) rfl (.refl _) rfl)<|s_q (.bool r_15) rfl trivial rfl<|s_mov (.bool r_15) rfl<|?_
     rcases oi hf with ⟨c17,hf⟩ | ⟨c17,hf⟩
     ·refine s_lit (s:=34) (b:=true) rfl c17<|s_on rfl<|s_q (.ptr 0 0 4) rfl trivial rfl<|s_on rfl<|s_q (.lst 3 (o_1.Row.map encGSet)) rfl nle rfl<|s_on rfl<|?_
      obtain ⟨r_18,er19,hf⟩:=ob hf
      refine s_do (o_call (w_impl_setsOK _ _ er19) rfl (.refl _) rfl)<|s_q (.bool r_18) rfl trivial rfl<|s_mov (.bool r_18) rfl<|dk<|w_ret<|?_;obtain rfl:=os hf;exact r_flat ⟨trivial,trivial⟩ rfl (.refl _)
     ·refine s_lit (s:=34) (b:=false) rfl (bf c17)<|s_off rfl rfl<|s_off rfl rfl<|s_off rfl rfl<|s_q (.bool false) rfl trivial rfl<|s_mov (.bool false) rfl<|dk<|w_ret<|?_;obtain rfl:=os hf;exact r_flat ⟨trivial,trivial⟩ rfl (.refl _)
    ·refine s_lit (s:=29) (b:=false) rfl (bf c14)<|s_off rfl rfl<|s_off rfl rfl<|s_off rfl rfl<|s_q (.bool false) rfl trivial rfl<|s_mov (.bool false) rfl<|s_off rfl rfl<|s_off rfl rfl<|s_off rfl rfl<|s_q (.bool false) rfl trivial rfl<|s_mov (.bool false) rfl<|dk<|w_ret<|?_;obtain rfl:=os hf;exact r_flat ⟨trivial,trivial⟩ rfl (.refl _)
   ·refine s_lit (s:=24) (b:=false) rfl (bf c11)<|s_off rfl rfl<|s_off rfl rfl<|s_off rfl rfl<|s_q (.bool false) rfl trivial rfl<|s_mov (.bool false) rfl<|s_off rfl rfl<|s_off rfl rfl<|s_off rfl rfl<|s_q (.bool false) rfl trivial rfl<|s_mov (.bool false) rfl<|s_off rfl rfl<|s_off rfl rfl<|s_off rfl rfl<|s_q (.bool false) rfl trivial rfl<|s_mov (.bool false) rfl<|dk<|w_ret<|?_;obtain rfl:=os hf;exact r_flat ⟨trivial,trivial⟩ rfl (.refl _)
  ·refine s_lit (s:=19) (b:=false) rfl (bf c8)<|s_off rfl rfl<|s_off rfl rfl<|s_off rfl rfl<|s_q (.bool false) rfl trivial rfl<|s_mov (.bool false) rfl<|s_off rfl rfl<|s_off rfl rfl<|s_off rfl rfl<|s_q (.bool false) rfl trivial rfl<|s_mov (.bool false) rfl<|s_off rfl rfl<|s_off rfl rfl<|s_off rfl rfl<|s_q (.bool false) rfl trivial rfl<|s_mov (.bool false) rfl<|s_off rfl rfl<|s_off rfl rfl<|s_off rfl rfl<|s_q (.bool false) rfl trivial rfl<|s_mov (.bool false) rfl<|dk<|w_ret<|?_;obtain rfl:=os hf;exact r_flat ⟨trivial,trivial⟩ rfl (.refl _)
 ·refine s_lit (s:=5) (b:=false) rfl (bf c4)<|s_off rfl rfl<|s_off rfl rfl<|s_off rfl rfl<|s_off rfl rfl<|s_off rfl rfl<|s_off rfl rfl<|s_q (.bool false) rfl trivial rfl<|s_mov (.bool false) rfl<|s_off rfl rfl<|s_off rfl rfl<|s_off rfl rfl<|s_off rfl rfl<|s_q (.bool false) rfl trivial rfl<|s_mov (.bool false) rfl<|s_off rfl rfl<|s_off rfl rfl<|s_off rfl rfl<|s_q (.bool false) rfl trivial rfl<|s_mov (.bool false) rfl<|s_off rfl rfl<|s_off rfl rfl<|s_off rfl rfl<|s_q (.bool false) rfl trivial rfl<|s_mov (.bool false) rfl<|s_off rfl rfl<|s_off rfl rfl<|s_off rfl rfl<|s_q (.bool false) rfl trivial rfl<|s_mov (.bool false) rfl<|s_off rfl rfl<|s_off rfl rfl<|?_
  refine s_off rfl rfl<|s_q (.bool false) rfl trivial rfl<|s_mov (.bool false) rfl<|dk<|w_ret<|?_;obtain rfl:=os hf;exact r_flat ⟨trivial,trivial⟩ rfl (.refl _)

/- impl.opsCode$1 -/
def c157:ACode :=
 (.seq (.reg (tq 1 (.box 8 (.t 0)) (tm 2 (.c (.bool false)) .done)))
 (.seq (.reg (tq 3 (.load 8 true (.t 1)) (tq 4 (.call 11 [(.t 3)]) (tq 5 (.not (.t 4)) (tm 2 (.t 5) .done)))))
 .ret))
theorem fc157:fcomp Tryz.prog Tryz.f157 = some (c157.erase,[.mov (.t 2)],6):=by kernel_rfl
def impl_opsCode_1 (o_1:GOp):Option Bool :=
    (impl_OpOK o_1).bind fun r_2 =>
    some (!r_2)
theorem w_impl_opsCode_1 (o_1:GOp) (r:Bool) (hf:impl_opsCode_1 o_1 = some r):CallOK Tryz.prog 157 .flat [(encGOp o_1)] (.bool r):=by
  refine CallOK.of_awp mixed Tryz.func157 fc157 nle ?_
  rw [argT_eq]
  unfold impl_opsCode_1 at hf
  unfold c157
  refine (show awp Tryz.prog false 0 _ (ofL [(0,(encGOp o_1))]) [] _ from ?_)
  refine awp_seq ?_
  refine w_reg ?_
  refine s_do (o_box (j:=0) (c:=(.agg [(.int .i64 o_1.Kind),(.str o_1.Table),(.str o_1.Name),(.lst 3 (o_1.Where.map encGCond)),(.lst 3 (o_1.Row.map encGSet)),(.lst 3 (o_1.Muts.map encGMut)),(.lst 1 (o_1.Columns.map AV.str)),(.bool o_1.Until)])) rfl trivial rfl rfl) ?_
  refine s_do (o_mov (.bool false) rfl) ?_
  refine w_done ?_
  refine k_seq ?_
  refine awp_seq ?_
  refine w_reg ?_
  obtain ⟨r_2,er3,hf⟩:=ob hf
  refine s_do (o_q (.agg [(.int .i64 o_1.Kind),(.str o_1.Table),(.str o_1.Name),(.lst 3 (o_1.Where.map encGCond)),(.lst 3 (o_1.Row.map encGSet)),(.lst 3 (o_1.Muts.map encGMut)),(.lst 1 (o_1.Columns.map AV.str)),(.bool o_1.Until)]) rfl nle rfl) ?_
  refine s_do (o_call (w_impl_OpOK _ _ er3) rfl (.refl _) rfl) ?_
  refine s_do (o_q (.bool (!r_2)) rfl trivial rfl) ?_
  refine s_do (o_mov (.bool (!r_2)) rfl) ?_
  refine w_done ?_
  refine k_seq ?_
  refine w_ret ?_
  obtain rfl:=os hf
  exact r_flat ⟨trivial,trivial⟩ rfl (.refl _)

/- impl.opsCode -/
def c70:ACode :=
 (.seq (.reg (tm 2 (.c (.int .i64 0)) .done))
 (.seq (.block 0 (.seq (.reg (tm 4 (.t 0) (tq 5 (.len (.t 4)) (tq 6 (.bin .gtr (.t 5) (.c (.int .i64 8))) (tm 3 (.t 6) .done)))))
 (.cond (.t 3) (.seq (.reg (tm 2 (.c (.int .i64 6)) .done))
 .ret)
 (.seq (.reg (tm 8 (.t 0) (tq 9 (.call 156 [(.t 8),(.c (.fn 157 []))]) (tm 7 (.t 9) .done))))
 (.cond (.t 7) (.seq (.reg (tm 2 (.c (.int .i64 1)) .done))
 .ret)
 .skip)))))
 (.seq (.reg (tm 2 (.c (.int .i64 0)) .done))
 .ret)))
theorem fc70:fcomp Tryz.prog Tryz.f70 = some (c70.erase,[.mov (.t 2)],10):=by kernel_rfl
def impl_opsCode (ops_1:(List GOp)):Option Int :=
    if (decide ((ops_1.length:Int) > 8)) then
    some 6
    else
    (slices_ContainsFunc_impl_Op_impl_Op ops_1 impl_opsCode_1).bind fun r_4 =>
    if r_4 then
    some 1
    else
    some 0
theorem w_impl_opsCode (ops_1:(List GOp)) (r:Int) (hf:impl_opsCode ops_1 = some r):CallOK Tryz.prog 70 .flat [(.lst 8 (ops_1.map encGOp))] (.int .i64 r):=by
 refine CallOK.of_awp mixed Tryz.func70 fc70 nle ?_;rw [argT_eq];unfold impl_opsCode at hf;unfold c70;refine (show awp Tryz.prog false 0 _ (ofL [(0,(.lst 8 (ops_1.map encGOp)))]) [] _ from ?_);refine sr<|s_mov (.int .i64 0) rfl<|dk<|awp_seq<|w_blk<|sr<|s_mov (.lst 8 (ops_1.map encGOp)) rfl<|s_dof (o_len (enc:=encGOp) rfl) fun hl2 => s_q (.bool (decide ((ops_1.length:Int) > 8))) rfl rfl rfl<|s_mov (.bool (decide ((ops_1.length:Int) > 8))) rfl<|dk<|?_
 rcases oi hf with ⟨c3,hf⟩ | ⟨c3,hf⟩
 ·refine w_condt rfl c3<|sr<|s_mov (.int .i64 6) rfl<|dk<|w_ret<|?_;obtain rfl:=os hf;exact r_flat ⟨trivial,trivial⟩ rfl (.refl _)
 ·refine w_condf rfl (bf c3)<|sr<|?_
  obtain ⟨r_4,er5,hf⟩:=ob hf
  refine s_mov (.lst 8 (ops_1.map encGOp)) rfl ?_;refine s_do (o_call (w_slices_ContainsFunc_impl_Op_impl_Op _ _ _ er5 157 [] (by kernel_rfl) (fun _ _ => rfl) (fun _ => rfl) (fun a0 r h => w_impl_opsCode_1 a0 r h)) rfl (.refl _) rfl) ?_;refine s_mov (.bool r_4) rfl<|dk<|?_
  rcases oi hf with ⟨c6,hf⟩ | ⟨c6,hf⟩
  ·refine w_condt rfl c6<|sr<|s_mov (.int .i64 1) rfl<|dk<|w_ret<|?_;obtain rfl:=os hf;exact r_flat ⟨trivial,trivial⟩ rfl (.refl _)
  ·refine w_condf rfl (bf c6)<|w_skip<|k_blk<|k_seq<|sr<|s_mov (.int .i64 0) rfl<|dk<|w_ret<|?_;obtain rfl:=os hf;exact r_flat ⟨trivial,trivial⟩ rfl (.refl _)

/- impl.insertIds -/
def c72:ACode :=
 (.seq (.reg (tm 4 (.c .nil) .done))
 (.seq (.reg (tq 9 (.bslice 1 []) (tm 5 (.t 9) .done)))
 (.seq (.seq (.reg (tm 10 (.t 0) (tq 11 (.len (.t 10)) (tm 12 (.c (.int .i64 0)) .done))))
 (.block 0 (.loop (.seq (.reg (tq 13 (.bin .lss (.t 12) (.t 11)) .done))
 (.seq (.cond (.t 13) .skip
 (.exit 0))
 (.seq (.block 1 (.seq (.reg (tq 14 (.iaddr 8 (.t 10) (.t 12)) (tq 15 (.load 8 true (.t 14)) (tq 7 (.box 8 (.c (.agg [(.int .i64 0),(.str []),(.str []),.nil,.nil,.nil,.nil,(.bool false)]))) (.q ⟨none,none,.store 8 (.t 7) (.t 15)⟩
 .done)))))
 (.seq (.reg (tm 8 (.c (.int .i64 0)) .done))
 (.seq (.seq (.reg (tq 16 (.faddr 0 (.t 7)) (tq 17 (.load 1 false (.t 16)) (tq 18 (.bin .eql (.t 17) (.c (.int .i64 1))) .done))))
 (.cond (.t 18) (.seq (.reg (tm 19 (.t 1) (tm 8 (.t 19) .done)))
 (.reg (tm 20 (.t 1) (tq 21 (.bin .add (.t 20) (.c (.int .i64 1))) (tm 1 (.t 21) .done)))))
 .skip))
 (.cut (.reg (tm 22 (.t 5) (tm 23 (.t 8) (tq 24 (.bslice 1 [(.t 23)]) (tq 25 (.append 1 8 (.t 22) (.t 24)) (tm 5 (.t 25) .done)))))))))))
 (.reg (tq 26 (.bin .add (.t 12) (.c (.int .i64 1))) (tm 12 (.t 26) .done)))))))))
 (.cut (.seq (.reg (tm 27 (.t 5) (tm 4 (.t 27) .done)))
 .ret)))))
theorem fc72:fcomp Tryz.prog Tryz.f72 = some (c72.erase,[.mov (.t 4)],28):=by kernel_rfl
def impl_insertIds_L1 :List GOp → Int → (List Int) → Option (List Int)
  | [],next_25,out_27 =>
    some out_27
  | x_45 :: xs,next_25,out_27 =>
    ((if (x_45.Kind == 1) then
    some (w64 (next_25 + 1),next_25)
    else
    some (next_25,0):Option (Int × Int))).bind fun p49 =>
    (match p49 with
    | (next_47,id_48) =>
    if (out_27 ++ [id_48]).length ≤ 2 ^ 30 then
    impl_insertIds_L1 xs next_47  (out_27 ++ [id_48])
    else none)

def impl_insertIds (ops_1:(List GOp)) (next_2:Int):Option (List Int) :=
    (impl_insertIds_L1 ops_1 next_2 []).bind fun out_37 =>
    some out_37
theorem w_impl_insertIds (ops_1:(List GOp)) (next_2:Int) (r:(List Int)) (hf:impl_insertIds ops_1 next_2 = some r):CallOK Tryz.prog 72 .fresh [(.lst 8 (ops_1.map encGOp)),(.int .i64 next_2)] (.lst 1 (r.map encI)):=by
 refine CallOK.of_awp mixed Tryz.func72 fc72 nle ?_;rw [argT_eq];unfold impl_insertIds at hf;unfold c72;refine (show awp Tryz.prog true 0 _ (ofL [(0,(.lst 8 (ops_1.map encGOp))),(1,(.int .i64 next_2))]) [] _ from ?_);refine sr<|s_mov .nil rfl<|dk<|sr<|?_;refine s_do (o_bslice (j:=0) (as':=[]) rfl (fun _ => by decide) trivial (.refl _) rfl rfl rfl) ?_;refine s_mov (.own 0 0 0) rfl<|dk<|awp_seq<|sr<|s_mov (.lst 8 (ops_1.map encGOp)) rfl<|s_dof (o_len (enc:=encGOp) rfl) fun hl3 => s_mov (.int .i64 0) rfl<|dk<|?_
 obtain ⟨out_37,hb1,hf⟩:=ob hf
 refine awp_cut ([(5,(.own 0 0 out_37.length))],[.row 1 (out_37.map encI)]) ?_ ?_
 ·refine awp_loop (X:={q:(Int × Nat × (List Int)) // impl_insertIds_L1 (ops_1.drop q.2.1) q.1 q.2.2 = some out_37}) (fun q => ([(1,(.int .i64 q.1.1)),(5,(.own 0 0 q.1.2.2.length)),(10,(.lst 8 (ops_1.map encGOp))),(11,(.int .i64 (ops_1.length:Int))),(12,(.int .i64 (q.1.2.1:Int)))],[.row 1 (q.1.2.2.map encI)])) (fun q => ops_1.length - q.1.2.1) ⟨(next_2,0,[]),hb1⟩ ⟨[],[0],_,_,rfl,rfl,⟨.refl _,⟨.of_eq (congrArg (AV.own _ 0) (by simp)),⟨.refl _,⟨.refl _,⟨.refl _,trivial⟩⟩⟩⟩⟩,(.refl _)⟩ ?_
  rintro ⟨⟨next_25,s12_26,out_27⟩,hc1⟩
  have hc1:impl_insertIds_L1 (ops_1.drop s12_26) next_25 out_27 = some out_37:=hc1
  refine (show awp Tryz.prog true 0 _ (ofL [(1,(.int .i64 next_25)),(5,(.own 0 0 out_27.length)),(10,(.lst 8 (ops_1.map encGOp))),(11,(.int .i64 (ops_1.length:Int))),(12,(.int .i64 (s12_26:Int)))]) [.row 1 (out_27.map encI)] _ from ?_)
  rcases dropc ops_1 s12_26 with ⟨hie41,hd44⟩ | ⟨hlt39,x_45,hx40,hd44⟩
  ·rw [hd44,impl_insertIds_L1.eq_1] at hc1
   have hq43:=dlf hie41
   refine sr<|s_q (.bool (decide ((s12_26:Int) < (ops_1.length:Int)))) rfl rfl rfl<|dk<|awp_seq<|w_condf rfl hq43<|w_exit<|k_seqx<|k_loopx<|k_blkx<|?_;obtain rfl:=os hc1;exact ⟨[],[0],_,_,rfl,rfl,⟨.refl _,trivial⟩,(.refl _)⟩
  ·rw [hd44,impl_insertIds_L1.eq_2] at hc1
   have hq43:=dlt hlt39
   refine sr<|s_q (.bool (decide ((s12_26:Int) < (ops_1.length:Int)))) rfl rfl rfl<|dk<|awp_seq<|w_condt rfl hq43<|w_skip<|k_seq<|awp_seq<|w_blk<|sr<|s_do (o_iaddrn (enc:=encGOp) rfl rfl hx40)<|s_q (encGOp x_45) rfl nle rfl<|s_do (o_box (j:=1) (c:=(.agg [(.int .i64 0),(.str []),(.str []),.nil,.nil,.nil,.nil,(.bool false)])) rfl trivial rfl rfl)<|s_do0 (o_storebox (v:=(.agg [(.int .i64 x_45.Kind),(.str x_45.Table),(.str x_45.Name),(.lst 3 (x_45.Where.map encGCond)),(.lst 3 (x_45.Row.map encGSet)),(.lst 3 (x_45.Muts.map encGMut)),(.lst 1 (x_45.Columns.map AV.str)),(.bool x_45.Until)])) (y':=(.agg [(.int .i64 x_45.Kind),(.str x_45.Table),(.str x_45.Name),(.lst 3 (x_45.Where.map encGCond)),(.lst 3 (x_45.Row.map encGSet)),(.lst 3 (x_45.Muts.map encGMut)),(.lst 1 (x_45.Columns.map AV.str)),(.bool x_45.Until)])) rfl rfl rfl trivial ⟨rfl,nle⟩ ⟨⟨rfl,trivial⟩,⟨⟨rfl,trivial⟩,⟨⟨rfl,trivial⟩,⟨⟨rfl,trivial⟩,⟨⟨rfl,trivial⟩,⟨⟨rfl,trivial⟩,⟨⟨rfl,trivial⟩,⟨⟨rfl,trivial⟩,trivial⟩⟩⟩⟩⟩⟩⟩⟩ rfl)<|?_
   refine dk<|sr<|s_mov (.int .i64 0) rfl<|dk<|awp_seq<|?_
   obtain ⟨p49,hb2,hc1⟩:=ob hc1
   refine awp_cut ([(1,(.int .i64 p49.1)),(5,(.own 0 0 out_27.length)),(8,(.int .i64 p49.2)),(10,(.lst 8 (ops_1.map encGOp))),(11,(.int .i64 (ops_1.length:Int))),(12,(.int .i64 (s12_26:Int)))],[.row 1 (out_27.map encI)]) ?_ ?_
   ·refine sr<|s_q (.ptr 1 0 0) rfl trivial rfl<|s_q (.int .i64 x_45.Kind) rfl nle rfl<|s_q (.bool (x_45.Kind == 1)) rfl rfl rfl<|dk<|?_
    rcases oi hb2 with ⟨c50,hb2⟩ | ⟨c50,hb2⟩
    ·refine w_condt rfl c50<|sr<|s_mov (.int .i64 next_25) rfl<|s_mov (.int .i64 next_25) rfl<|dk<|w_reg<|s_mov (.int .i64 next_25) rfl<|s_q (.int .i64 (w64 (next_25 + 1))) rfl rfl rfl<|s_mov (.int .i64 (w64 (next_25 + 1))) rfl<|w_done<|?_;obtain rfl:=os hb2;exact ⟨[],[0],_,_,rfl,rfl,⟨.refl _,⟨.refl _,⟨.refl _,⟨.refl _,⟨.refl _,⟨.refl _,trivial⟩⟩⟩⟩⟩⟩,(.refl _)⟩
    ·refine w_condf rfl (bf c50)<|w_skip<|?_;obtain rfl:=os hb2;exact ⟨[],[0],_,_,rfl,rfl,⟨.refl _,⟨.refl _,⟨.refl _,⟨.refl _,⟨.refl _,⟨.refl _,trivial⟩⟩⟩⟩⟩⟩,(.refl _)⟩
   ·obtain ⟨next_47,id_48⟩:=p49
    refine w_reg ?_
    obtain ⟨g51,hc1⟩:=og hc1
    refine s_mov (.own 0 0 out_27.length) rfl<|s_mov (.int .i64 id_48) rfl<|?_;refine s_do (o_bslice (j:=1) (as':=[(.int .i64 id_48)]) rfl (fun _ => by decide) ⟨rfl,trivial⟩ (.refl _) rfl rfl rfl) ?_
    refine s_do (o_appendd (j:=2) (L:=((out_27 ++ [id_48]).map encI)) (len:=(out_27 ++ [id_48]).length) rfl false rfl rfl (fun _ => flo (enc:=encI) (fun _ => rfl) [id_48] _) (fun _ _ h => (ownl (show AV.own _ _ _ = AV.lst _ _ from h)).elim) (by decide) (apo (enc:=encI) out_27 [id_48]) (by simp <;> omega) g51 rfl rfl) ?_
    refine s_mov (.own 2 0 ((out_27 ++ [id_48]).length)) rfl<|w_done<|k_blk<|k_seq<|w_reg<|s_q (.int .i64 (w64 ((s12_26:Int) + 1))) rfl rfl rfl<|s_mov (.int .i64 (w64 ((s12_26:Int) + 1))) rfl<|w_done<|?_;exact k_loopn ⟨(next_47,(s12_26 + 1),out_27 ++ [id_48]),hc1⟩ (mul hlt39) ⟨[],[2],_,_,rfl,rfl,⟨.refl _,⟨.refl _,⟨.refl _,⟨.refl _,⟨.of_eq (congrArg (AV.int _) (w64_incr hlt39 hl3)),trivial⟩⟩⟩⟩⟩,(.refl _)⟩
 ·refine sr<|s_mov (.own 0 0 out_37.length) rfl<|s_mov (.own 0 0 out_37.length) rfl<|dk<|w_ret<|?_;obtain rfl:=os hf;exact r_fresh ⟨trivial,trivial⟩ rfl (by decide) (.of_eq (congrArg (AV.lst _) (tk (enc:=encI) out_37)))

/- impl.InsertIds -/
def c16:ACode :=
 (.seq (.reg (tm 4 (.c .nil) (tm 5 (.c (.int .i64 0)) .done)))
 (.seq (.seq (.reg (tm 7 (.t 0) (tq 8 (.call 69 [(.t 7)]) (tq 9 (.not (.t 8)) .done))))
 (.cond (.t 9) (.seq (.reg (tm 4 (.c .nil) (tm 5 (.c (.int .i64 2)) .done)))
 .ret)
 .skip))
 (.seq (.seq (.reg (tm 10 (.t 0) (tq 11 (.call 70 [(.t 10)]) (tm 6 (.t 11) .done))))
 (.seq (.reg (tm 12 (.t 6) (tq 13 (.bin .neq (.t 12) (.c (.int .i64 0))) .done)))
 (.cond (.t 13) (.seq (.reg (tm 14 (.t 6) (tm 4 (.c .nil) (tm 5 (.t 14) .done))))
 .ret)
 .skip)))
 (.seq (.seq (.reg (tm 15 (.t 1) (tq 16 (.call 71 [(.t 15)]) (tq 17 (.not (.t 16)) .done))))
 (.cond (.t 17) (.seq (.reg (tm 4 (.c .nil) (tm 5 (.c (.int .i64 4)) .done)))
 .ret)
 .skip))
 (.seq (.reg (tm 18 (.t 0) (tm 19 (.t 1) (tq 20 (.call 72 [(.t 18),(.t 19)]) (tm 4 (.t 20) (tm 5 (.c (.int .i64 0)) .done))))))
 .ret)))))
theorem fc16:fcomp Tryz.prog Tryz.f16 = some (c16.erase,[.mov (.t 4),.mov (.t 5)],21):=by kernel_rfl
def impl_InsertIds (ops_1:(List GOp)) (next_2:Int):Option ((List Int) × Int) :=
    (impl_isList_impl_Op ops_1).bind fun r_3 =>
    if (!r_3) then
    some ([],2)
    else
    (impl_opsCode ops_1).bind fun r_6 =>
    if (r_6 != 0) then
    some ([],r_6)
    else
    (impl_isId next_2).bind fun r_9 =>
    if (!r_9) then
    some ([],4)
    else
    (impl_insertIds ops_1 next_2).bind fun r_12 =>
    some (r_12,0)
theorem w_impl_InsertIds (ops_1:(List GOp)) (next_2:Int) (r:((List Int) × Int)) (hf:impl_InsertIds ops_1 next_2 = some r):CallOK Tryz.prog 16 .fresh [(.lst 8 (ops_1.map encGOp)),(.int .i64 next_2)] (.tup [(.lst 1 (r.1.map encI)),(.int .i64 r.2)]):=by
 refine CallOK.of_awp mixed Tryz.func16 fc16 nle ?_;rw [argT_eq];unfold impl_InsertIds at hf;unfold c16;refine (show awp Tryz.prog true 0 _ (ofL [(0,(.lst 8 (ops_1.map encGOp))),(1,(.int .i64 next_2))]) [] _ from ?_);refine sr<|s_mov .nil rfl<|s_mov (.int .i64 0) rfl<|dk<|awp_seq<|sr<|?_
 obtain ⟨r_3,er4,hf⟩:=ob hf
 refine s_mov (.lst 8 (ops_1.map encGOp)) rfl<|s_do (o_call (w_impl_isList_impl_Op _ _ er4) rfl (.refl _) rfl)<|s_q (.bool (!r_3)) rfl trivial rfl<|dk<|?_
 rcases oi hf with ⟨c5,hf⟩ | ⟨c5,hf⟩
 ·refine w_condt rfl c5<|sr<|s_mov .nil rfl<|s_mov (.int .i64 2) rfl<|dk<|w_ret<|?_;obtain rfl:=os hf;exact r_fresh ⟨trivial,⟨trivial,trivial⟩⟩ rfl (by decide) (.tup (.cons (.nil _) (.cons (.refl _) .nil)))
 ·refine w_condf rfl (bf c5)<|w_skip<|k_seq<|awp_seq<|sr<|?_
  obtain ⟨r_6,er7,hf⟩:=ob hf
  refine s_mov (.lst 8 (ops_1.map encGOp)) rfl<|s_do (o_call (w_impl_opsCode _ _ er7) rfl (.refl _) rfl)<|s_mov (.int .i64 r_6) rfl<|dk<|sr<|s_mov (.int .i64 r_6) rfl<|s_q (.bool (r_6 != 0)) rfl rfl rfl<|dk<|?_
  rcases oi hf with ⟨c8,hf⟩ | ⟨c8,hf⟩
  ·refine w_condt rfl c8<|sr<|s_mov (.int .i64 r_6) rfl<|s_mov .nil rfl<|s_mov (.int .i64 r_6) rfl<|dk<|w_ret<|?_;obtain rfl:=os hf;exact r_fresh ⟨trivial,⟨trivial,trivial⟩⟩ rfl (by decide) (.tup (.cons (.nil _) (.cons (.refl _) .nil)))
  ·refine w_condf rfl (bf c8)<|w_skip<|k_seq<|awp_seq<|sr<|?_
   obtain ⟨r_9,er10,hf⟩:=ob hf
   refine s_mov (.int .i64 next_2) rfl<|s_do (o_call (w_impl_isId _ _ er10) rfl (.refl _) rfl)<|s_q (.bool (!r_9)) rfl trivial rfl<|dk<|?_
   rcases oi hf with ⟨c11,hf⟩ | ⟨c11,hf⟩
   ·refine w_condt rfl c11<|sr<|s_mov .nil rfl<|s_mov (.int .i64 4) rfl<|dk<|w_ret<|?_;obtain rfl:=os hf;exact r_fresh ⟨trivial,⟨trivial,trivial⟩⟩ rfl (by decide) (.tup (.cons (.nil _) (.cons (.refl _) .nil)))
   ·refine w_condf rfl (bf c11)<|w_skip<|k_seq<|sr<|?_
    obtain ⟨r_12,er13,hf⟩:=ob hf
    refine s_mov (.lst 8 (ops_1.map encGOp)) rfl<|s_mov (.int .i64 next_2) rfl<|s_do (o_callf (v:=(.own 0 0 r_12.length)) (h':=[.row 1 (r_12.map encI)]) (w_impl_insertIds _ _ _ er13) rfl (.refl _) (by simp only [openV,openVs,List.length_map,List.nil_append,List.append_nil,List.cons_append];rfl))<|s_mov (.own 0 0 r_12.length) rfl<|s_mov (.int .i64 0) rfl<|dk<|w_ret<|?_;obtain rfl:=os hf;exact r_fresh ⟨trivial,⟨trivial,trivial⟩⟩ rfl (by decide) (.tup (.cons (.of_eq (congrArg (AV.lst _) (tk (enc:=encI) r_12))) (.cons (.refl _) .nil)))

/- laws.eqIntS -/
def c17:ACode :=
 (.seq (.reg (tm 4 (.c (.bool false)) .done))
 (.seq (.seq (.reg (tm 6 (.t 0) (tq 7 (.len (.t 6)) (tm 8 (.t 1) (tq 9 (.len (.t 8)) (tq 10 (.bin .neq (.t 7) (.t 9)) .done))))))
 (.cond (.t 10) (.seq (.reg (tm 4 (.c (.bool false)) .done))
 .ret)
 .skip))
 (.seq (.seq (.reg (tm 5 (.c (.int .i64 0)) .done))
 (.block 0 (.loop (.seq (.seq (.reg (tm 11 (.t 5) (tm 12 (.t 0) (tq 13 (.len (.t 12)) (tq 14 (.bin .lss (.t 11) (.t 13)) .done)))))
 (.cond (.t 14) .skip
 (.exit 0)))
 (.seq (.block 1 (.seq (.reg (tm 17 (.t 0) (tm 18 (.t 5) (tq 19 (.iaddr 1 (.t 17) (.t 18)) (tq 20 (.load 1 false (.t 19)) (tm 21 (.t 1) (tm 22 (.t 5) (tq 23 (.iaddr 1 (.t 21) (.t 22)) (tq 24 (.load 1 false (.t 23)) (tq 25 (.bin .neq (.t 20) (.t 24)) .done))))))))))
 (.cond (.t 25) (.seq (.reg (tm 4 (.c (.bool false)) .done))
 .ret)
 .skip)))
 (.reg (tm 15 (.t 5) (tq 16 (.bin .add (.t 15) (.c (.int .i64 1))) (tm 5 (.t 16) .done)))))))))
 (.cut (.seq (.reg (tm 4 (.c (.bool true)) .done))
 .ret)))))
theorem fc17:fcomp Tryz.prog Tryz.f17 = some (c17.erase,[.mov (.t 4)],26):=by kernel_rfl
def laws_eqIntS_L1 (b_2:(List Int)):List Int → Nat → Option (Fl Bool Unit)
  | [],i_21 =>
    some (.go ())
  | x_37 :: xs,i_21 =>
    (idx b_2 (i_21:Int)).bind fun x_40 =>
    if (x_37 != x_40) then
    some (.ret false)
    else
    laws_eqIntS_L1 b_2 xs (i_21 + 1)

def laws_eqIntS (a_1:(List Int)) (b_2:(List Int)):Option Bool :=
    if ((a_1.length:Int) != (b_2.length:Int)) then
    some false
    else
    (laws_eqIntS_L1 b_2 a_1 0).bind fun q => (match q with
    | .ret r => some r
    | .go _ =>
    some true)
theorem w_laws_eqIntS (a_1:(List Int)) (b_2:(List Int)) (r:Bool) (hf:laws_eqIntS a_1 b_2 = some r):CallOK Tryz.prog 17 .flat [(.lst 1 (a_1.map encI)),(.lst 1 (b_2.map encI))] (.bool r):=by
 refine CallOK.of_awp mixed Tryz.func17 fc17 nle ?_;rw [argT_eq];unfold laws_eqIntS at hf;unfold c17;refine (show awp Tryz.prog false 0 _ (ofL [(0,(.lst 1 (a_1.map encI))),(1,(.lst 1 (b_2.map encI)))]) [] _ from ?_);refine sr<|s_mov (.bool false) rfl<|dk<|awp_seq<|sr<|s_mov (.lst 1 (a_1.map encI)) rfl<|s_dof (o_len (enc:=encI) rfl) fun hl3 => s_mov (.lst 1 (b_2.map encI)) rfl<|s_dof (o_len (enc:=encI) rfl) fun hl4 => s_q (.bool ((a_1.length:Int) != (b_2.length:Int))) rfl rfl rfl<|dk<|?_
 rcases oi hf with ⟨c5,hf⟩ | ⟨c5,hf⟩
 ·refine w_condt rfl c5<|sr<|s_mov (.bool false) rfl<|dk<|w_ret<|?_;obtain rfl:=os hf;exact r_flat ⟨trivial,trivial⟩ rfl (.refl _)
 ·refine w_condf rfl (bf c5)<|w_skip<|k_seq<|awp_seq<|sr<|s_mov (.int .i64 0) rfl<|dk<|?_
  obtain ⟨p30,hb1,hf⟩:=ob hf
  refine awp_cutx (X:={q:Unit // p30 = .go q}) (fun q => ([],[])) ?_ ?_
  ·refine awp_loop (X:={q:Nat // laws_eqIntS_L1 b_2 (a_1.drop q) q = some p30}) (fun q => ([(0,(.lst 1 (a_1.map encI))),(1,(.lst 1 (b_2.map encI))),(5,(.int .i64 (q.1:Int)))],[])) (fun q => a_1.length - q.1) ⟨0,hb1⟩ ⟨[],[],_,_,rfl,rfl,⟨.refl _,⟨.refl _,⟨.refl _,trivial⟩⟩⟩,(.refl _)⟩ ?_
   rintro ⟨i_21,hc1⟩
   have hc1:laws_eqIntS_L1 b_2 (a_1.drop i_21) i_21 = some p30:=hc1
   refine (show awp Tryz.prog false 0 _ (ofL [(0,(.lst 1 (a_1.map encI))),(1,(.lst 1 (b_2.map encI))),(5,(.int .i64 (i_21:Int)))]) [] _ from ?_)
   rcases dropc a_1 i_21 with ⟨hie33,hd36⟩ | ⟨hlt31,x_37,hx32,hd36⟩
   ·rw [hd36,laws_eqIntS_L1.eq_1] at hc1
    have hq35:=dlf hie33
    refine awp_seq<|sr<|s_mov (.int .i64 (i_21:Int)) rfl<|s_mov (.lst 1 (a_1.map encI)) rfl<|s_dof (o_len (enc:=encI) rfl) fun hl38 => s_q (.bool (decide ((i_21:Int) < (a_1.length:Int)))) rfl rfl rfl<|dk<|w_condf rfl hq35<|w_exit<|k_seqx<|k_loopx<|k_blkx<|?_;obtain rfl:=os hc1;exact k_cutn ⟨_,rfl⟩ ⟨[],[],_,_,rfl,rfl,trivial,(.refl _)⟩
   ·rw [hd36,laws_eqIntS_L1.eq_2] at hc1
    have hq35:=dlt hlt31
    refine awp_seq<|sr<|s_mov (.int .i64 (i_21:Int)) rfl<|s_mov (.lst 1 (a_1.map encI)) rfl<|s_dof (o_len (enc:=encI) rfl) fun hl39 => s_q (.bool (decide ((i_21:Int) < (a_1.length:Int)))) rfl rfl rfl<|dk<|w_condt rfl hq35<|w_skip<|k_seq<|awp_seq<|w_blk<|sr<|?_
    obtain ⟨x_40,ex41,hc1⟩:=ob hc1
    refine s_mov (.lst 1 (a_1.map encI)) rfl<|s_mov (.int .i64 (i_21:Int)) rfl<|s_do (o_iaddrn (enc:=encI) rfl rfl hx32)<|s_q (.int .i64 x_37) rfl ⟨rfl,rfl⟩ rfl<|s_mov (.lst 1 (b_2.map encI)) rfl<|s_mov (.int .i64 (i_21:Int)) rfl<|s_do (o_iaddr (enc:=encI) rfl rfl (idx0 ex41) (idx1 ex41))<|s_q (.int .i64 x_40) rfl ⟨rfl,rfl⟩ rfl<|s_q (.bool (x_37 != x_40)) rfl rfl rfl<|dk<|?_
    rcases oi hc1 with ⟨c42,hc1⟩ | ⟨c42,hc1⟩
    ·refine w_condt rfl c42<|sr<|s_mov (.bool false) rfl<|dk<|w_ret<|?_;obtain rfl:=os hc1;obtain rfl:=os hf;exact r_flat ⟨trivial,trivial⟩ rfl (.refl _)
    ·refine w_condf rfl (bf c42)<|w_skip<|k_blk<|k_seq<|w_reg<|s_mov (.int .i64 (i_21:Int)) rfl<|s_q (.int .i64 (w64 ((i_21:Int) + 1))) rfl rfl rfl<|s_mov (.int .i64 (w64 ((i_21:Int) + 1))) rfl<|w_done<|?_;exact k_loopn ⟨(i_21 + 1),hc1⟩ (mul hlt31) ⟨[],[],_,_,rfl,rfl,⟨.refl _,⟨.refl _,⟨.of_eq (congrArg (AV.int _) (w64_incr hlt31 hl39)),trivial⟩⟩⟩,(.refl _)⟩
  ·rintro ⟨_,rfl⟩
   refine sr<|s_mov (.bool true) rfl<|dk<|w_ret<|?_;obtain rfl:=os hf;exact r_flat ⟨trivial,trivial⟩ rfl (.refl _)

/- laws.eqAtom -/
def c230:ACode :=
 (.seq (.reg (tq 2 (.box 3 (.t 0)) (tq 3 (.box 3 (.t 1)) (tm 4 (.c (.bool false)) .done))))
 (.seq (.seq (.reg (tq 5 (.faddr 0 (.t 2)) (tq 6 (.load 1 false (.t 5)) (tq 7 (.faddr 0 (.t 3)) (tq 8 (.load 1 false (.t 7)) (tq 9 (.bin .neq (.t 6) (.t 8)) .done))))))
 (.cond (.t 9) (.seq (.reg (tm 4 (.c (.bool false)) .done))
 .ret)
 .skip))
 (.seq (.seq (.reg (tq 10 (.faddr 1 (.t 2)) (tq 11 (.load 1 false (.t 10)) (tq 12 (.faddr 1 (.t 3)) (tq 13 (.load 1 false (.t 12)) (tq 14 (.bin .neq (.t 11) (.t 13)) .done))))))
 (.cond (.t 14) (.seq (.reg (tm 4 (.c (.bool false)) .done))
 .ret)
 .skip))
 (.seq (.seq (.reg (tq 15 (.faddr 2 (.t 2)) (tq 16 (.load 1 false (.t 15)) (tq 17 (.faddr 2 (.t 3)) (tq 18 (.load 1 false (.t 17)) (tq 19 (.bin .neq (.t 16) (.t 18)) .done))))))
 (.cond (.t 19) (.seq (.reg (tm 4 (.c (.bool false)) .done))
 .ret)
 .skip))
 (.seq (.reg (tm 4 (.c (.bool true)) .done))
 .ret)))))
theorem fc230:fcomp Tryz.prog Tryz.f230 = some (c230.erase,[.mov (.t 4)],20):=by kernel_rfl
def laws_eqAtom (a_1:GAtom) (b_2:GAtom):Option Bool :=
    if (a_1.Kind != b_2.Kind) then
    some false
    else
    if (a_1.N != b_2.N) then
    some false
    else
    if (!(a_1.T == b_2.T)) then
    some false
    else
    some true
theorem w_laws_eqAtom (a_1:GAtom) (b_2:GAtom) (r:Bool) (hf:laws_eqAtom a_1 b_2 = some r):CallOK Tryz.prog 230 .flat [(encGAtom a_1),(encGAtom b_2)] (.bool r):=by
 refine CallOK.of_awp mixed Tryz.func230 fc230 nle ?_;rw [argT_eq];unfold laws_eqAtom at hf;unfold c230;refine (show awp Tryz.prog false 0 _ (ofL [(0,(encGAtom a_1)),(1,(encGAtom b_2))]) [] _ from ?_);refine sr<|s_do (o_box (j:=0) (c:=(.agg [(.int .i64 a_1.Kind),(.int .i64 a_1.N),(.str a_1.T)])) rfl trivial rfl rfl)<|s_do (o_box (j:=1) (c:=(.agg [(.int .i64 b_2.Kind),(.int .i64 b_2.N),(.str b_2.T)])) rfl trivial rfl rfl)<|s_mov (.bool false) rfl<|dk<|awp_seq<|sr<|s_q (.ptr 0 0 0) rfl trivial rfl<|s_q (.int .i64 a_1.Kind) rfl nle rfl<|s_q (.ptr 1 0 0) rfl trivial rfl<|s_q (.int .i64 b_2.Kind) rfl nle rfl<|s_q (.bool (a_1.Kind != b_2.Kind)) rfl rfl rfl<|?_
 refine dk<|?_
 rcases oi hf with ⟨c3,hf⟩ | ⟨c3,hf⟩
 ·refine w_condt rfl c3<|sr<|s_mov (.bool false) rfl<|dk<|w_ret<|?_;obtain rfl:=os hf;exact r_flat ⟨trivial,trivial⟩ rfl (.refl _)
 ·refine w_condf rfl (bf c3)<|w_skip<|k_seq<|awp_seq<|sr<|s_q (.ptr 0 0 1) rfl trivial rfl<|s_q (.int .i64 a_1.N) rfl nle rfl<|s_q (.ptr 1 0 1) rfl trivial rfl<|s_q (.int .i64 b_2.N) rfl nle rfl<|s_q (.bool (a_1.N != b_2.N)) rfl rfl rfl<|dk<|?_
  rcases oi hf with ⟨c4,hf⟩ | ⟨c4,hf⟩
  ·refine w_condt rfl c4<|sr<|s_mov (.bool false) rfl<|dk<|w_ret<|?_;obtain rfl:=os hf;exact r_flat ⟨trivial,trivial⟩ rfl (.refl _)
  ·refine w_condf rfl (bf c4)<|w_skip<|k_seq<|awp_seq<|sr<|s_q (.ptr 0 0 2) rfl trivial rfl<|s_q (.str a_1.T) rfl nle rfl<|s_q (.ptr 1 0 2) rfl trivial rfl<|s_q (.str b_2.T) rfl nle rfl<|s_q (.bool (!(a_1.T == b_2.T))) rfl trivial rfl<|dk<|?_
   rcases oi hf with ⟨c5,hf⟩ | ⟨c5,hf⟩
   ·refine w_condt rfl c5<|sr<|s_mov (.bool false) rfl<|dk<|w_ret<|?_;obtain rfl:=os hf;exact r_flat ⟨trivial,trivial⟩ rfl (.refl _)
   ·refine w_condf rfl (bf c5)<|w_skip<|k_seq<|sr<|s_mov (.bool true) rfl<|dk<|w_ret<|?_;obtain rfl:=os hf;exact r_flat ⟨trivial,trivial⟩ rfl (.refl _)

/- laws.eqAtomS -/
def c177:ACode :=
 (.seq (.reg (tm 4 (.c (.bool false)) .done))
 (.seq (.seq (.reg (tm 6 (.t 0) (tq 7 (.len (.t 6)) (tm 8 (.t 1) (tq 9 (.len (.t 8)) (tq 10 (.bin .neq (.t 7) (.t 9)) .done))))))
 (.cond (.t 10) (.seq (.reg (tm 4 (.c (.bool false)) .done))
 .ret)
 .skip))
 (.seq (.seq (.reg (tm 5 (.c (.int .i64 0)) .done))
 (.block 0 (.loop (.seq (.seq (.reg (tm 11 (.t 5) (tm 12 (.t 0) (tq 13 (.len (.t 12)) (tq 14 (.bin .lss (.t 11) (.t 13)) .done)))))
 (.cond (.t 14) .skip
 (.exit 0)))
 (.seq (.block 1 (.seq (.reg (tm 17 (.t 0) (tm 18 (.t 5) (tq 19 (.iaddr 3 (.t 17) (.t 18)) (tq 20 (.load 3 true (.t 19)) (tm 21 (.t 1) (tm 22 (.t 5) (tq 23 (.iaddr 3 (.t 21) (.t 22)) (tq 24 (.load 3 true (.t 23)) (.l ⟨(some 25),none,.call 230 [(.t 20),(.t 24)]⟩ []
 (tq 26 (.not (.t 25)) .done) .non))))))))))
 (.cond (.t 26) (.seq (.reg (tm 4 (.c (.bool false)) .done))
 .ret)
 .skip)))
 (.reg (tm 15 (.t 5) (tq 16 (.bin .add (.t 15) (.c (.int .i64 1))) (tm 5 (.t 16) .done)))))))))
 (.cut (.seq (.reg (tm 4 (.c (.bool true)) .done))
 .ret)))))
theorem fc177:fcomp Tryz.prog Tryz.f177 = some (c177.erase,[.mov (.t 4)],27):=by kernel_rfl
def laws_eqAtomS_L1 (b_2:(List GAtom)):List GAtom → Nat → Option (Fl Bool Unit)
  | [],i_25 =>
    some (.go ())
  | x_43 :: xs,i_25 =>
    (idx b_2 (i_25:Int)).bind fun x_46 =>
    (laws_eqAtom x_43 x_46).bind fun r_48 =>
    if (!r_48) then
    some (.ret false)
    else
    laws_eqAtomS_L1 b_2 xs (i_25 + 1)

def laws_eqAtomS (a_1:(List GAtom)) (b_2:(List GAtom)):Option Bool :=
    if ((a_1.length:Int) != (b_2.length:Int)) then
    some false
    else
    (laws_eqAtomS_L1 b_2 a_1 0).bind fun q => (match q with
    | .ret r => some r
    | .go _ =>
    some true)
theorem w_laws_eqAtomS (a_1:(List GAtom)) (b_2:(List GAtom)) (r:Bool) (hf:laws_eqAtomS a_1 b_2 = some r):CallOK Tryz.prog 177 .flat [(.lst 3 (a_1.map encGAtom)),(.lst 3 (b_2.map encGAtom))] (.bool r):=by
 refine CallOK.of_awp mixed Tryz.func177 fc177 nle ?_;rw [argT_eq];unfold laws_eqAtomS at hf;unfold c177;refine (show awp Tryz.prog false 0 _ (ofL [(0,(.lst 3 (a_1.map encGAtom))),(1,(.lst 3 (b_2.map encGAtom)))]) [] _ from ?_);refine sr<|s_mov (.bool false) rfl<|dk<|awp_seq<|sr<|s_mov (.lst 3 (a_1.map encGAtom)) rfl<|s_dof (o_len (enc:=encGAtom) rfl) fun hl3 => s_mov (.lst 3 (b_2.map encGAtom)) rfl<|s_dof (o_len (enc:=encGAtom) rfl) fun hl4 => s_q (.bool ((a_1.length:Int) != (b_2.length:Int))) rfl rfl rfl<|dk<|?_
 rcases oi hf with ⟨c5,hf⟩ | ⟨c5,hf⟩
 ·refine w_condt rfl c5<|sr<|s_mov (.bool false) rfl<|dk<|w_ret<|?_;obtain rfl:=os hf;exact r_flat ⟨trivial,trivial⟩ rfl (.refl _)
 ·refine w_condf rfl (bf c5)<|w_skip<|k_seq<|awp_seq<|sr<|s_mov (.int .i64 0) rfl<|dk<|?_
  obtain ⟨p36,hb1,hf⟩:=ob hf
  refine awp_cutx (X:={q:Unit // p36 = .go q}) (fun q => ([],[])) ?_ ?_
  ·refine awp_loop (X:={q:Nat // laws_eqAtomS_L1 b_2 (a_1.drop q) q = some p36}) (fun q => ([(0,(.lst 3 (a_1.map encGAtom))),(1,(.lst 3 (b_2.map encGAtom))),(5,(.int .i64 (q.1:Int)))],[])) (fun q => a_1.length - q.1) ⟨0,hb1⟩ ⟨[],[],_,_,rfl,rfl,⟨.refl _,⟨.refl _,⟨.refl _,trivial⟩⟩⟩,(.refl _)⟩ ?_
   rintro ⟨i_25,hc1⟩
   have hc1:laws_eqAtomS_L1 b_2 (a_1.drop i_25) i_25 = some p36:=hc1
   refine (show awp Tryz.prog false 0 _ (ofL [(0,(.lst 3 (a_1.map encGAtom))),(1,(.lst 3 (b_2.map encGAtom))),(5,(.int .i64 (i_25:Int)))]) [] _ from ?_)
   rcases dropc a_1 i_25 with ⟨hie39,hd42⟩ | ⟨hlt37,x_43,hx38,hd42⟩
   ·rw [hd42,laws_eqAtomS_L1.eq_1] at hc1
    have hq41:=dlf hie39
    refine awp_seq<|sr<|s_mov (.int .i64 (i_25:Int)) rfl<|s_mov (.lst 3 (a_1.map encGAtom)) rfl<|s_dof (o_len (enc:=encGAtom) rfl) fun hl44 => s_q (.bool (decide ((i_25:Int) < (a_1.length:Int)))) rfl rfl rfl<|dk<|w_condf rfl hq41<|w_exit<|k_seqx<|k_loopx<|k_blkx<|?_;obtain rfl:=os hc1;exact k_cutn ⟨_,rfl⟩ ⟨[],[],_,_,rfl,rfl,trivial,(.refl _)⟩
   ·rw [hd42,laws_eqAtomS_L1.eq_2] at hc1
    have hq41:=dlt hlt37
    refine awp_seq<|sr<|s_mov (.int .i64 (i_25:Int)) rfl<|s_mov (.lst 3 (a_1.map encGAtom)) rfl<|s_dof (o_len (enc:=encGAtom) rfl) fun hl45 => s_q (.bool (decide ((i_25:Int) < (a_1.length:Int)))) rfl rfl rfl<|dk<|w_condt rfl hq41<|w_skip<|k_seq<|awp_seq<|w_blk<|sr<|?_
    obtain ⟨x_46,ex47,hc1⟩:=ob hc1
    obtain ⟨r_48,er49,hc1⟩:=ob hc1
    refine s_mov (.lst 3 (a_1.map encGAtom)) rfl<|s_mov (.int .i64 (i_25:Int)) rfl<|s_do (o_iaddrn (enc:=encGAtom) rfl rfl hx38)<|s_q (encGAtom x_43) rfl nle rfl<|s_mov (.lst 3 (b_2.map encGAtom)) rfl<|s_mov (.int .i64 (i_25:Int)) rfl<|s_do (o_iaddr (enc:=encGAtom) rfl rfl (idx0 ex47) (idx1 ex47))<|s_q (encGAtom x_46) rfl nle rfl<|s_dol (o_call (w_laws_eqAtom _ _ _ er49) rfl (.refl _) rfl) a_same trivial<|s_q (.bool (!r_48)) rfl trivial rfl<|dk<|?_
    rcases oi hc1 with ⟨c50,hc1⟩ | ⟨c50,hc1⟩
    ·refine w_condt rfl c50<|sr<|s_mov (.bool false) rfl<|dk<|w_ret<|?_;obtain rfl:=os hc1;obtain rfl:=os hf;exact r_flat ⟨trivial,trivial⟩ rfl (.refl _)
    ·refine w_condf rfl (bf c50)<|w_skip<|k_blk<|k_seq<|w_reg<|s_mov (.int .i64 (i_25:Int)) rfl<|s_q (.int .i64 (w64 ((i_25:Int) + 1))) rfl rfl rfl<|s_mov (.int .i64 (w64 ((i_25:Int) + 1))) rfl<|w_done<|?_;exact k_loopn ⟨(i_25 + 1),hc1⟩ (mul hlt37) ⟨[],[],_,_,rfl,rfl,⟨.refl _,⟨.refl _,⟨.of_eq (congrArg (AV.int _) (w64_incr hlt37 hl45)),trivial⟩⟩⟩,(.refl _)⟩
  ·rintro ⟨_,rfl⟩
   refine sr<|s_mov (.bool true) rfl<|dk<|w_ret<|?_;obtain rfl:=os hf;exact r_flat ⟨trivial,trivial⟩ rfl (.refl _)

/- laws.eqCond -/
def c221:ACode :=
 (.seq (.reg (tq 2 (.box 3 (.t 0)) (tq 3 (.box 3 (.t 1)) (tm 4 (.c (.bool false)) .done))))
 (.seq (.seq (.reg (tq 5 (.faddr 0 (.t 2)) (tq 6 (.load 1 false (.t 5)) (tq 7 (.faddr 0 (.t 3)) (tq 8 (.load 1 false (.t 7)) (tq 9 (.bin .neq (.t 6) (.t 8)) .done))))))
 (.cond (.t 9) (.seq (.reg (tm 4 (.c (.bool false)) .done))
 .ret)
 .skip))
 (.seq (.seq (.reg (tq 10 (.faddr 1 (.t 2)) (tq 11 (.load 1 false (.t 10)) (tq 12 (.faddr 1 (.t 3)) (tq 13 (.load 1 false (.t 12)) (tq 14 (.bin .neq (.t 11) (.t 13)) .done))))))
 (.cond (.t 14) (.seq (.reg (tm 4 (.c (.bool false)) .done))
 .ret)
 .skip))
 (.seq (.seq (.reg (tq 15 (.faddr 2 (.t 2)) (tq 16 (.load 1 false (.t 15)) (tq 17 (.faddr 2 (.t 3)) (tq 18 (.load 1 false (.t 17)) (tq 19 (.call 177 [(.t 16),(.t 18)]) (tq 20 (.not (.t 19)) .done)))))))
 (.cond (.t 20) (.seq (.reg (tm 4 (.c (.bool false)) .done))
 .ret)
 .skip))
 (.seq (.reg (tm 4 (.c (.bool true)) .done))
 .ret)))))
theorem fc221:fcomp Tryz.prog Tryz.f221 = some (c221.erase,[.mov (.t 4)],21):=by kernel_rfl
def laws_eqCond (a_1:GCond) (b_2:GCond):Option Bool :=
    if (!(a_1.Column == b_2.Column)) then
    some false
    else
    if (a_1.Func != b_2.Func) then
    some false
    else
    (laws_eqAtomS a_1.Value b_2.Value).bind fun r_5 =>
    if (!r_5) then
    some false
    else
    some true
theorem w_laws_eqCond (a_1:GCond) (b_2:GCond) (r:Bool) (hf:laws_eqCond a_1 b_2 = some r):CallOK Tryz.prog 221 .flat [(encGCond a_1),(encGCond b_2)] (.bool r):=by
 refine CallOK.of_awp mixed Tryz.func221 fc221 nle ?_;rw [argT_eq];unfold laws_eqCond at hf;unfold c221;refine (show awp Tryz.prog false 0 _ (ofL [(0,(encGCond a_1)),(1,(encGCond b_2))]) [] _ from ?_);refine sr<|s_do (o_box (j:=0) (c:=(.agg [(.str a_1.Column),(.int .i64 a_1.Func),(.lst 3 (a_1.Value.map encGAtom))])) rfl trivial rfl rfl)<|s_do (o_box (j:=1) (c:=(.agg [(.str b_2.Column),(.int .i64 b_2.Func),(.lst 3 (b_2.Value.map encGAtom))])) rfl trivial rfl rfl)<|s_mov (.bool false) rfl<|dk<|awp_seq<|sr<|s_q (.ptr 0 0 0) rfl trivial rfl<|s_q (.str a_1.Column) rfl nle rfl<|s_q (.ptr 1 0 0) rfl trivial rfl<|s_q (.str b_2.Column) rfl nle rfl<|s_q (.bool (!(a_1.Column == b_2.Column))) rfl trivial rfl<|?_
 refine dk<|?_
 rcases oi hf with ⟨c3,hf⟩ | ⟨c3,hf⟩
 ·refine w_condt rfl c3<|sr<|s_mov (.bool false) rfl<|dk<|w_ret<|?_;obtain rfl:=os hf;exact r_flat ⟨trivial,trivial⟩ rfl (.refl _)
 ·refine w_condf rfl (bf c3)<|w_skip<|k_seq<|awp_seq<|sr<|s_q (.ptr 0 0 1) rfl trivial rfl<|s_q (.int .i64 a_1.Func) rfl nle rfl<|s_q (.ptr 1 0 1) rfl trivial rfl<|s_q (.int .i64 b_2.Func) rfl nle rfl<|s_q (.bool (a_1.Func != b_2.Func)) rfl rfl rfl<|dk<|?_
  rcases oi hf with ⟨c4,hf⟩ | ⟨c4,hf⟩
  ·refine w_condt rfl c4<|sr<|s_mov (.bool false) rfl<|dk<|w_ret<|?_;obtain rfl:=os hf;exact r_flat ⟨trivial,trivial⟩ rfl (.refl _)
  ·refine w_condf rfl (bf c4)<|w_skip<|k_seq<|awp_seq<|sr<|?_
   obtain ⟨r_5,er6,hf⟩:=ob hf
   refine s_q (.ptr 0 0 2) rfl trivial rfl<|s_q (.lst 3 (a_1.Value.map encGAtom)) rfl nle rfl<|s_q (.ptr 1 0 2) rfl trivial rfl<|s_q (.lst 3 (b_2.Value.map encGAtom)) rfl nle rfl<|s_do (o_call (w_laws_eqAtomS _ _ _ er6) rfl (.refl _) rfl)<|s_q (.bool (!r_5)) rfl trivial rfl<|dk<|?_
   rcases oi hf with ⟨c7,hf⟩ | ⟨c7,hf⟩
   ·refine w_condt rfl c7<|sr<|s_mov (.bool false) rfl<|dk<|w_ret<|?_;obtain rfl:=os hf;exact r_flat ⟨trivial,trivial⟩ rfl (.refl _)
   ·refine w_condf rfl (bf c7)<|w_skip<|k_seq<|sr<|s_mov (.bool true) rfl<|dk<|w_ret<|?_;obtain rfl:=os hf;exact r_flat ⟨trivial,trivial⟩ rfl (.refl _)

/- laws.eqCondS -/
def c158:ACode :=
 (.seq (.reg (tm 4 (.c (.bool false)) .done))
 (.seq (.seq (.reg (tm 6 (.t 0) (tq 7 (.len (.t 6)) (tm 8 (.t 1) (tq 9 (.len (.t 8)) (tq 10 (.bin .neq (.t 7) (.t 9)) .done))))))
 (.cond (.t 10) (.seq (.reg (tm 4 (.c (.bool false)) .done))
 .ret)
 .skip))
 (.seq (.seq (.reg (tm 5 (.c (.int .i64 0)) .done))
 (.block 0 (.loop (.seq (.seq (.reg (tm 11 (.t 5) (tm 12 (.t 0) (tq 13 (.len (.t 12)) (tq 14 (.bin .lss (.t 11) (.t 13)) .done)))))
 (.cond (.t 14) .skip
 (.exit 0)))
 (.seq (.block 1 (.seq (.reg (tm 17 (.t 0) (tm 18 (.t 5) (tq 19 (.iaddr 3 (.t 17) (.t 18)) (tq 20 (.load 3 true (.t 19)) (tm 21 (.t 1) (tm 22 (.t 5) (tq 23 (.iaddr 3 (.t 21) (.t 22)) (tq 24 (.load 3 true (.t 23)) (.l ⟨(some 25),none,.call 221 [(.t 20),(.t 24)]⟩ []
 (tq 26 (.not (.t 25)) .done) .non))))))))))
 (.cond (.t 26) (.seq (.reg (tm 4 (.c (.bool false)) .done))
 .ret)
 .skip)))
 (.reg (tm 15 (.t 5) (tq 16 (.bin .add (.t 15) (.c (.int .i64 1))) (tm 5 (.t 16) .done)))))))))
 (.cut (.seq (.reg (tm 4 (.c (.bool true)) .done))
 .ret)))))
theorem fc158:fcomp Tryz.prog Tryz.f158 = some (c158.erase,[.mov (.t 4)],27):=by kernel_rfl
def laws_eqCondS_L1 (b_2:(List GCond)):List GCond → Nat → Option (Fl Bool Unit)
  | [],i_25 =>
    some (.go ())
  | x_43 :: xs,i_25 =>
    (idx b_2 (i_25:Int)).bind fun x_46 =>
    (laws_eqCond x_43 x_46).bind fun r_48 =>
    if (!r_48) then
    some (.ret false)
    else
    laws_eqCondS_L1 b_2 xs (i_25 + 1)

def laws_eqCondS (a_1:(List GCond)) (b_2:(List GCond)):Option Bool :=
    if ((a_1.length:Int) != (b_2.length:Int)) then
    some false
    else
    (laws_eqCondS_L1 b_2 a_1 0).bind fun q => (match q with
    | .ret r => some r
    | .go _ =>
    some true)
theorem w_laws_eqCondS (a_1:(List GCond)) (b_2:(List GCond)) (r:Bool) (hf:laws_eqCondS a_1 b_2 = some r):CallOK Tryz.prog 158 .flat [(.lst 3 (a_1.map encGCond)),(.lst 3 (b_2.map encGCond))] (.bool r):=by
 refine CallOK.of_awp mixed Tryz.func158 fc158 nle ?_;rw [argT_eq];unfold laws_eqCondS at hf;unfold c158;refine (show awp Tryz.prog false 0 _ (ofL [(0,(.lst 3 (a_1.map encGCond))),(1,(.lst 3 (b_2.map encGCond)))]) [] _ from ?_);refine sr<|s_mov (.bool false) rfl<|dk<|awp_seq<|sr<|s_mov (.lst 3 (a_1.map encGCond)) rfl<|s_dof (o_len (enc:=encGCond) rfl) fun hl3 => s_mov (.lst 3 (b_2.map encGCond)) rfl<|s_dof (o_len (enc:=encGCond) rfl) fun hl4 => s_q (.bool ((a_1.length:Int) != (b_2.length:Int))) rfl rfl rfl<|dk<|?_
 rcases oi hf with ⟨c5,hf⟩ | ⟨c5,hf⟩
 ·refine w_condt rfl c5<|sr<|s_mov (.bool false) rfl<|dk<|w_ret<|?_;obtain rfl:=os hf;exact r_flat ⟨trivial,trivial⟩ rfl (.refl _)
 ·refine w_condf rfl (bf c5)<|w_skip<|k_seq<|awp_seq<|sr<|s_mov (.int .i64 0) rfl<|dk<|?_
  obtain ⟨p36,hb1,hf⟩:=ob hf
  refine awp_cutx (X:={q:Unit // p36 = .go q}) (fun q => ([],[])) ?_ ?_
  ·refine awp_loop (X:={q:Nat // laws_eqCondS_L1 b_2 (a_1.drop q) q = some p36}) (fun q => ([(0,(.lst 3 (a_1.map encGCond))),(1,(.lst 3 (b_2.map encGCond))),(5,(.int .i64 (q.1:Int)))],[])) (fun q => a_1.length - q.1) ⟨0,hb1⟩ ⟨[],[],_,_,rfl,rfl,⟨.refl _,⟨.refl _,⟨.refl _,trivial⟩⟩⟩,(.refl _)⟩ ?_
   rintro ⟨i_25,hc1⟩
   have hc1:laws_eqCondS_L1 b_2 (a_1.drop i_25) i_25 = some p36:=hc1
   refine (show awp Tryz.prog false 0 _ (ofL [(0,(.lst 3 (a_1.map encGCond))),(1,(.lst 3 (b_2.map encGCond))),(5,(.int .i64 (i_25:Int)))]) [] _ from ?_)
   rcases dropc a_1 i_25 with ⟨hie39,hd42⟩ | ⟨hlt37,x_43,hx38,hd42⟩
   ·rw [hd42,laws_eqCondS_L1.eq_1] at hc1
    have hq41:=dlf hie39
    refine awp_seq<|sr<|s_mov (.int .i64 (i_25:Int)) rfl<|s_mov (.lst 3 (a_1.map encGCond)) rfl<|s_dof (o_len (enc:=encGCond) rfl) fun hl44 => s_q (.bool (decide ((i_25:Int) < (a_1.length:Int)))) rfl rfl rfl<|dk<|w_condf rfl hq41<|w_exit<|k_seqx<|k_loopx<|k_blkx<|?_;obtain rfl:=os hc1;exact k_cutn ⟨_,rfl⟩ ⟨[],[],_,_,rfl,rfl,trivial,(.refl _)⟩
   ·rw [hd42,laws_eqCondS_L1.eq_2] at hc1
    have hq41:=dlt hlt37
    refine awp_seq<|sr<|s_mov (.int .i64 (i_25:Int)) rfl<|s_mov (.lst 3 (a_1.map encGCond)) rfl<|s_dof (o_len (enc:=encGCond) rfl) fun hl45 => s_q (.bool (decide ((i_25:Int) < (a_1.length:Int)))) rfl rfl rfl<|dk<|w_condt rfl hq41<|w_skip<|k_seq<|awp_seq<|w_blk<|sr<|?_
    obtain ⟨x_46,ex47,hc1⟩:=ob hc1
    obtain ⟨r_48,er49,hc1⟩:=ob hc1
    refine s_mov (.lst 3 (a_1.map encGCond)) rfl<|s_mov (.int .i64 (i_25:Int)) rfl<|s_do (o_iaddrn (enc:=encGCond) rfl rfl hx38)<|s_q (encGCond x_43) rfl nle rfl<|s_mov (.lst 3 (b_2.map encGCond)) rfl<|s_mov (.int .i64 (i_25:Int)) rfl<|s_do (o_iaddr (enc:=encGCond) rfl rfl (idx0 ex47) (idx1 ex47))<|s_q (encGCond x_46) rfl nle rfl<|s_dol (o_call (w_laws_eqCond _ _ _ er49) rfl (.refl _) rfl) a_same trivial<|s_q (.bool (!r_48)) rfl trivial rfl<|dk<|?_
    rcases oi hc1 with ⟨c50,hc1⟩ | ⟨c50,hc1⟩
    ·refine w_condt rfl c50<|sr<|s_mov (.bool false) rfl<|dk<|w_ret<|?_;obtain rfl:=os hc1;obtain rfl:=os hf;exact r_flat ⟨trivial,trivial⟩ rfl (.refl _)
    ·refine w_condf rfl (bf c50)<|w_skip<|k_blk<|k_seq<|w_reg<|s_mov (.int .i64 (i_25:Int)) rfl<|s_q (.int .i64 (w64 ((i_25:Int) + 1))) rfl rfl rfl<|s_mov (.int .i64 (w64 ((i_25:Int) + 1))) rfl<|w_done<|?_;exact k_loopn ⟨(i_25 + 1),hc1⟩ (mul hlt37) ⟨[],[],_,_,rfl,rfl,⟨.refl _,⟨.refl _,⟨.of_eq (congrArg (AV.int _) (w64_incr hlt37 hl45)),trivial⟩⟩⟩,(.refl _)⟩
  ·rintro ⟨_,rfl⟩
   refine sr<|s_mov (.bool true) rfl<|dk<|w_ret<|?_;obtain rfl:=os hf;exact r_flat ⟨trivial,trivial⟩ rfl (.refl _)

/- laws.eqStringS -/
def c160:ACode :=
 (.seq (.reg (tm 4 (.c (.bool false)) .done))
 (.seq (.seq (.reg (tm 6 (.t 0) (tq 7 (.len (.t 6)) (tm 8 (.t 1) (tq 9 (.len (.t 8)) (tq 10 (.bin .neq (.t 7) (.t 9)) .done))))))
 (.cond (.t 10) (.seq (.reg (tm 4 (.c (.bool false)) .done))
 .ret)
 .skip))
 (.seq (.seq (.reg (tm 5 (.c (.int .i64 0)) .done))
 (.block 0 (.loop (.seq (.seq (.reg (tm 11 (.t 5) (tm 12 (.t 0) (tq 13 (.len (.t 12)) (tq 14 (.bin .lss (.t 11) (.t 13)) .done)))))
 (.cond (.t 14) .skip
 (.exit 0)))
 (.seq (.block 1 (.seq (.reg (tm 17 (.t 0) (tm 18 (.t 5) (tq 19 (.iaddr 1 (.t 17) (.t 18)) (tq 20 (.load 1 false (.t 19)) (tm 21 (.t 1) (tm 22 (.t 5) (tq 23 (.iaddr 1 (.t 21) (.t 22)) (tq 24 (.load 1 false (.t 23)) (tq 25 (.bin .neq (.t 20) (.t 24)) .done))))))))))
 (.cond (.t 25) (.seq (.reg (tm 4 (.c (.bool false)) .done))
 .ret)
 .skip)))
 (.reg (tm 15 (.t 5) (tq 16 (.bin .add (.t 15) (.c (.int .i64 1))) (tm 5 (.t 16) .done)))))))))
 (.cut (.seq (.reg (tm 4 (.c (.bool true)) .done))
 .ret)))))
theorem fc160:fcomp Tryz.prog Tryz.f160 = some (c160.erase,[.mov (.t 4)],26):=by kernel_rfl
def laws_eqStringS_L1 (b_2:(List Str)):List Str → Nat → Option (Fl Bool Unit)
  | [],i_21 =>
    some (.go ())
  | x_37 :: xs,i_21 =>
    (idx b_2 (i_21:Int)).bind fun x_40 =>
    if (!(x_37 == x_40)) then
    some (.ret false)
    else
    laws_eqStringS_L1 b_2 xs (i_21 + 1)

def laws_eqStringS (a_1:(List Str)) (b_2:(List Str)):Option Bool :=
    if ((a_1.length:Int) != (b_2.length:Int)) then
    some false
    else
    (laws_eqStringS_L1 b_2 a_1 0).bind fun q => (match q with
    | .ret r => some r
    | .go _ =>
    some true)
theorem w_laws_eqStringS (a_1:(List Str)) (b_2:(List Str)) (r:Bool) (hf:laws_eqStringS a_1 b_2 = some r):CallOK Tryz.prog 160 .flat [(.lst 1 (a_1.map AV.str)),(.lst 1 (b_2.map AV.str))] (.bool r):=by
 refine CallOK.of_awp mixed Tryz.func160 fc160 nle ?_;rw [argT_eq];unfold laws_eqStringS at hf;unfold c160;refine (show awp Tryz.prog false 0 _ (ofL [(0,(.lst 1 (a_1.map AV.str))),(1,(.lst 1 (b_2.map AV.str)))]) [] _ from ?_);refine sr<|s_mov (.bool false) rfl<|dk<|awp_seq<|sr<|s_mov (.lst 1 (a_1.map AV.str)) rfl<|s_dof (o_len (enc:=AV.str) rfl) fun hl3 => s_mov (.lst 1 (b_2.map AV.str)) rfl<|s_dof (o_len (enc:=AV.str) rfl) fun hl4 => s_q (.bool ((a_1.length:Int) != (b_2.length:Int))) rfl rfl rfl<|dk<|?_
 rcases oi hf with ⟨c5,hf⟩ | ⟨c5,hf⟩
 ·refine w_condt rfl c5<|sr<|s_mov (.bool false) rfl<|dk<|w_ret<|?_;obtain rfl:=os hf;exact r_flat ⟨trivial,trivial⟩ rfl (.refl _)
 ·refine w_condf rfl (bf c5)<|w_skip<|k_seq<|awp_seq<|sr<|s_mov (.int .i64 0) rfl<|dk<|?_
  obtain ⟨p30,hb1,hf⟩:=ob hf
  refine awp_cutx (X:={q:Unit // p30 = .go q}) (fun q => ([],[])) ?_ ?_
  ·refine awp_loop (X:={q:Nat // laws_eqStringS_L1 b_2 (a_1.drop q) q = some p30}) (fun q => ([(0,(.lst 1 (a_1.map AV.str))),(1,(.lst 1 (b_2.map AV.str))),(5,(.int .i64 (q.1:Int)))],[])) (fun q => a_1.length - q.1) ⟨0,hb1⟩ ⟨[],[],_,_,rfl,rfl,⟨.refl _,⟨.refl _,⟨.refl _,trivial⟩⟩⟩,(.refl _)⟩ ?_
   rintro ⟨i_21,hc1⟩
   have hc1:laws_eqStringS_L1 b_2 (a_1.drop i_21) i_21 = some p30:=hc1
   refine (show awp Tryz.prog false 0 _ (ofL [(0,(.lst 1 (a_1.map AV.str))),(1,(.lst 1 (b_2.map AV.str))),(5,(.int .i64 (i_21:Int)))]) [] _ from ?_)
   rcases dropc a_1 i_21 with ⟨hie33,hd36⟩ | ⟨hlt31,x_37,hx32,hd36⟩
   ·rw [hd36,laws_eqStringS_L1.eq_1] at hc1
    have hq35:=dlf hie33
    refine awp_seq<|sr<|s_mov (.int .i64 (i_21:Int)) rfl<|s_mov (.lst 1 (a_1.map AV.str)) rfl<|s_dof (o_len (enc:=AV.str) rfl) fun hl38 => s_q (.bool (decide ((i_21:Int) < (a_1.length:Int)))) rfl rfl rfl<|dk<|w_condf rfl hq35<|w_exit<|k_seqx<|k_loopx<|k_blkx<|?_;obtain rfl:=os hc1;exact k_cutn ⟨_,rfl⟩ ⟨[],[],_,_,rfl,rfl,trivial,(.refl _)⟩
   ·rw [hd36,laws_eqStringS_L1.eq_2] at hc1
    have hq35:=dlt hlt31
    refine awp_seq<|sr<|s_mov (.int .i64 (i_21:Int)) rfl<|s_mov (.lst 1 (a_1.map AV.str)) rfl<|s_dof (o_len (enc:=AV.str) rfl) fun hl39 => s_q (.bool (decide ((i_21:Int) < (a_1.length:Int)))) rfl rfl rfl<|dk<|w_condt rfl hq35<|w_skip<|k_seq<|awp_seq<|w_blk<|sr<|?_
    obtain ⟨x_40,ex41,hc1⟩:=ob hc1
    refine s_mov (.lst 1 (a_1.map AV.str)) rfl<|s_mov (.int .i64 (i_21:Int)) rfl<|s_do (o_iaddrn (enc:=AV.str) rfl rfl hx32)<|s_q (.str x_37) rfl ⟨rfl,rfl⟩ rfl<|s_mov (.lst 1 (b_2.map AV.str)) rfl<|s_mov (.int .i64 (i_21:Int)) rfl<|s_do (o_iaddr (enc:=AV.str) rfl rfl (idx0 ex41) (idx1 ex41))<|s_q (.str x_40) rfl ⟨rfl,rfl⟩ rfl<|s_q (.bool (!(x_37 == x_40))) rfl trivial rfl<|dk<|?_
    rcases oi hc1 with ⟨c42,hc1⟩ | ⟨c42,hc1⟩
    ·refine w_condt rfl c42<|sr<|s_mov (.bool false) rfl<|dk<|w_ret<|?_;obtain rfl:=os hc1;obtain rfl:=os hf;exact r_flat ⟨trivial,trivial⟩ rfl (.refl _)
    ·refine w_condf rfl (bf c42)<|w_skip<|k_blk<|k_seq<|w_reg<|s_mov (.int .i64 (i_21:Int)) rfl<|s_q (.int .i64 (w64 ((i_21:Int) + 1))) rfl rfl rfl<|s_mov (.int .i64 (w64 ((i_21:Int) + 1))) rfl<|w_done<|?_;exact k_loopn ⟨(i_21 + 1),hc1⟩ (mul hlt31) ⟨[],[],_,_,rfl,rfl,⟨.refl _,⟨.refl _,⟨.of_eq (congrArg (AV.int _) (w64_incr hlt31 hl39)),trivial⟩⟩⟩,(.refl _)⟩
  ·rintro ⟨_,rfl⟩
   refine sr<|s_mov (.bool true) rfl<|dk<|w_ret<|?_;obtain rfl:=os hf;exact r_flat ⟨trivial,trivial⟩ rfl (.refl _)

/- laws.eqSet -/
def c98:ACode :=
 (.seq (.reg (tq 2 (.box 3 (.t 0)) (tq 3 (.box 3 (.t 1)) (tm 4 (.c (.bool false)) .done))))
 (.seq (.seq (.reg (tq 5 (.faddr 0 (.t 2)) (tq 6 (.load 1 false (.t 5)) (tq 7 (.faddr 0 (.t 3)) (tq 8 (.load 1 false (.t 7)) (tq 9 (.bin .neq (.t 6) (.t 8)) .done))))))
 (.cond (.t 9) (.seq (.reg (tm 4 (.c (.bool false)) .done))
 .ret)
 .skip))
 (.seq (.seq (.reg (tq 10 (.faddr 1 (.t 2)) (tq 11 (.load 1 false (.t 10)) (tq 12 (.faddr 1 (.t 3)) (tq 13 (.load 1 false (.t 12)) (tq 14 (.call 177 [(.t 11),(.t 13)]) (tq 15 (.not (.t 14)) .done)))))))
 (.cond (.t 15) (.seq (.reg (tm 4 (.c (.bool false)) .done))
 .ret)
 .skip))
 (.seq (.seq (.reg (tq 16 (.faddr 2 (.t 2)) (tq 17 (.load 1 false (.t 16)) (tq 18 (.faddr 2 (.t 3)) (tq 19 (.load 1 false (.t 18)) (tq 20 (.call 160 [(.t 17),(.t 19)]) (tq 21 (.not (.t 20)) .done)))))))
 (.cond (.t 21) (.seq (.reg (tm 4 (.c (.bool false)) .done))
 .ret)
 .skip))
 (.seq (.reg (tm 4 (.c (.bool true)) .done))
 .ret)))))
theorem fc98:fcomp Tryz.prog Tryz.f98 = some (c98.erase,[.mov (.t 4)],22):=by kernel_rfl
def laws_eqSet (a_1:GSet) (b_2:GSet):Option Bool :=
    if (!(a_1.Column == b_2.Column)) then
    some false
    else
    (laws_eqAtomS a_1.Value b_2.Value).bind fun r_4 =>
    if (!r_4) then
    some false
    else
    (laws_eqStringS a_1.Names b_2.Names).bind fun r_7 =>
    if (!r_7) then
    some false
    else
    some true
theorem w_laws_eqSet (a_1:GSet) (b_2:GSet) (r:Bool) (hf:laws_eqSet a_1 b_2 = some r):CallOK Tryz.prog 98 .flat [(encGSet a_1),(encGSet b_2)] (.bool r):=by
 refine CallOK.of_awp mixed Tryz.func98 fc98 nle ?_;rw [argT_eq];unfold laws_eqSet at hf;unfold c98;refine (show awp Tryz.prog false 0 _ (ofL [(0,(encGSet a_1)),(1,(encGSet b_2))]) [] _ from ?_);refine sr<|s_do (o_box (j:=0) (c:=(.agg [(.str a_1.Column),(.lst 3 (a_1.Value.map encGAtom)),(.lst 1 (a_1.Names.map AV.str))])) rfl trivial rfl rfl)<|s_do (o_box (j:=1) (c:=(.agg [(.str b_2.Column),(.lst 3 (b_2.Value.map encGAtom)),(.lst 1 (b_2.Names.map AV.str))])) rfl trivial rfl rfl)<|s_mov (.bool false) rfl<|dk<|awp_seq<|sr<|s_q (.ptr 0 0 0) rfl trivial rfl<|s_q (.str a_1.Column) rfl nle rfl<|s_q (.ptr 1 0 0) rfl trivial rfl<|s_q (.str b_2.Column) rfl nle rfl<|?_
 refine s_q (.bool (!(a_1.Column == b_2.Column))) rfl trivial rfl<|dk<|?_
 rcases oi hf with ⟨c3,hf⟩ | ⟨c3,hf⟩
 ·refine w_condt rfl c3<|sr<|s_mov (.bool false) rfl<|dk<|w_ret<|?_;obtain rfl:=os hf;exact r_flat ⟨trivial,trivial⟩ rfl (.refl _)
 ·refine w_condf rfl (bf c3)<|w_skip<|k_seq<|awp_seq<|sr<|?_
  obtain ⟨r_4,er5,hf⟩:=ob hf
  refine s_q (.ptr 0 0 1) rfl trivial rfl<|s_q (.lst 3 (a_1.Value.map encGAtom)) rfl nle rfl<|s_q (.ptr 1 0 1) rfl trivial rfl<|s_q (.lst 3 (b_2.Value.map encGAtom)) rfl nle rfl<|s_do (o_call (w_laws_eqAtomS _ _ _ er5) rfl (.refl _) rfl)<|s_q (.bool (!r_4)) rfl trivial rfl<|dk<|?_
  rcases oi hf with ⟨c6,hf⟩ | ⟨c6,hf⟩
  ·refine w_condt rfl c6<|sr<|s_mov (.bool false) rfl<|dk<|w_ret<|?_;obtain rfl:=os hf;exact r_flat ⟨trivial,trivial⟩ rfl (.refl _)
  ·refine w_condf rfl (bf c6)<|w_skip<|k_seq<|awp_seq<|sr<|?_
   obtain ⟨r_7,er8,hf⟩:=ob hf
   refine s_q (.ptr 0 0 2) rfl trivial rfl<|s_q (.lst 1 (a_1.Names.map AV.str)) rfl nle rfl<|s_q (.ptr 1 0 2) rfl trivial rfl<|s_q (.lst 1 (b_2.Names.map AV.str)) rfl nle rfl<|s_do (o_call (w_laws_eqStringS _ _ _ er8) rfl (.refl _) rfl)<|s_q (.bool (!r_7)) rfl trivial rfl<|dk<|?_
   rcases oi hf with ⟨c9,hf⟩ | ⟨c9,hf⟩
   ·refine w_condt rfl c9<|sr<|s_mov (.bool false) rfl<|dk<|w_ret<|?_;obtain rfl:=os hf;exact r_flat ⟨trivial,trivial⟩ rfl (.refl _)
   ·refine w_condf rfl (bf c9)<|w_skip<|k_seq<|sr<|s_mov (.bool true) rfl<|dk<|w_ret<|?_;obtain rfl:=os hf;exact r_flat ⟨trivial,trivial⟩ rfl (.refl _)

/- laws.eqSetS -/
def c32:ACode :=
 (.seq (.reg (tm 4 (.c (.bool false)) .done))
 (.seq (.seq (.reg (tm 6 (.t 0) (tq 7 (.len (.t 6)) (tm 8 (.t 1) (tq 9 (.len (.t 8)) (tq 10 (.bin .neq (.t 7) (.t 9)) .done))))))
 (.cond (.t 10) (.seq (.reg (tm 4 (.c (.bool false)) .done))
 .ret)
 .skip))
 (.seq (.seq (.reg (tm 5 (.c (.int .i64 0)) .done))
 (.block 0 (.loop (.seq (.seq (.reg (tm 11 (.t 5) (tm 12 (.t 0) (tq 13 (.len (.t 12)) (tq 14 (.bin .lss (.t 11) (.t 13)) .done)))))
 (.cond (.t 14) .skip
 (.exit 0)))
 (.seq (.block 1 (.seq (.reg (tm 17 (.t 0) (tm 18 (.t 5) (tq 19 (.iaddr 3 (.t 17) (.t 18)) (tq 20 (.load 3 true (.t 19)) (tm 21 (.t 1) (tm 22 (.t 5) (tq 23 (.iaddr 3 (.t 21) (.t 22)) (tq 24 (.load 3 true (.t 23)) (.l ⟨(some 25),none,.call 98 [(.t 20),(.t 24)]⟩ []
 (tq 26 (.not (.t 25)) .done) .non))))))))))
 (.cond (.t 26) (.seq (.reg (tm 4 (.c (.bool false)) .done))
 .ret)
 .skip)))
 (.reg (tm 15 (.t 5) (tq 16 (.bin .add (.t 15) (.c (.int .i64 1))) (tm 5 (.t 16) .done)))))))))
 (.cut (.seq (.reg (tm 4 (.c (.bool true)) .done))
 .ret)))))
theorem fc32:fcomp Tryz.prog Tryz.f32 = some (c32.erase,[.mov (.t 4)],27):=by kernel_rfl
def laws_eqSetS_L1 (b_2:(List GSet)):List GSet → Nat → Option (Fl Bool Unit)
  | [],i_25 =>
    some (.go ())
  | x_43 :: xs,i_25 =>
    (idx b_2 (i_25:Int)).bind fun x_46 =>
    (laws_eqSet x_43 x_46).bind fun r_48 =>
    if (!r_48) then
    some (.ret false)
    else
    laws_eqSetS_L1 b_2 xs (i_25 + 1)

def laws_eqSetS (a_1:(List GSet)) (b_2:(List GSet)):Option Bool :=
    if ((a_1.length:Int) != (b_2.length:Int)) then
    some false
    else
    (laws_eqSetS_L1 b_2 a_1 0).bind fun q => (match q with
    | .ret r => some r
    | .go _ =>
    some true)
theorem w_laws_eqSetS (a_1:(List GSet)) (b_2:(List GSet)) (r:Bool) (hf:laws_eqSetS a_1 b_2 = some r):CallOK Tryz.prog 32 .flat [(.lst 3 (a_1.map encGSet)),(.lst 3 (b_2.map encGSet))] (.bool r):=by
 refine CallOK.of_awp mixed Tryz.func32 fc32 nle ?_;rw [argT_eq];unfold laws_eqSetS at hf;unfold c32;refine (show awp Tryz.prog false 0 _ (ofL [(0,(.lst 3 (a_1.map encGSet))),(1,(.lst 3 (b_2.map encGSet)))]) [] _ from ?_);refine sr<|s_mov (.bool false) rfl<|dk<|awp_seq<|sr<|s_mov (.lst 3 (a_1.map encGSet)) rfl<|s_dof (o_len (enc:=encGSet) rfl) fun hl3 => s_mov (.lst 3 (b_2.map encGSet)) rfl<|s_dof (o_len (enc:=encGSet) rfl) fun hl4 => s_q (.bool ((a_1.length:Int) != (b_2.length:Int))) rfl rfl rfl<|dk<|?_
 rcases oi hf with ⟨c5,hf⟩ | ⟨c5,hf⟩
 ·refine w_condt rfl c5<|sr<|s_mov (.bool false) rfl<|dk<|w_ret<|?_;obtain rfl:=os hf;exact r_flat ⟨trivial,trivial⟩ rfl (.refl _)
 ·refine w_condf rfl (bf c5)<|w_skip<|k_seq<|awp_seq<|sr<|s_mov (.int .i64 0) rfl<|dk<|?_
  obtain ⟨p36,hb1,hf⟩:=ob hf
  refine awp_cutx (X:={q:Unit // p36 = .go q}) (fun q => ([],[])) ?_ ?_
  ·refine awp_loop (X:={q:Nat // laws_eqSetS_L1 b_2 (a_1.drop q) q = some p36}) (fun q => ([(0,(.lst 3 (a_1.map encGSet))),(1,(.lst 3 (b_2.map encGSet))),(5,(.int .i64 (q.1:Int)))],[])) (fun q => a_1.length - q.1) ⟨0,hb1⟩ ⟨[],[],_,_,rfl,rfl,⟨.refl _,⟨.refl _,⟨.refl _,trivial⟩⟩⟩,(.refl _)⟩ ?_
   rintro ⟨i_25,hc1⟩
   have hc1:laws_eqSetS_L1 b_2 (a_1.drop i_25) i_25 = some p36:=hc1
   refine (show awp Tryz.prog false 0 _ (ofL [(0,(.lst 3 (a_1.map encGSet))),(1,(.lst 3 (b_2.map encGSet))),(5,(.int .i64 (i_25:Int)))]) [] _ from ?_)
   rcases dropc a_1 i_25 with ⟨hie39,hd42⟩ | ⟨hlt37,x_43,hx38,hd42⟩
   ·rw [hd42,laws_eqSetS_L1.eq_1] at hc1
    have hq41:=dlf hie39
    refine awp_seq<|sr<|s_mov (.int .i64 (i_25:Int)) rfl<|s_mov (.lst 3 (a_1.map encGSet)) rfl<|s_dof (o_len (enc:=encGSet) rfl) fun hl44 => s_q (.bool (decide ((i_25:Int) < (a_1.length:Int)))) rfl rfl rfl<|dk<|w_condf rfl hq41<|w_exit<|k_seqx<|k_loopx<|k_blkx<|?_;obtain rfl:=os hc1;exact k_cutn ⟨_,rfl⟩ ⟨[],[],_,_,rfl,rfl,trivial,(.refl _)⟩
   ·rw [hd42,laws_eqSetS_L1.eq_2] at hc1
    have hq41:=dlt hlt37
    refine awp_seq<|sr<|s_mov (.int .i64 (i_25:Int)) rfl<|s_mov (.lst 3 (a_1.map encGSet)) rfl<|s_dof (o_len (enc:=encGSet) rfl) fun hl45 => s_q (.bool (decide ((i_25:Int) < (a_1.length:Int)))) rfl rfl rfl<|dk<|w_condt rfl hq41<|w_skip<|k_seq<|awp_seq<|w_blk<|sr<|?_
    obtain ⟨x_46,ex47,hc1⟩:=ob hc1
    obtain ⟨r_48,er49,hc1⟩:=ob hc1
    refine s_mov (.lst 3 (a_1.map encGSet)) rfl<|s_mov (.int .i64 (i_25:Int)) rfl<|s_do (o_iaddrn (enc:=encGSet) rfl rfl hx38)<|s_q (encGSet x_43) rfl nle rfl<|s_mov (.lst 3 (b_2.map encGSet)) rfl<|s_mov (.int .i64 (i_25:Int)) rfl<|s_do (o_iaddr (enc:=encGSet) rfl rfl (idx0 ex47) (idx1 ex47))<|s_q (encGSet x_46) rfl nle rfl<|s_dol (o_call (w_laws_eqSet _ _ _ er49) rfl (.refl _) rfl) a_same trivial<|s_q (.bool (!r_48)) rfl trivial rfl<|dk<|?_
    rcases oi hc1 with ⟨c50,hc1⟩ | ⟨c50,hc1⟩
    ·refine w_condt rfl c50<|sr<|s_mov (.bool false) rfl<|dk<|w_ret<|?_;obtain rfl:=os hc1;obtain rfl:=os hf;exact r_flat ⟨trivial,trivial⟩ rfl (.refl _)
    ·refine w_condf rfl (bf c50)<|w_skip<|k_blk<|k_seq<|w_reg<|s_mov (.int .i64 (i_25:Int)) rfl<|s_q (.int .i64 (w64 ((i_25:Int) + 1))) rfl rfl rfl<|s_mov (.int .i64 (w64 ((i_25:Int) + 1))) rfl<|w_done<|?_;exact k_loopn ⟨(i_25 + 1),hc1⟩ (mul hlt37) ⟨[],[],_,_,rfl,rfl,⟨.refl _,⟨.refl _,⟨.of_eq (congrArg (AV.int _) (w64_incr hlt37 hl45)),trivial⟩⟩⟩,(.refl _)⟩
  ·rintro ⟨_,rfl⟩
   refine sr<|s_mov (.bool true) rfl<|dk<|w_ret<|?_;obtain rfl:=os hf;exact r_flat ⟨trivial,trivial⟩ rfl (.refl _)

/- laws.eqMut -/
def c222:ACode :=
 (.seq (.reg (tq 2 (.box 3 (.t 0)) (tq 3 (.box 3 (.t 1)) (tm 4 (.c (.bool false)) .done))))
 (.seq (.seq (.reg (tq 5 (.faddr 0 (.t 2)) (tq 6 (.load 1 false (.t 5)) (tq 7 (.faddr 0 (.t 3)) (tq 8 (.load 1 false (.t 7)) (tq 9 (.bin .neq (.t 6) (.t 8)) .done))))))
 (.cond (.t 9) (.seq (.reg (tm 4 (.c (.bool false)) .done))
 .ret)
 .skip))
 (.seq (.seq (.reg (tq 10 (.faddr 1 (.t 2)) (tq 11 (.load 1 false (.t 10)) (tq 12 (.faddr 1 (.t 3)) (tq 13 (.load 1 false (.t 12)) (tq 14 (.bin .neq (.t 11) (.t 13)) .done))))))
 (.cond (.t 14) (.seq (.reg (tm 4 (.c (.bool false)) .done))
 .ret)
 .skip))
 (.seq (.seq (.reg (tq 15 (.faddr 2 (.t 2)) (tq 16 (.load 1 false (.t 15)) (tq 17 (.faddr 2 (.t 3)) (tq 18 (.load 1 false (.t 17)) (tq 19 (.call 177 [(.t 16),(.t 18)]) (tq 20 (.not (.t 19)) .done)))))))
 (.cond (.t 20) (.seq (.reg (tm 4 (.c (.bool false)) .done))
 .ret)
 .skip))
 (.seq (.reg (tm 4 (.c (.bool true)) .done))
 .ret)))))
theorem fc222:fcomp Tryz.prog Tryz.f222 = some (c222.erase,[.mov (.t 4)],21):=by kernel_rfl
def laws_eqMut (a_1:GMut) (b_2:GMut):Option Bool :=
    if (!(a_1.Column == b_2.Column)) then
    some false
    else
    if (a_1.Func != b_2.Func) then
    some false
    else
    (laws_eqAtomS a_1.Value b_2.Value).bind fun r_5 =>
    if (!r_5) then
    some false
    else
    some true
theorem w_laws_eqMut (a_1:GMut) (b_2:GMut) (r:Bool) (hf:laws_eqMut a_1 b_2 = some r):CallOK Tryz.prog 222 .flat [(encGMut a_1),(encGMut b_2)] (.bool r):=by
 refine CallOK.of_awp mixed Tryz.func222 fc222 nle ?_;rw [argT_eq];unfold laws_eqMut at hf;unfold c222;refine (show awp Tryz.prog false 0 _ (ofL [(0,(encGMut a_1)),(1,(encGMut b_2))]) [] _ from ?_);refine sr<|s_do (o_box (j:=0) (c:=(.agg [(.str a_1.Column),(.int .i64 a_1.Func),(.lst 3 (a_1.Value.map encGAtom))])) rfl trivial rfl rfl)<|s_do (o_box (j:=1) (c:=(.agg [(.str b_2.Column),(.int .i64 b_2.Func),(.lst 3 (b_2.Value.map encGAtom))])) rfl trivial rfl rfl)<|s_mov (.bool false) rfl<|dk<|awp_seq<|sr<|s_q (.ptr 0 0 0) rfl trivial rfl<|s_q (.str a_1.Column) rfl nle rfl<|s_q (.ptr 1 0 0) rfl trivial rfl<|s_q (.str b_2.Column) rfl nle rfl<|s_q (.bool (!(a_1.Column == b_2.Column))) rfl trivial rfl<|?_
 refine dk<|?_
 rcases oi hf with ⟨c3,hf⟩ | ⟨c3,hf⟩
 ·refine w_condt rfl c3<|sr<|s_mov (.bool false) rfl<|dk<|w_ret<|?_;obtain rfl:=os hf;exact r_flat ⟨trivial,trivial⟩ rfl (.refl _)
 ·refine w_condf rfl (bf c3)<|w_skip<|k_seq<|awp_seq<|sr<|s_q (.ptr 0 0 1) rfl trivial rfl<|s_q (.int .i64 a_1.Func) rfl nle rfl<|s_q (.ptr 1 0 1) rfl trivial rfl<|s_q (.int .i64 b_2.Func) rfl nle rfl<|s_q (.bool (a_1.Func != b_2.Func)) rfl rfl rfl<|dk<|?_
  rcases oi hf with ⟨c4,hf⟩ | ⟨c4,hf⟩
  ·refine w_condt rfl c4<|sr<|s_mov (.bool false) rfl<|dk<|w_ret<|?_;obtain rfl:=os hf;exact r_flat ⟨trivial,trivial⟩ rfl (.refl _)
  ·refine w_condf rfl (bf c4)<|w_skip<|k_seq<|awp_seq<|sr<|?_
   obtain ⟨r_5,er6,hf⟩:=ob hf
   refine s_q (.ptr 0 0 2) rfl trivial rfl<|s_q (.lst 3 (a_1.Value.map encGAtom)) rfl nle rfl<|s_q (.ptr 1 0 2) rfl trivial rfl<|s_q (.lst 3 (b_2.Value.map encGAtom)) rfl nle rfl<|s_do (o_call (w_laws_eqAtomS _ _ _ er6) rfl (.refl _) rfl)<|s_q (.bool (!r_5)) rfl trivial rfl<|dk<|?_
   rcases oi hf with ⟨c7,hf⟩ | ⟨c7,hf⟩
   ·refine w_condt rfl c7<|sr<|s_mov (.bool false) rfl<|dk<|w_ret<|?_;obtain rfl:=os hf;exact r_flat ⟨trivial,trivial⟩ rfl (.refl _)
   ·refine w_condf rfl (bf c7)<|w_skip<|k_seq<|sr<|s_mov (.bool true) rfl<|dk<|w_ret<|?_;obtain rfl:=os hf;exact r_flat ⟨trivial,trivial⟩ rfl (.refl _)

/- laws.eqMutS -/
def c159:ACode :=
 (.seq (.reg (tm 4 (.c (.bool false)) .done))
 (.seq (.seq (.reg (tm 6 (.t 0) (tq 7 (.len (.t 6)) (tm 8 (.t 1) (tq 9 (.len (.t 8)) (tq 10 (.bin .neq (.t 7) (.t 9)) .done))))))
 (.cond (.t 10) (.seq (.reg (tm 4 (.c (.bool false)) .done))
 .ret)
 .skip))
 (.seq (.seq (.reg (tm 5 (.c (.int .i64 0)) .done))
 (.block 0 (.loop (.seq (.seq (.reg (tm 11 (.t 5) (tm 12 (.t 0) (tq 13 (.len (.t 12)) (tq 14 (.bin .lss (.t 11) (.t 13)) .done)))))
 (.cond (.t 14) .skip
 (.exit 0)))
 (.seq (.block 1 (.seq (.reg (tm 17 (.t 0) (tm 18 (.t 5) (tq 19 (.iaddr 3 (.t 17) (.t 18)) (tq 20 (.load 3 true (.t 19)) (tm 21 (.t 1) (tm 22 (.t 5) (tq 23 (.iaddr 3 (.t 21) (.t 22)) (tq 24 (.load 3 true (.t 23)) (.l ⟨(some 25),none,.call 222 [(.t 20),(.t 24)]⟩ []
 (tq 26 (.not (.t 25)) .done) .non))))))))))
 (.cond (.t 26) (.seq (.reg (tm 4 (.c (.bool false)) .done))
 .ret)
 .skip)))
 (.reg (tm 15 (.t 5) (tq 16 (.bin .add (.t 15) (.c (.int .i64 1))) (tm 5 (.t 16) .done)))))))))
 (.cut (.seq (.reg (tm 4 (.c (.bool true)) .done))
 .ret)))))
theorem fc159:fcomp Tryz.prog Tryz.f159 = some (c159.erase,[.mov (.t 4)],27):=by kernel_rfl
def laws_eqMutS_L1 (b_2:(List GMut)):List GMut → Nat → Option (Fl Bool Unit)
  | [],i_25 =>
    some (.go ())
  | x_43 :: xs,i_25 =>
    (idx b_2 (i_25:Int)).bind fun x_46 =>
    (laws_eqMut x_43 x_46).bind fun r_48 =>
    if (!r_48) then
    some (.ret false)
    else
    laws_eqMutS_L1 b_2 xs (i_25 + 1)

def laws_eqMutS (a_1:(List GMut)) (b_2:(List GMut)):Option Bool :=
    if ((a_1.length:Int) != (b_2.length:Int)) then
    some false
    else
    (laws_eqMutS_L1 b_2 a_1 0).bind fun q => (match q with
    | .ret r => some r
    | .go _ =>
    some true)
theorem w_laws_eqMutS (a_1:(List GMut)) (b_2:(List GMut)) (r:Bool) (hf:laws_eqMutS a_1 b_2 = some r):CallOK Tryz.prog 159 .flat [(.lst 3 (a_1.map encGMut)),(.lst 3 (b_2.map encGMut))] (.bool r):=by
 refine CallOK.of_awp mixed Tryz.func159 fc159 nle ?_;rw [argT_eq];unfold laws_eqMutS at hf;unfold c159;refine (show awp Tryz.prog false 0 _ (ofL [(0,(.lst 3 (a_1.map encGMut))),(1,(.lst 3 (b_2.map encGMut)))]) [] _ from ?_);refine sr<|s_mov (.bool false) rfl<|dk<|awp_seq<|sr<|s_mov (.lst 3 (a_1.map encGMut)) rfl<|s_dof (o_len (enc:=encGMut) rfl) fun hl3 => s_mov (.lst 3 (b_2.map encGMut)) rfl<|s_dof (o_len (enc:=encGMut) rfl) fun hl4 => s_q (.bool ((a_1.length:Int) != (b_2.length:Int))) rfl rfl rfl<|dk<|?_
 rcases oi hf with ⟨c5,hf⟩ | ⟨c5,hf⟩
 ·refine w_condt rfl c5<|sr<|s_mov (.bool false) rfl<|dk<|w_ret<|?_;obtain rfl:=os hf;exact r_flat ⟨trivial,trivial⟩ rfl (.refl _)
 ·refine w_condf rfl (bf c5)<|w_skip<|k_seq<|awp_seq<|sr<|s_mov (.int .i64 0) rfl<|dk<|?_
  obtain ⟨p36,hb1,hf⟩:=ob hf
  refine awp_cutx (X:={q:Unit // p36 = .go q}) (fun q => ([],[])) ?_ ?_
  ·refine awp_loop (X:={q:Nat // laws_eqMutS_L1 b_2 (a_1.drop q) q = some p36}) (fun q => ([(0,(.lst 3 (a_1.map encGMut))),(1,(.lst 3 (b_2.map encGMut))),(5,(.int .i64 (q.1:Int)))],[])) (fun q => a_1.length - q.1) ⟨0,hb1⟩ ⟨[],[],_,_,rfl,rfl,⟨.refl _,⟨.refl _,⟨.refl _,trivial⟩⟩⟩,(.refl _)⟩ ?_
   rintro ⟨i_25,hc1⟩
   have hc1:laws_eqMutS_L1 b_2 (a_1.drop i_25) i_25 = some p36:=hc1
   refine (show awp Tryz.prog false 0 _ (ofL [(0,(.lst 3 (a_1.map encGMut))),(1,(.lst 3 (b_2.map encGMut))),(5,(.int .i64 (i_25:Int)))]) [] _ from ?_)
   rcases dropc a_1 i_25 with ⟨hie39,hd42⟩ | ⟨hlt37,x_43,hx38,hd42⟩
   ·rw [hd42,laws_eqMutS_L1.eq_1] at hc1
    have hq41:=dlf hie39
    refine awp_seq<|sr<|s_mov (.int .i64 (i_25:Int)) rfl<|s_mov (.lst 3 (a_1.map encGMut)) rfl<|s_dof (o_len (enc:=encGMut) rfl) fun hl44 => s_q (.bool (decide ((i_25:Int) < (a_1.length:Int)))) rfl rfl rfl<|dk<|w_condf rfl hq41<|w_exit<|k_seqx<|k_loopx<|k_blkx<|?_;obtain rfl:=os hc1;exact k_cutn ⟨_,rfl⟩ ⟨[],[],_,_,rfl,rfl,trivial,(.refl _)⟩
   ·rw [hd42,laws_eqMutS_L1.eq_2] at hc1
    have hq41:=dlt hlt37
    refine awp_seq<|sr<|s_mov (.int .i64 (i_25:Int)) rfl<|s_mov (.lst 3 (a_1.map encGMut)) rfl<|s_dof (o_len (enc:=encGMut) rfl) fun hl45 => s_q (.bool (decide ((i_25:Int) < (a_1.length:Int)))) rfl rfl rfl<|dk<|w_condt rfl hq41<|w_skip<|k_seq<|awp_seq<|w_blk<|sr<|?_
    obtain ⟨x_46,ex47,hc1⟩:=ob hc1
    obtain ⟨r_48,er49,hc1⟩:=ob hc1
    refine s_mov (.lst 3 (a_1.map encGMut)) rfl<|s_mov (.int .i64 (i_25:Int)) rfl<|s_do (o_iaddrn (enc:=encGMut) rfl rfl hx38)<|s_q (encGMut x_43) rfl nle rfl<|s_mov (.lst 3 (b_2.map encGMut)) rfl<|s_mov (.int .i64 (i_25:Int)) rfl<|s_do (o_iaddr (enc:=encGMut) rfl rfl (idx0 ex47) (idx1 ex47))<|s_q (encGMut x_46) rfl nle rfl<|s_dol (o_call (w_laws_eqMut _ _ _ er49) rfl (.refl _) rfl) a_same trivial<|s_q (.bool (!r_48)) rfl trivial rfl<|dk<|?_
    rcases oi hc1 with ⟨c50,hc1⟩ | ⟨c50,hc1⟩
    ·refine w_condt rfl c50<|sr<|s_mov (.bool false) rfl<|dk<|w_ret<|?_;obtain rfl:=os hc1;obtain rfl:=os hf;exact r_flat ⟨trivial,trivial⟩ rfl (.refl _)
    ·refine w_condf rfl (bf c50)<|w_skip<|k_blk<|k_seq<|w_reg<|s_mov (.int .i64 (i_25:Int)) rfl<|s_q (.int .i64 (w64 ((i_25:Int) + 1))) rfl rfl rfl<|s_mov (.int .i64 (w64 ((i_25:Int) + 1))) rfl<|w_done<|?_;exact k_loopn ⟨(i_25 + 1),hc1⟩ (mul hlt37) ⟨[],[],_,_,rfl,rfl,⟨.refl _,⟨.refl _,⟨.of_eq (congrArg (AV.int _) (w64_incr hlt37 hl45)),trivial⟩⟩⟩,(.refl _)⟩
  ·rintro ⟨_,rfl⟩
   refine sr<|s_mov (.bool true) rfl<|dk<|w_ret<|?_;obtain rfl:=os hf;exact r_flat ⟨trivial,trivial⟩ rfl (.refl _)

/- laws.eqOp -/
def c73:ACode :=
 (.seq (.reg (tq 2 (.box 8 (.t 0)) (tq 3 (.box 8 (.t 1)) (tm 4 (.c (.bool false)) .done))))
 (.seq (.seq (.reg (tq 5 (.faddr 0 (.t 2)) (tq 6 (.load 1 false (.t 5)) (tq 7 (.faddr 0 (.t 3)) (tq 8 (.load 1 false (.t 7)) (tq 9 (.bin .neq (.t 6) (.t 8)) .done))))))
 (.cond (.t 9) (.seq (.reg (tm 4 (.c (.bool false)) .done))
 .ret)
 .skip))
 (.seq (.seq (.reg (tq 10 (.faddr 1 (.t 2)) (tq 11 (.load 1 false (.t 10)) (tq 12 (.faddr 1 (.t 3)) (tq 13 (.load 1 false (.t 12)) (tq 14 (.bin .neq (.t 11) (.t 13)) .done))))))
 (.cond (.t 14) (.seq (.reg (tm 4 (.c (.bool false)) .done))
 .ret)
 .skip))
 (.seq (.seq (.reg (tq 15 (.faddr 2 (.t 2)) (tq 16 (.load 1 false (.t 15)) (tq 17 (.faddr 2 (.t 3)) (tq 18 (.load 1 false (.t 17)) (tq 19 (.bin .neq (.t 16) (.t 18)) .done))))))
 (.cond (.t 19) (.seq (.reg (tm 4 (.c (.bool false)) .done))
 .ret)
 .skip))
 (.seq (.seq (.reg (tq 20 (.faddr 3 (.t 2)) (tq 21 (.load 1 false (.t 20)) (tq 22 (.faddr 3 (.t 3)) (tq 23 (.load 1 false (.t 22)) (tq 24 (.call 158 [(.t 21),(.t 23)]) (tq 25 (.not (.t 24)) .done)))))))
 (.cond (.t 25) (.seq (.reg (tm 4 (.c (.bool false)) .done))
 .ret)
 .skip))
 (.seq (.seq (.reg (tq 26 (.faddr 4 (.t 2)) (tq 27 (.load 1 false (.t 26)) (tq 28 (.faddr 4 (.t 3)) (tq 29 (.load 1 false (.t 28)) (tq 30 (.call 32 [(.t 27),(.t 29)]) (tq 31 (.not (.t 30)) .done)))))))
 (.cond (.t 31) (.seq (.reg (tm 4 (.c (.bool false)) .done))
 .ret)
 .skip))
 (.seq (.seq (.reg (tq 32 (.faddr 5 (.t 2)) (tq 33 (.load 1 false (.t 32)) (tq 34 (.faddr 5 (.t 3)) (tq 35 (.load 1 false (.t 34)) (tq 36 (.call 159 [(.t 33),(.t 35)]) (tq 37 (.not (.t 36)) .done)))))))
 (.cond (.t 37) (.seq (.reg (tm 4 (.c (.bool false)) .done))
 .ret)
 .skip))
 (.seq (.seq (.reg (tq 38 (.faddr 6 (.t 2)) (tq 39 (.load 1 false (.t 38)) (tq 40 (.faddr 6 (.t 3)) (tq 41 (.load 1 false (.t 40)) (tq 42 (.call 160 [(.t 39),(.t 41)]) (tq 43 (.not (.t 42)) .done)))))))
 (.cond (.t 43) (.seq (.reg (tm 4 (.c (.bool false)) .done))
 .ret)
 .skip))
 (.seq (.seq (.reg (tq 44 (.faddr 7 (.t 2)) (tq 45 (.load 1 false (.t 44)) (tq 46 (.faddr 7 (.t 3)) (tq 47 (.load 1 false (.t 46)) (tq 48 (.eqB true (.t 45) (.t 47)) .done))))))
 (.cond (.t 48) (.seq (.reg (tm 4 (.c (.bool false)) .done))
 .ret)
 .skip))
 (.seq (.reg (tm 4 (.c (.bool true)) .done))
 .ret))))))))))
theorem fc73:fcomp Tryz.prog Tryz.f73 = some (c73.erase,[.mov (.t 4)],49):=by kernel_rfl
def laws_eqOp (a_1:GOp) (b_2:GOp):Option Bool :=
    if (a_1.Kind != b_2.Kind) then
    some false
    else
    if (!(a_1.Table == b_2.Table)) then
    some false
    else
    if (!(a_1.Name == b_2.Name)) then
    some false
    else
    (laws_eqCondS a_1.Where b_2.Where).bind fun r_6 =>
    if (!r_6) then
    some false
    else
    (laws_eqSetS a_1.Row b_2.Row).bind fun r_9 =>
    if (!r_9) then
    some false
    else
    (laws_eqMutS a_1.Muts b_2.Muts).bind fun r_12 =>
    if (!r_12) then
    some false
    else
    (laws_eqStringS a_1.Columns b_2.Columns).bind fun r_15 =>
    if (!r_15) then
    some false
    else
    if (!(a_1.Until == b_2.Until)) then
    some false
    else
    some true
theorem w_laws_eqOp (a_1:GOp) (b_2:GOp) (r:Bool) (hf:laws_eqOp a_1 b_2 = some r):CallOK Tryz.prog 73 .flat [(encGOp a_1),(encGOp b_2)] (.bool r):=by
 refine CallOK.of_awp mixed Tryz.func73 fc73 nle ?_;rw [argT_eq];unfold laws_eqOp at hf;unfold c73;refine (show awp Tryz.prog false 0 _ (ofL [(0,(encGOp a_1)),(1,(encGOp b_2))]) [] _ from ?_);refine sr<|s_do (o_box (j:=0) (c:=(.agg [(.int .i64 a_1.Kind),(.str a_1.Table),(.str a_1.Name),(.lst 3 (a_1.Where.map encGCond)),(.lst 3 (a_1.Row.map encGSet)),(.lst 3 (a_1.Muts.map encGMut)),(.lst 1 (a_1.Columns.map AV.str)),(.bool a_1.Until)])) rfl trivial rfl rfl)<|s_do (o_box (j:=1) (c:=(.agg [(.int .i64 b_2.Kind),(.str b_2.Table),(.str b_2.Name),(.lst 3 (b_2.Where.map encGCond)),(.lst 3 (b_2.Row.map encGSet)),(.lst 3 (b_2.Muts.map encGMut)),(.lst 1 (b_2.Columns.map AV.str)),(.bool b_2.Until)])) rfl trivial rfl rfl)<|?_
 refine s_mov (.bool false) rfl<|dk<|awp_seq<|sr<|s_q (.ptr 0 0 0) rfl trivial rfl<|s_q (.int .i64 a_1.Kind) rfl nle rfl<|s_q (.ptr 1 0 0) rfl trivial rfl<|s_q (.int .i64 b_2.Kind) rfl nle rfl<|s_q (.bool (a_1.Kind != b_2.Kind)) rfl rfl rfl<|dk<|?_
 rcases oi hf with ⟨c3,hf⟩ | ⟨c3,hf⟩
 ·refine w_condt rfl c3<|sr<|s_mov (.bool false) rfl<|dk<|w_ret<|?_;obtain rfl:=os hf;exact r_flat ⟨trivial,trivial⟩ rfl (.refl _)
 ·refine w_condf rfl (bf c3)<|w_skip<|k_seq<|awp_seq<|sr<|s_q (.ptr 0 0 1) rfl trivial rfl<|s_q (.str a_1.Table) rfl nle rfl<|s_q (.ptr 1 0 1) rfl trivial rfl<|s_q (.str b_2.Table) rfl nle rfl<|s_q (.bool (!(a_1.Table == b_2.Table))) rfl trivial rfl<|dk<|?_
  rcases oi hf with ⟨c4,hf⟩ | ⟨c4,hf⟩
  ·refine w_condt rfl c4<|sr<|s_mov (.bool false) rfl<|dk<|w_ret<|?_;obtain rfl:=os hf;exact r_flat ⟨trivial,trivial⟩ rfl (.refl _)
  ·refine w_condf rfl (bf c4)<|w_skip<|k_seq<|awp_seq<|sr<|s_q (.ptr 0 0 2) rfl trivial rfl<|s_q (.str a_1.Name) rfl nle rfl<|s_q (.ptr 1 0 2) rfl trivial rfl<|s_q (.str b_2.Name) rfl nle rfl<|s_q (.bool (!(a_1.Name == b_2.Name))) rfl trivial rfl<|dk<|?_
   rcases oi hf with ⟨c5,hf⟩ | ⟨c5,hf⟩
   ·refine w_condt rfl c5<|sr<|s_mov (.bool false) rfl<|dk<|w_ret<|?_;obtain rfl:=os hf;exact r_flat ⟨trivial,trivial⟩ rfl (.refl _)
   ·refine w_condf rfl (bf c5)<|w_skip<|k_seq<|awp_seq<|sr<|?_
    obtain ⟨r_6,er7,hf⟩:=ob hf
    refine s_q (.ptr 0 0 3) rfl trivial rfl<|s_q (.lst 3 (a_1.Where.map encGCond)) rfl nle rfl<|s_q (.ptr 1 0 3) rfl trivial rfl<|s_q (.lst 3 (b_2.Where.map encGCond)) rfl nle rfl<|s_do (o_call (w_laws_eqCondS _ _ _ er7) rfl (.refl _) rfl)<|s_q (.bool (!r_6)) rfl trivial rfl<|dk<|?_
    rcases oi hf with ⟨c8,hf⟩ | ⟨c8,hf⟩
    ·refine w_condt rfl c8<|sr<|s_mov (.bool false) rfl<|dk<|w_ret<|?_;obtain rfl:=os hf;exact r_flat ⟨trivial,trivial⟩ rfl (.refl _)
    ·refine w_condf rfl (bf c8)<|w_skip<|k_seq<|awp_seq<|sr<|?_
     obtain ⟨r_9,er10,hf⟩:=ob hf
     refine s_q (.ptr 0 0 4) rfl trivial rfl<|s_q (.lst 3 (a_1.Row.map encGSet)) rfl nle rfl<|s_q (.ptr 1 0 4) rfl trivial rfl<|s_q (.lst 3 (b_2.Row.map encGSet)) rfl nle rfl<|s_do (o_call (w_laws_eqSetS _ _ _ er10) rfl (.refl _) rfl)<|s_q (.bool (!r_9)) rfl trivial rfl<|dk<|?_
     rcases oi hf with ⟨c11,hf⟩ | ⟨c11,hf⟩
     ·refine w_condt rfl c11<|sr<|s_mov (.bool false) rfl<|dk<|w_ret<|?_;obtain rfl:=os hf;exact r_flat ⟨trivial,trivial⟩ rfl (.refl _)
     ·refine w_condf rfl (bf c11)<|w_skip<|k_seq<|awp_seq<|sr<|?_
      obtain ⟨r_12,er13,hf⟩:=ob hf
      refine s_q (.ptr 0 0 5) rfl trivial rfl<|s_q (.lst 3 (a_1.Muts.map encGMut)) rfl nle rfl<|s_q (.ptr 1 0 5) rfl trivial rfl<|s_q (.lst 3 (b_2.Muts.map encGMut)) rfl nle rfl<|s_do (o_call (w_laws_eqMutS _ _ _ er13) rfl (.refl _) rfl)<|s_q (.bool (!r_12)) rfl trivial rfl<|dk<|?_
      rcases oi hf with ⟨c14,hf⟩ | ⟨c14,hf⟩
      ·refine w_condt rfl c14<|sr<|s_mov (.bool false) rfl<|dk<|w_ret<|?_;obtain rfl:=os hf;exact r_flat ⟨trivial,trivial⟩ rfl (.refl _)
      ·refine w_condf rfl (bf c14)<|w_skip<|k_seq<|awp_seq<|sr<|?_
       obtain ⟨r_15,er16,hf⟩:=ob hf
       refine s_q (.ptr 0 0 6) rfl trivial rfl<|s_q (.lst 1 (a_1.Columns.map AV.str)) rfl nle rfl<|s_q (.ptr 1 0 6) rfl trivial rfl<|s_q (.lst 1 (b_2.Columns.map AV.str)) rfl nle rfl<|s_do (o_call (w_laws_eqStringS _ _ _ er16) rfl (.refl _) rfl)<|s_q (.bool (!r_15)) rfl trivial rfl<|dk<|?_
       rcases oi hf with ⟨c17,hf⟩ | ⟨c17,hf⟩
       ·refine w_condt rfl c17<|sr<|s_mov (.bool false) rfl<|dk<|w_ret<|?_;obtain rfl:=os hf;exact r_flat ⟨trivial,trivial⟩ rfl (.refl _)
       ·refine w_condf rfl (bf c17)<|w_skip<|k_seq<|awp_seq<|sr<|s_q (.ptr 0 0 7) rfl trivial rfl<|s_q (.bool a_1.Until) rfl nle rfl<|s_q (.ptr 1 0 7) rfl trivial rfl<|s_q (.bool b_2.Until) rfl nle rfl<|s_q (.bool (!(a_1.Until == b_2.Until))) rfl trivial rfl<|dk<|?_
        rcases oi hf with ⟨c18,hf⟩ | ⟨c18,hf⟩
        ·refine w_condt rfl c18<|sr<|s_mov (.bool false) rfl<|dk<|w_ret<|?_;obtain rfl:=os hf;exact r_flat ⟨trivial,trivial⟩ rfl (.refl _)
        ·refine w_condf rfl (bf c18)<|w_skip<|k_seq<|sr<|s_mov (.bool true) rfl<|dk<|w_ret<|?_;obtain rfl:=os hf;exact r_flat ⟨trivial,trivial⟩ rfl (.refl _)

/- laws.eqOpS -/
def c18:ACode :=
 (.seq (.reg (tm 4 (.c (.bool false)) .done))
 (.seq (.seq (.reg (tm 6 (.t 0) (tq 7 (.len (.t 6)) (tm 8 (.t 1) (tq 9 (.len (.t 8)) (tq 10 (.bin .neq (.t 7) (.t 9)) .done))))))
 (.cond (.t 10) (.seq (.reg (tm 4 (.c (.bool false)) .done))
 .ret)
 .skip))
 (.seq (.seq (.reg (tm 5 (.c (.int .i64 0)) .done))
 (.block 0 (.loop (.seq (.seq (.reg (tm 11 (.t 5) (tm 12 (.t 0) (tq 13 (.len (.t 12)) (tq 14 (.bin .lss (.t 11) (.t 13)) .done)))))
 (.cond (.t 14) .skip
 (.exit 0)))
 (.seq (.block 1 (.seq (.reg (tm 17 (.t 0) (tm 18 (.t 5) (tq 19 (.iaddr 8 (.t 17) (.t 18)) (tq 20 (.load 8 true (.t 19)) (tm 21 (.t 1) (tm 22 (.t 5) (tq 23 (.iaddr 8 (.t 21) (.t 22)) (tq 24 (.load 8 true (.t 23)) (.l ⟨(some 25),none,.call 73 [(.t 20),(.t 24)]⟩ []
 (tq 26 (.not (.t 25)) .done) .non))))))))))
 (.cond (.t 26) (.seq (.reg (tm 4 (.c (.bool false)) .done))
 .ret)
 .skip)))
 (.reg (tm 15 (.t 5) (tq 16 (.bin .add (.t 15) (.c (.int .i64 1))) (tm 5 (.t 16) .done)))))))))
 (.cut (.seq (.reg (tm 4 (.c (.bool true)) .done))
 .ret)))))
theorem fc18:fcomp Tryz.prog Tryz.f18 = some (c18.erase,[.mov (.t 4)],27):=by kernel_rfl
def laws_eqOpS_L1 (b_2:(List GOp)):List GOp → Nat → Option (Fl Bool Unit)
  | [],i_25 =>
    some (.go ())
  | x_43 :: xs,i_25 =>
    (idx b_2 (i_25:Int)).bind fun x_46 =>
    (laws_eqOp x_43 x_46).bind fun r_48 =>
    if (!r_48) then
    some (.ret false)
    else
    laws_eqOpS_L1 b_2 xs (i_25 + 1)

def laws_eqOpS (a_1:(List GOp)) (b_2:(List GOp)):Option Bool :=
    if ((a_1.length:Int) != (b_2.length:Int)) then
    some false
    else
    (laws_eqOpS_L1 b_2 a_1 0).bind fun q => (match q with
    | .ret r => some r
    | .go _ =>
    some true)
theorem w_laws_eqOpS (a_1:(List GOp)) (b_2:(List GOp)) (r:Bool) (hf:laws_eqOpS a_1 b_2 = some r):CallOK Tryz.prog 18 .flat [(.lst 8 (a_1.map encGOp)),(.lst 8 (b_2.map encGOp))] (.bool r):=by
 refine CallOK.of_awp mixed Tryz.func18 fc18 nle ?_;rw [argT_eq];unfold laws_eqOpS at hf;unfold c18;refine (show awp Tryz.prog false 0 _ (ofL [(0,(.lst 8 (a_1.map encGOp))),(1,(.lst 8 (b_2.map encGOp)))]) [] _ from ?_);refine sr<|s_mov (.bool false) rfl<|dk<|awp_seq<|sr<|s_mov (.lst 8 (a_1.map encGOp)) rfl<|s_dof (o_len (enc:=encGOp) rfl) fun hl3 => s_mov (.lst 8 (b_2.map encGOp)) rfl<|s_dof (o_len (enc:=encGOp) rfl) fun hl4 => s_q (.bool ((a_1.length:Int) != (b_2.length:Int))) rfl rfl rfl<|dk<|?_
 rcases oi hf with ⟨c5,hf⟩ | ⟨c5,hf⟩
 ·refine w_condt rfl c5<|sr<|s_mov (.bool false) rfl<|dk<|w_ret<|?_;obtain rfl:=os hf;exact r_flat ⟨trivial,trivial⟩ rfl (.refl _)
 ·refine w_condf rfl (bf c5)<|w_skip<|k_seq<|awp_seq<|sr<|s_mov (.int .i64 0) rfl<|dk<|?_
  obtain ⟨p36,hb1,hf⟩:=ob hf
  refine awp_cutx (X:={q:Unit // p36 = .go q}) (fun q => ([],[])) ?_ ?_
  ·refine awp_loop (X:={q:Nat // laws_eqOpS_L1 b_2 (a_1.drop q) q = some p36}) (fun q => ([(0,(.lst 8 (a_1.map encGOp))),(1,(.lst 8 (b_2.map encGOp))),(5,(.int .i64 (q.1:Int)))],[])) (fun q => a_1.length - q.1) ⟨0,hb1⟩ ⟨[],[],_,_,rfl,rfl,⟨.refl _,⟨.refl _,⟨.refl _,trivial⟩⟩⟩,(.refl _)⟩ ?_
   rintro ⟨i_25,hc1⟩
   have hc1:laws_eqOpS_L1 b_2 (a_1.drop i_25) i_25 = some p36:=hc1
   refine (show awp Tryz.prog false 0 _ (ofL [(0,(.lst 8 (a_1.map encGOp))),(1,(.lst 8 (b_2.map encGOp))),(5,(.int .i64 (i_25:Int)))]) [] _ from ?_)
   rcases dropc a_1 i_25 with ⟨hie39,hd42⟩ | ⟨hlt37,x_43,hx38,hd42⟩
   ·rw [hd42,laws_eqOpS_L1.eq_1] at hc1
    have hq41:=dlf hie39
    refine awp_seq<|sr<|s_mov (.int .i64 (i_25:Int)) rfl<|s_mov (.lst 8 (a_1.map encGOp)) rfl<|s_dof (o_len (enc:=encGOp) rfl) fun hl44 => s_q (.bool (decide ((i_25:Int) < (a_1.length:Int)))) rfl rfl rfl<|dk<|w_condf rfl hq41<|w_exit<|k_seqx<|k_loopx<|k_blkx<|?_;obtain rfl:=os hc1;exact k_cutn ⟨_,rfl⟩ ⟨[],[],_,_,rfl,rfl,trivial,(.refl _)⟩
   ·rw [hd42,laws_eqOpS_L1.eq_2] at hc1
    have hq41:=dlt hlt37
    refine awp_seq<|sr<|s_mov (.int .i64 (i_25:Int)) rfl<|s_mov (.lst 8 (a_1.map encGOp)) rfl<|s_dof (o_len (enc:=encGOp) rfl) fun hl45 => s_q (.bool (decide ((i_25:Int) < (a_1.length:Int)))) rfl rfl rfl<|dk<|w_condt rfl hq41<|w_skip<|k_seq<|awp_seq<|w_blk<|sr<|?_
    obtain ⟨x_46,ex47,hc1⟩:=ob hc1
    obtain ⟨r_48,er49,hc1⟩:=ob hc1
    refine s_mov (.lst 8 (a_1.map encGOp)) rfl<|s_mov (.int .i64 (i_25:Int)) rfl<|s_do (o_iaddrn (enc:=encGOp) rfl rfl hx38)<|s_q (encGOp x_43) rfl nle rfl<|s_mov (.lst 8 (b_2.map encGOp)) rfl<|s_mov (.int .i64 (i_25:Int)) rfl<|s_do (o_iaddr (enc:=encGOp) rfl rfl (idx0 ex47) (idx1 ex47))<|s_q (encGOp x_46) rfl nle rfl<|s_dol (o_call (w_laws_eqOp _ _ _ er49) rfl (.refl _) rfl) a_same trivial<|s_q (.bool (!r_48)) rfl trivial rfl<|dk<|?_
    rcases oi hc1 with ⟨c50,hc1⟩ | ⟨c50,hc1⟩
    ·refine w_condt rfl c50<|sr<|s_mov (.bool false) rfl<|dk<|w_ret<|?_;obtain rfl:=os hc1;obtain rfl:=os hf;exact r_flat ⟨trivial,trivial⟩ rfl (.refl _)
    ·refine w_condf rfl (bf c50)<|w_skip<|k_blk<|k_seq<|w_reg<|s_mov (.int .i64 (i_25:Int)) rfl<|s_q (.int .i64 (w64 ((i_25:Int) + 1))) rfl rfl rfl<|s_mov (.int .i64 (w64 ((i_25:Int) + 1))) rfl<|w_done<|?_;exact k_loopn ⟨(i_25 + 1),hc1⟩ (mul hlt37) ⟨[],[],_,_,rfl,rfl,⟨.refl _,⟨.refl _,⟨.of_eq (congrArg (AV.int _) (w64_incr hlt37 hl45)),trivial⟩⟩⟩,(.refl _)⟩
  ·rintro ⟨_,rfl⟩
   refine sr<|s_mov (.bool true) rfl<|dk<|w_ret<|?_;obtain rfl:=os hf;exact r_flat ⟨trivial,trivial⟩ rfl (.refl _)

/- laws.markText -/
def c74:ACode :=
 (.seq (.reg (tm 2 (.c (.str [])) .done))
 (.seq (.seq (.reg (tm 4 (.t 0) (tq 5 (.bin .leq (.t 4) (.c (.int .i64 0))) .done)))
 (.cond (.t 5) (.seq (.reg (tm 2 (.c (.str [109,48])) .done))
 .ret)
 .skip))
 (.seq (.reg (tm 3 (.c (.str [])) .done))
 (.seq (.block 0 (.loop (.seq (.seq (.reg (tm 6 (.t 0) (tq 7 (.bin .gtr (.t 6) (.c (.int .i64 0))) .done)))
 (.cond (.t 7) .skip
 (.exit 0)))
 (.block 1 (.seq (.reg (tm 8 (.t 0) (tq 9 (.bin .rem (.t 8) (.c (.int .i64 10))) (tq 10 (.bin .add (.c (.int .i64 48)) (.t 9)) (tq 11 (.convI .u8 (.t 10)) (tq 12 (.bslice 1 [(.t 11)]) (tq 13 (.convBS (.t 12)) (tm 14 (.t 3) (tq 15 (.bin .add (.t 13) (.t 14)) (tm 3 (.t 15) .done))))))))))
 (.reg (tm 16 (.t 0) (tq 17 (.bin .quo (.t 16) (.c (.int .i64 10))) (tm 0 (.t 17) .done)))))))))
 (.cut (.seq (.reg (tm 18 (.t 3) (tq 19 (.bin .add (.c (.str [109])) (.t 18)) (tm 2 (.t 19) .done))))
 .ret))))))
theorem fc74:fcomp Tryz.prog Tryz.f74 = some (c74.erase,[.mov (.t 2)],20):=by kernel_rfl
def laws_markText_L1 :Nat → Int → Str → Option Str
  | 0,_,_ => none
  | k + 1,k_9,out_10 =>
    if (decide (k_9 > 0)) then
    if (bstr [IntKind.u8.wrap (w64 (48 + (k_9.tmod 10)))]).length + out_10.length ≤ maxLen then
    laws_markText_L1 k (w64 (k_9.tdiv 10)) ((bstr [IntKind.u8.wrap (w64 (48 + (k_9.tmod 10)))]) ++ out_10)
    else none
    else
    some out_10

def laws_markText (k_1:Int):Option Str :=
    if (decide (k_1 ≤ 0)) then
    some [109,48]
    else
    (laws_markText_L1 FUEL k_1 []).bind fun out_13 =>
    if [109].length + out_13.length ≤ maxLen then
    some ([109] ++ out_13)
    else none
theorem w_laws_markText (k_1:Int) (r:Str) (hf:laws_markText k_1 = some r):CallOK Tryz.prog 74 .flat [(.int .i64 k_1)] (.str r):=by
 refine CallOK.of_awp mixed Tryz.func74 fc74 nle ?_;rw [argT_eq];unfold laws_markText at hf;unfold c74;refine (show awp Tryz.prog false 0 _ (ofL [(0,(.int .i64 k_1))]) [] _ from ?_);refine sr<|s_mov (.str []) rfl<|dk<|awp_seq<|sr<|s_mov (.int .i64 k_1) rfl<|s_q (.bool (decide (k_1 ≤ 0))) rfl rfl rfl<|dk<|?_
 rcases oi hf with ⟨c2,hf⟩ | ⟨c2,hf⟩
 ·refine w_condt rfl c2<|sr<|s_mov (.str [109,48]) rfl<|dk<|w_ret<|?_;obtain rfl:=os hf;exact r_flat ⟨trivial,trivial⟩ rfl (.refl _)
 ·refine w_condf rfl (bf c2)<|w_skip<|k_seq<|sr<|s_mov (.str []) rfl<|dk<|awp_seq<|?_
  obtain ⟨out_13,hb1,hf⟩:=ob hf
  refine awp_cut ([(3,(.str out_13))],[]) ?_ ?_
  ·refine awp_loop (X:={q:(Nat × Int × Str) // laws_markText_L1 q.1 q.2.1 q.2.2 = some out_13}) (fun q => ([(0,(.int .i64 q.1.2.1)),(3,(.str q.1.2.2))],[])) (fun q => q.1.1) ⟨(FUEL,k_1,[]),hb1⟩ ⟨[],[],_,_,rfl,rfl,⟨.refl _,⟨.refl _,trivial⟩⟩,(.refl _)⟩ ?_
   rintro ⟨⟨k,k_9,out_10⟩,hc1⟩
   have hc1:laws_markText_L1 k k_9 out_10 = some out_13:=hc1
   refine (show awp Tryz.prog false 0 _ (ofL [(0,(.int .i64 k_9)),(3,(.str out_10))]) [] _ from ?_)
   rcases k with _ | k
   ·rw [laws_markText_L1.eq_1] at hc1
    cases hc1
   ·rw [laws_markText_L1.eq_2] at hc1;refine awp_seq<|sr<|s_mov (.int .i64 k_9) rfl<|s_q (.bool (decide (k_9 > 0))) rfl rfl rfl<|dk<|?_
    rcases oi hc1 with ⟨c15,hc1⟩ | ⟨c15,hc1⟩
    ·refine w_condt rfl c15<|w_skip<|k_seq<|w_blk<|sr<|?_
     obtain ⟨g16,hc1⟩:=og hc1
     refine s_mov (.int .i64 k_9) rfl<|s_q (.int .i64 (k_9.tmod 10)) rfl ⟨rfl,by decide⟩ rfl<|s_q (.int .i64 (w64 (48 + (k_9.tmod 10)))) rfl rfl rfl<|s_q (.int .u8 (IntKind.u8.wrap (w64 (48 + (k_9.tmod 10))))) rfl trivial rfl<|?_;refine s_do (o_bslice (j:=0) (as':=[(.int .u8 (IntKind.u8.wrap (w64 (48 + (k_9.tmod 10)))))]) rfl (fun _ => by decide) ⟨rfl,trivial⟩ (.refl _) rfl rfl rfl) ?_;refine s_do (o_convbso (l:=[IntKind.u8.wrap (w64 (48 + (k_9.tmod 10)))]) rfl rfl (by simp))<|s_mov (.str out_10) rfl<|s_q (.str ((bstr [IntKind.u8.wrap (w64 (48 + (k_9.tmod 10)))]) ++ out_10)) rfl g16 rfl<|s_mov (.str ((bstr [IntKind.u8.wrap (w64 (48 + (k_9.tmod 10)))]) ++ out_10)) rfl<|dk<|w_reg<|s_mov (.int .i64 k_9) rfl<|?_
     refine s_q (.int .i64 (w64 (k_9.tdiv 10))) rfl ⟨rfl,by decide⟩ rfl<|s_mov (.int .i64 (w64 (k_9.tdiv 10))) rfl<|w_done<|k_blk<|?_;exact k_loopn ⟨(k,w64 (k_9.tdiv 10),(bstr [IntKind.u8.wrap (w64 (48 + (k_9.tmod 10)))]) ++ out_10),hc1⟩ (Nat.lt_succ_self _) ⟨[],[],_,_,rfl,rfl,⟨.refl _,⟨.refl _,trivial⟩⟩,(.refl _)⟩
    ·refine w_condf rfl (bf c15)<|w_exit<|k_seqx<|k_loopx<|k_blkx<|?_;obtain rfl:=os hc1;exact ⟨[],[],_,_,rfl,rfl,⟨.refl _,trivial⟩,(.refl _)⟩
  ·refine sr<|?_
   obtain ⟨g17,hf⟩:=og hf
   refine s_mov (.str out_13) rfl<|s_q (.str ([109] ++ out_13)) rfl g17 rfl<|s_mov (.str ([109] ++ out_13)) rfl<|dk<|w_ret<|?_;obtain rfl:=os hf;exact r_flat ⟨trivial,trivial⟩ rfl (.refl _)

/- laws.markAtomS -/
def c101_h0:ACode :=
 (.seq (.reg (tm 4 (.c (.int .i64 0)) .done))
 (.seq (.seq (.reg (tm 5 (.c (.int .i64 0)) .done))
 (.block 0 (.loop (.seq (.seq (.reg (tm 6 (.t 5) (tm 7 (.t 0) (tq 8 (.len (.t 7)) (tq 9 (.bin .lss (.t 6) (.t 8)) .done)))))
 (.cond (.t 9) .skip
 (.exit 0)))
 (.seq (.block 1 (.seq (.reg (tm 12 (.t 0) (tm 13 (.t 5) (tm 14 (.t 1) (tq 15 (.iaddr 3 (.t 12) (.t 13)) (tq 16 (.faddr 0 (.t 15)) (.q ⟨none,none,.store 1 (.t 16) (.t 14)⟩
 .done)))))))
 (.seq (.reg (tm 17 (.t 1) (tq 18 (.bin .add (.t 17) (.c (.int .i64 1))) (tm 1 (.t 18) .done))))
 (.seq (.reg (tm 19 (.t 0) (tm 20 (.t 5) (tm 21 (.t 1) (tq 22 (.iaddr 3 (.t 19) (.t 20)) (tq 23 (.faddr 1 (.t 22)) (.q ⟨none,none,.store 1 (.t 23) (.t 21)⟩
 .done)))))))
 (.seq (.reg (tm 24 (.t 1) (tq 25 (.bin .add (.t 24) (.c (.int .i64 1))) (tm 1 (.t 25) .done))))
 (.seq (.reg (tm 26 (.t 0) (tm 27 (.t 5) (tm 28 (.t 1) (tq 29 (.call 74 [(.t 28)]) (tq 30 (.iaddr 3 (.t 26) (.t 27)) (tq 31 (.faddr 2 (.t 30)) (.q ⟨none,none,.store 1 (.t 31) (.t 29)⟩
 .done))))))))
 (.reg (tm 32 (.t 1) (tq 33 (.bin .add (.t 32) (.c (.int .i64 1))) (tm 1 (.t 33) .done))))))))))
 (.reg (tm 10 (.t 5) (tq 11 (.bin .add (.t 10) (.c (.int .i64 1))) (tm 5 (.t 11) .done)))))))))
 (.cut (.seq (.reg (tm 34 (.t 1) (tm 4 (.t 34) .done)))
 .ret))))
theorem fc101_h0:fcomp Tryz.prog Tryz.f101 = some (c101_h0.erase,[.mov (.t 4)],35):=by kernel_rfl
def laws_markAtomS_L1 :Nat → Int → Int → (List GAtom) → Option (Int × (List GAtom))
  | 0,_,_,_ => none
  | k + 1,k_58,i_59,a_60 =>
    if (decide (i_59 < (a_60.length:Int))) then
    if 0 ≤ i_59 ∧ i_59 < (a_60.length:Int) then
    (a_60[(0 + i_59.toNat)]?).bind fun x_76 =>
    if 0 ≤ i_59 ∧ i_59 < (a_60.length:Int) then
    (laws_markText (w64 ((w64 (k_58 + 1)) + 1))).bind fun r_79 =>
    if 0 ≤ i_59 ∧ i_59 < (a_60.length:Int) then
    laws_markAtomS_L1 k (w64 ((w64 ((w64 (k_58 + 1)) + 1)) + 1)) (w64 (i_59 + 1)) (((a_60.set (0 + i_59.toNat) (⟨k_58,x_76.N,x_76.T⟩:GAtom)).set (0 + i_59.toNat) (⟨k_58,w64 (k_58 + 1),x_76.T⟩:GAtom)).set (0 + i_59.toNat) (⟨k_58,w64 (k_58 + 1),r_79⟩:GAtom))
    else none
    else none
    else none
    else
    some (k_58,a_60)

def laws_markAtomS (a_1:(List GAtom)) (k_2:Int):Option (Int × (List GAtom)) :=
    (laws_markAtomS_L1 FUEL k_2 0 a_1).bind fun p72 =>
    (match p72 with
    | (k_70,l_71) =>
    some (k_70,l_71))
theorem w_laws_markAtomS (a_1:(List GAtom)) (k_2:Int) (r:(Int × (List GAtom))) (hf:laws_markAtomS a_1 k_2 = some r):CallHeap Tryz.prog ⟨true,true⟩ 101 [(.own 0 0 a_1.length),(.int .i64 k_2)] [.row 3 (a_1.map encGAtom)] (.int .i64 r.1) [.row 3 (r.2.map encGAtom)]:=by
 refine CallHeap.of_awp mixed Tryz.func101 fc101_h0 nle ?_;rw [argT_eq];unfold laws_markAtomS at hf;unfold c101_h0;refine (show awp Tryz.prog ⟨true,true⟩ 1 _ (ofL [(0,(.own 0 0 a_1.length)),(1,(.int .i64 k_2))]) [.row 3 (a_1.map encGAtom)] _ from ?_);refine sr<|s_mov (.int .i64 0) rfl<|dk<|awp_seq<|sr<|s_mov (.int .i64 0) rfl<|dk<|?_
 obtain ⟨p72,hb1,hf⟩:=ob hf
 refine awp_cut ([(1,(.int .i64 p72.1))],[.row 3 (p72.2.map encGAtom)]) ?_ ?_
 ·refine awp_loop (X:={q:(Nat × Int × Int × (List GAtom)) // laws_markAtomS_L1 q.1 q.2.1 q.2.2.1 q.2.2.2 = some p72}) (fun q => ([(0,(.own 0 0 q.1.2.2.2.length)),(1,(.int .i64 q.1.2.1)),(5,(.int .i64 q.1.2.2.1))],[.row 3 (q.1.2.2.2.map encGAtom)])) (fun q => q.1.1) ⟨(FUEL,k_2,0,a_1),hb1⟩ ⟨[],[0],_,_,rfl,rfl,⟨.refl _,⟨.refl _,⟨.refl _,trivial⟩⟩⟩,(.refl _)⟩ ?_
  rintro ⟨⟨k,k_58,i_59,a_60⟩,hc1⟩
  have hc1:laws_markAtomS_L1 k k_58 i_59 a_60 = some p72:=hc1
  refine (show awp Tryz.prog ⟨true,true⟩ 1 _ (ofL [(0,(.own 0 0 a_60.length)),(1,(.int .i64 k_58)),(5,(.int .i64 i_59))]) [.row 3 (a_60.map encGAtom)] _ from ?_)
  rcases k with _ | k
  ·rw [laws_markAtomS_L1.eq_1] at hc1
   cases hc1
  ·rw [laws_markAtomS_L1.eq_2] at hc1;refine awp_seq<|sr<|s_mov (.int .i64 i_59) rfl<|s_mov (.own 0 0 a_60.length) rfl<|s_dof (o_lenown rfl rfl) fun hl73 => s_q (.bool (decide (i_59 < (a_60.length:Int)))) rfl (.of rfl trivial) rfl<|dk<|?_
   rcases oi hc1 with ⟨c74,hc1⟩ | ⟨c74,hc1⟩
   ·refine w_condt rfl c74<|w_skip<|k_seq<|awp_seq<|w_blk<|sr<|?_
    obtain ⟨g75,hc1⟩:=og hc1
    obtain ⟨x_76,ex77,hc1⟩:=ob hc1
    refine s_mov (.own 0 0 a_60.length) rfl<|s_mov (.int .i64 i_59) rfl<|s_mov (.int .i64 k_58) rfl<|s_do (o_iaddrown rfl rfl g75.1 g75.2 rfl rfl)<|s_q (.ptr 0 (0 + i_59.toNat) 0) rfl (.of trivial trivial) rfl<|?_;refine s_do0 (o_storerow (v':=(.int .i64 k_58)) (e':=(⟨k_58,x_76.N,x_76.T⟩:GAtom)) rfl rfl ex77 rfl rfl rfl (by decide) (fun _ => by decide) ⟨rfl,nle⟩ (.refl _) rfl) ?_;refine dk<|sr<|s_mov (.int .i64 k_58) rfl<|s_q (.int .i64 (w64 (k_58 + 1))) rfl (.of rfl trivial) rfl<|s_mov (.int .i64 (w64 (k_58 + 1))) rfl<|dk<|sr<|?_
    obtain ⟨g78,hc1⟩:=og hc1
    refine s_mov (.own 0 0 a_60.length) rfl<|s_mov (.int .i64 i_59) rfl<|s_mov (.int .i64 (w64 (k_58 + 1))) rfl<|s_do (o_iaddrown rfl rfl g78.1 g78.2 rfl rfl)<|s_q (.ptr 0 (0 + i_59.toNat) 1) rfl (.of trivial trivial) rfl<|?_;refine s_do0 (o_storerow (v':=(.int .i64 (w64 (k_58 + 1)))) (e':=(⟨k_58,w64 (k_58 + 1),x_76.T⟩:GAtom)) rfl rfl (setget ex77) rfl rfl rfl (by decide) (fun _ => by decide) ⟨rfl,nle⟩ (.refl _) rfl) ?_;refine dk<|sr<|s_mov (.int .i64 (w64 (k_58 + 1))) rfl<|s_q (.int .i64 (w64 ((w64 (k_58 + 1)) + 1))) rfl (.of rfl trivial) rfl<|s_mov (.int .i64 (w64 ((w64 (k_58 + 1)) + 1))) rfl<|dk<|sr<|?_
    obtain ⟨r_79,er80,hc1⟩:=ob hc1
    obtain ⟨g81,hc1⟩:=og hc1
    refine s_mov (.own 0 0 a_60.length) rfl<|s_mov (.int .i64 i_59) rfl<|s_mov (.int .i64 (w64 ((w64 (k_58 + 1)) + 1))) rfl<|s_do (o_call (w_laws_markText _ _ er80) rfl (.refl _) rfl)<|s_do (o_iaddrown rfl rfl g81.1 g81.2 rfl rfl)<|s_q (.ptr 0 (0 + i_59.toNat) 2) rfl (.of trivial trivial) rfl<|?_;refine s_do0 (o_storerow (v':=(.str r_79)) (e':=(⟨k_58,w64 (k_58 + 1),r_79⟩:GAtom)) rfl rfl (setget (setget ex77)) rfl rfl rfl (by decide) (fun _ => by decide) ⟨rfl,nle⟩ (.refl _) rfl) ?_;refine dk<|w_reg<|s_mov (.int .i64 (w64 ((w64 (k_58 + 1)) + 1))) rfl<|s_q (.int .i64 (w64 ((w64 ((w64 (k_58 + 1)) + 1)) + 1))) rfl (.of rfl trivial) rfl<|s_mov (.int .i64 (w64 ((w64 ((w64 (k_58 + 1)) + 1)) + 1))) rfl<|?_
    refine w_done<|k_blk<|k_seq<|w_reg<|s_mov (.int .i64 i_59) rfl<|s_q (.int .i64 (w64 (i_59 + 1))) rfl (.of rfl trivial) rfl<|s_mov (.int .i64 (w64 (i_59 + 1))) rfl<|w_done<|?_;exact k_loopn ⟨(k,w64 ((w64 ((w64 (k_58 + 1)) + 1)) + 1),w64 (i_59 + 1),((a_60.set (0 + i_59.toNat) (⟨k_58,x_76.N,x_76.T⟩:GAtom)).set (0 + i_59.toNat) (⟨k_58,w64 (k_58 + 1),x_76.T⟩:GAtom)).set (0 + i_59.toNat) (⟨k_58,w64 (k_58 + 1),r_79⟩:GAtom)),hc1⟩ (Nat.lt_succ_self _) ⟨[],[0],_,_,rfl,rfl,⟨.of_eq (congrArg (AV.own _ 0) (by simp)),⟨.refl _,⟨.refl _,trivial⟩⟩⟩,(.refl _)⟩
   ·refine w_condf rfl (bf c74)<|w_exit<|k_seqx<|k_loopx<|k_blkx<|?_;obtain rfl:=os hc1;exact ⟨[],[0],_,_,rfl,rfl,⟨.refl _,trivial⟩,(.refl _)⟩
 ·obtain ⟨k_70,l_71⟩:=p72
  refine sr<|s_mov (.int .i64 k_70) rfl<|s_mov (.int .i64 k_70) rfl<|dk<|w_ret<|?_;obtain rfl:=os hf;exact r_heap [] [0] rfl ⟨.of trivial trivial,trivial⟩ rfl (.refl _) (.refl _)

/- laws.markCondS -/
def c75_h0:ACode :=
 (.seq (.reg (tm 4 (.c (.int .i64 0)) .done))
 (.seq (.seq (.reg (tm 5 (.c (.int .i64 0)) .done))
 (.block 0 (.loop (.seq (.seq (.reg (tm 6 (.t 5) (tm 7 (.t 0) (tq 8 (.len (.t 7)) (tq 9 (.bin .lss (.t 6) (.t 8)) .done)))))
 (.cond (.t 9) .skip
 (.exit 0)))
 (.seq (.block 1 (.seq (.reg (tm 12 (.t 0) (tm 13 (.t 5) (tm 14 (.t 1) (tq 15 (.call 74 [(.t 14)]) (tq 16 (.iaddr 3 (.t 12) (.t 13)) (tq 17 (.faddr 0 (.t 16)) (.q ⟨none,none,.store 1 (.t 17) (.t 15)⟩
 .done))))))))
 (.seq (.reg (tm 18 (.t 1) (tq 19 (.bin .add (.t 18) (.c (.int .i64 1))) (tm 1 (.t 19) .done))))
 (.seq (.reg (tm 20 (.t 0) (tm 21 (.t 5) (tm 22 (.t 1) (tq 23 (.iaddr 3 (.t 20) (.t 21)) (tq 24 (.faddr 1 (.t 23)) (.q ⟨none,none,.store 1 (.t 24) (.t 22)⟩
 .done)))))))
 (.seq (.reg (tm 25 (.t 1) (tq 26 (.bin .add (.t 25) (.c (.int .i64 1))) (tm 1 (.t 26) .done))))
 (.rev (.reg (tm 27 (.t 0) (tm 28 (.t 5) (tq 29 (.iaddr 3 (.t 27) (.t 28)) (tq 30 (.faddr 2 (.t 29)) (tq 31 (.load 1 false (.t 30)) (tm 32 (.t 1) (tq 33 (.call 101 [(.t 31),(.t 32)]) (tm 1 (.t 33) .done)))))))))))))))
 (.reg (tm 10 (.t 5) (tq 11 (.bin .add (.t 10) (.c (.int .i64 1))) (tm 5 (.t 11) .done)))))))))
 (.cut (.seq (.reg (tm 34 (.t 1) (tm 4 (.t 34) .done)))
 .ret))))
theorem fc75_h0:fcomp Tryz.prog Tryz.f75 = some (c75_h0.erase,[.mov (.t 4)],35):=by kernel_rfl
def laws_markCondS_L1 :Nat → Int → Int → (List GCond) → Option (Int × (List GCond))
  | 0,_,_,_ => none
  | k + 1,k_78,i_79,a_80 =>
    if (decide (i_79 < (a_80.length:Int))) then
    (laws_markText k_78).bind fun r_99 =>
    if 0 ≤ i_79 ∧ i_79 < (a_80.length:Int) then
    (a_80[(0 + i_79.toNat)]?).bind fun x_102 =>
    if 0 ≤ i_79 ∧ i_79 < (a_80.length:Int) then
    if 0 ≤ i_79 ∧ i_79 < (a_80.length:Int) then
    (laws_markAtomS x_102.Value (w64 ((w64 (k_78 + 1)) + 1))).bind fun r_108 =>
    laws_markCondS_L1 k r_108.1 (w64 (i_79 + 1)) (((a_80.set (0 + i_79.toNat) (⟨r_99,x_102.Func,x_102.Value⟩:GCond)).set (0 + i_79.toNat) (⟨r_99,w64 (k_78 + 1),x_102.Value⟩:GCond)).set (0 + i_79.toNat) (⟨r_99,w64 (k_78 + 1),r_108.2⟩:GCond))
    else none
    else none
    else none
    else
    some (k_78,a_80)

def laws_markCondS (a_1:(List GCond)) (k_2:Int):Option (Int × (List GCond)) :=
    (laws_markCondS_L1 FUEL k_2 0 a_1).bind fun p96 =>
    (match p96 with
    | (k_94,l_95) =>
    some (k_94,l_95))
theorem w_laws_markCondS (a_1:(List GCond)) (k_2:Int) (r:(Int × (List GCond))) (hf:laws_markCondS a_1 k_2 = some r):CallHeap Tryz.prog ⟨true,true⟩ 75 [(.own 0 0 a_1.length),(.int .i64 k_2)] [.row 3 (a_1.map encGCond)] (.int .i64 r.1) [.row 3 (r.2.map encGCond)]:=by
 refine CallHeap.of_awp mixed Tryz.func75 fc75_h0 nle ?_;rw [argT_eq];unfold laws_markCondS at hf;unfold c75_h0;refine (show awp Tryz.prog ⟨true,true⟩ 1 _ (ofL [(0,(.own 0 0 a_1.length)),(1,(.int .i64 k_2))]) [.row 3 (a_1.map encGCond)] _ from ?_);refine sr<|s_mov (.int .i64 0) rfl<|dk<|awp_seq<|sr<|s_mov (.int .i64 0) rfl<|dk<|?_
 obtain ⟨p96,hb1,hf⟩:=ob hf
 refine awp_cut ([(1,(.int .i64 p96.1))],[.row 3 (p96.2.map encGCond)]) ?_ ?_
 ·refine awp_loop (X:={q:(Nat × Int × Int × (List GCond)) // laws_markCondS_L1 q.1 q.2.1 q.2.2.1 q.2.2.2 = some p96}) (fun q => ([(0,(.own 0 0 q.1.2.2.2.length)),(1,(.int .i64 q.1.2.1)),(5,(.int .i64 q.1.2.2.1))],[.row 3 (q.1.2.2.2.map encGCond)])) (fun q => q.1.1) ⟨(FUEL,k_2,0,a_1),hb1⟩ ⟨[],[0],_,_,rfl,rfl,⟨.refl _,⟨.refl _,⟨.refl _,trivial⟩⟩⟩,(.refl _)⟩ ?_
  rintro ⟨⟨k,k_78,i_79,a_80⟩,hc1⟩
  have hc1:laws_markCondS_L1 k k_78 i_79 a_80 = some p96:=hc1
  refine (show awp Tryz.prog ⟨true,true⟩ 1 _ (ofL [(0,(.own 0 0 a_80.length)),(1,(.int .i64 k_78)),(5,(.int .i64 i_79))]) [.row 3 (a_80.map encGCond)] _ from ?_)
  rcases k with _ | k
  ·rw [laws_markCondS_L1.eq_1] at hc1
   cases hc1
  ·rw [laws_markCondS_L1.eq_2] at hc1;refine awp_seq<|sr<|s_mov (.int .i64 i_79) rfl<|s_mov (.own 0 0 a_80.length) rfl<|s_dof (o_lenown rfl rfl) fun hl97 => s_q (.bool (decide (i_79 < (a_80.length:Int)))) rfl (.of rfl trivial) rfl<|dk<|?_
   rcases oi hc1 with ⟨c98,hc1⟩ | ⟨c98,hc1⟩
   ·refine w_condt rfl c98<|w_skip<|k_seq<|awp_seq<|w_blk<|sr<|?_
    obtain ⟨r_99,er100,hc1⟩:=ob hc1
    obtain ⟨g101,hc1⟩:=og hc1
    obtain ⟨x_102,ex103,hc1⟩:=ob hc1
    refine s_mov (.own 0 0 a_80.length) rfl<|s_mov (.int .i64 i_79) rfl<|s_mov (.int .i64 k_78) rfl<|s_do (o_call (w_laws_markText _ _ er100) rfl (.refl _) rfl)<|s_do (o_iaddrown rfl rfl g101.1 g101.2 rfl rfl)<|s_q (.ptr 0 (0 + i_79.toNat) 0) rfl (.of trivial trivial) rfl<|?_;refine s_do0 (o_storerow (v':=(.str r_99)) (e':=(⟨r_99,x_102.Func,x_102.Value⟩:GCond)) rfl rfl ex103 rfl rfl rfl (by decide) (fun _ => by decide) ⟨rfl,nle⟩ (.refl _) rfl) ?_;refine dk<|sr<|s_mov (.int .i64 k_78) rfl<|s_q (.int .i64 (w64 (k_78 + 1))) rfl (.of rfl trivial) rfl<|s_mov (.int .i64 (w64 (k_78 + 1))) rfl<|dk<|sr<|?_
    obtain ⟨g104,hc1⟩:=og hc1
    refine s_mov (.own 0 0 a_80.length) rfl<|s_mov (.int .i64 i_79) rfl<|s_mov (.int .i64 (w64 (k_78 + 1))) rfl<|s_do (o_iaddrown rfl rfl g104.1 g104.2 rfl rfl)<|s_q (.ptr 0 (0 + i_79.toNat) 1) rfl (.of trivial trivial) rfl<|?_;refine s_do0 (o_storerow (v':=(.int .i64 (w64 (k_78 + 1)))) (e':=(⟨r_99,w64 (k_78 + 1),x_102.Value⟩:GCond)) rfl rfl (setget ex103) rfl rfl rfl (by decide) (fun _ => by decide) ⟨rfl,nle⟩ (.refl _) rfl) ?_;refine dk<|sr<|s_mov (.int .i64 (w64 (k_78 + 1))) rfl<|s_q (.int .i64 (w64 ((w64 (k_78 + 1)) + 1))) rfl (.of rfl trivial) rfl<|s_mov (.int .i64 (w64 ((w64 (k_78 + 1)) + 1))) rfl<|dk<|?_;refine w_rev (o:=0) (f:=2) (l':=x_102.Value) (enc':=encGAtom) (el:=(.agg [(.str r_99),(.int .i64 (w64 (k_78 + 1))),(.lst 3 (x_102.Value.map encGAtom))])) rfl (setget (setget ex103)) rfl rfl fun v_106 => ?_
    refine w_reg ?_
    obtain ⟨g107,hc1⟩:=og hc1
    obtain ⟨r_108,er109,hc1⟩:=ob hc1
    refine s_mov (.own 0 0 a_80.length) rfl<|s_mov (.int .i64 i_79) rfl<|s_do (o_iaddrown rfl rfl g107.1 g107.2 rfl rfl)<|s_q (.ptr 0 (0 + i_79.toNat) 2) rfl (.of trivial trivial) rfl<|s_do (o_loadhdr rfl rfl (getset (setget (setget ex103))) nle rfl)<|s_mov (.int .i64 (w64 ((w64 (k_78 + 1)) + 1))) rfl<|s_do (o_callm (o:=0) (l:=((a_80.set (0 + i_79.toNat) (⟨r_99,x_102.Func,x_102.Value⟩:GCond)).set (0 + i_79.toNat) (⟨r_99,w64 (k_78 + 1),x_102.Value⟩:GCond))) (enc:=encGCond) (enc':=encGAtom) (l'':=r_108.2) (y:=(⟨r_99,w64 (k_78 + 1),r_108.2⟩:GCond)) (j:=2) (el:=(.agg [(.str r_99),(.int .i64 (w64 (k_78 + 1))),(.hdr v_106 3 (x_102.Value.map encGAtom))])) rfl rfl (w_laws_markAtomS _ _ _ er109) rfl rfl (setget (setget ex103)) rfl (by decide) rfl)<|?_
    refine s_mov (.int .i64 r_108.1) rfl<|w_done<|k_blk<|k_seq<|w_reg<|s_mov (.int .i64 i_79) rfl<|s_q (.int .i64 (w64 (i_79 + 1))) rfl (.of rfl trivial) rfl<|s_mov (.int .i64 (w64 (i_79 + 1))) rfl<|w_done<|?_;exact k_loopn ⟨(k,r_108.1,w64 (i_79 + 1),((a_80.set (0 + i_79.toNat) (⟨r_99,x_102.Func,x_102.Value⟩:GCond)).set (0 + i_79.toNat) (⟨r_99,w64 (k_78 + 1),x_102.Value⟩:GCond)).set (0 + i_79.toNat) (⟨r_99,w64 (k_78 + 1),r_108.2⟩:GCond)),hc1⟩ (Nat.lt_succ_self _) ⟨[],[0],_,_,rfl,rfl,⟨.of_eq (congrArg (AV.own _ 0) (by simp)),⟨.refl _,⟨.refl _,trivial⟩⟩⟩,(.refl _)⟩
   ·refine w_condf rfl (bf c98)<|w_exit<|k_seqx<|k_loopx<|k_blkx<|?_;obtain rfl:=os hc1;exact ⟨[],[0],_,_,rfl,rfl,⟨.refl _,trivial⟩,(.refl _)⟩
 ·obtain ⟨k_94,l_95⟩:=p96
  refine sr<|s_mov (.int .i64 k_94) rfl<|s_mov (.int .i64 k_94) rfl<|dk<|w_ret<|?_;obtain rfl:=os hf;exact r_heap [] [0] rfl ⟨.of trivial trivial,trivial⟩ rfl (.refl _) (.refl _)

/- laws.markStringS -/
def c77_h0:ACode :=
 (.seq (.reg (tm 4 (.c (.int .i64 0)) .done))
 (.seq (.seq (.reg (tm 5 (.c (.int .i64 0)) .done))
 (.block 0 (.loop (.seq (.seq (.reg (tm 6 (.t 5) (tm 7 (.t 0) (tq 8 (.len (.t 7)) (tq 9 (.bin .lss (.t 6) (.t 8)) .done)))))
 (.cond (.t 9) .skip
 (.exit 0)))
 (.seq (.block 1 (.seq (.reg (tm 12 (.t 0) (tm 13 (.t 5) (tm 14 (.t 1) (tq 15 (.call 74 [(.t 14)]) (tq 16 (.iaddr 1 (.t 12) (.t 13)) (.q ⟨none,none,.store 1 (.t 16) (.t 15)⟩
 .done)))))))
 (.reg (tm 17 (.t 1) (tq 18 (.bin .add (.t 17) (.c (.int .i64 1))) (tm 1 (.t 18) .done))))))
 (.reg (tm 10 (.t 5) (tq 11 (.bin .add (.t 10) (.c (.int .i64 1))) (tm 5 (.t 11) .done)))))))))
 (.cut (.seq (.reg (tm 19 (.t 1) (tm 4 (.t 19) .done)))
 .ret))))
theorem fc77_h0:fcomp Tryz.prog Tryz.f77 = some (c77_h0.erase,[.mov (.t 4)],20):=by kernel_rfl
def laws_markStringS_L1 :Nat → Int → Int → (List Str) → Option (Int × (List Str))
  | 0,_,_,_ => none
  | k + 1,k_48,i_49,a_50 =>
    if (decide (i_49 < (a_50.length:Int))) then
    (laws_markText k_48).bind fun r_63 =>
    if 0 ≤ i_49 ∧ i_49 < (a_50.length:Int) then
    (a_50[(0 + i_49.toNat)]?).bind fun x_66 =>
    laws_markStringS_L1 k (w64 (k_48 + 1)) (w64 (i_49 + 1)) (a_50.set (0 + i_49.toNat) r_63)
    else none
    else
    some (k_48,a_50)

def laws_markStringS (a_1:(List Str)) (k_2:Int):Option (Int × (List Str)) :=
    (laws_markStringS_L1 FUEL k_2 0 a_1).bind fun p60 =>
    (match p60 with
    | (k_58,l_59) =>
    some (k_58,l_59))
theorem w_laws_markStringS (a_1:(List Str)) (k_2:Int) (r:(Int × (List Str))) (hf:laws_markStringS a_1 k_2 = some r):CallHeap Tryz.prog ⟨true,true⟩ 77 [(.own 0 0 a_1.length),(.int .i64 k_2)] [.row 1 (a_1.map AV.str)] (.int .i64 r.1) [.row 1 (r.2.map AV.str)]:=by
 refine CallHeap.of_awp mixed Tryz.func77 fc77_h0 nle ?_;rw [argT_eq];unfold laws_markStringS at hf;unfold c77_h0;refine (show awp Tryz.prog ⟨true,true⟩ 1 _ (ofL [(0,(.own 0 0 a_1.length)),(1,(.int .i64 k_2))]) [.row 1 (a_1.map AV.str)] _ from ?_);refine sr<|s_mov (.int .i64 0) rfl<|dk<|awp_seq<|sr<|s_mov (.int .i64 0) rfl<|dk<|?_
 obtain ⟨p60,hb1,hf⟩:=ob hf
 refine awp_cut ([(1,(.int .i64 p60.1))],[.row 1 (p60.2.map AV.str)]) ?_ ?_
 ·refine awp_loop (X:={q:(Nat × Int × Int × (List Str)) // laws_markStringS_L1 q.1 q.2.1 q.2.2.1 q.2.2.2 = some p60}) (fun q => ([(0,(.own 0 0 q.1.2.2.2.length)),(1,(.int .i64 q.1.2.1)),(5,(.int .i64 q.1.2.2.1))],[.row 1 (q.1.2.2.2.map AV.str)])) (fun q => q.1.1) ⟨(FUEL,k_2,0,a_1),hb1⟩ ⟨[],[0],_,_,rfl,rfl,⟨.refl _,⟨.refl _,⟨.refl _,trivial⟩⟩⟩,(.refl _)⟩ ?_
  rintro ⟨⟨k,k_48,i_49,a_50⟩,hc1⟩
  have hc1:laws_markStringS_L1 k k_48 i_49 a_50 = some p60:=hc1
  refine (show awp Tryz.prog ⟨true,true⟩ 1 _ (ofL [(0,(.own 0 0 a_50.length)),(1,(.int .i64 k_48)),(5,(.int .i64 i_49))]) [.row 1 (a_50.map AV.str)] _ from ?_)
  rcases k with _ | k
  ·rw [laws_markStringS_L1.eq_1] at hc1
   cases hc1
  ·rw [laws_markStringS_L1.eq_2] at hc1;refine awp_seq<|sr<|s_mov (.int .i64 i_49) rfl<|s_mov (.own 0 0 a_50.length) rfl<|s_dof (o_lenown rfl rfl) fun hl61 => s_q (.bool (decide (i_49 < (a_50.length:Int)))) rfl (.of rfl trivial) rfl<|dk<|?_
   rcases oi hc1 with ⟨c62,hc1⟩ | ⟨c62,hc1⟩
   ·refine w_condt rfl c62<|w_skip<|k_seq<|awp_seq<|w_blk<|sr<|?_
    obtain ⟨r_63,er64,hc1⟩:=ob hc1
    obtain ⟨g65,hc1⟩:=og hc1
    obtain ⟨x_66,ex67,hc1⟩:=ob hc1
    refine s_mov (.own 0 0 a_50.length) rfl<|s_mov (.int .i64 i_49) rfl<|s_mov (.int .i64 k_48) rfl<|s_do (o_call (w_laws_markText _ _ er64) rfl (.refl _) rfl)<|s_do (o_iaddrown rfl rfl g65.1 g65.2 rfl rfl)<|?_;refine s_do0 (o_storerow (v':=(.str r_63)) (e':=r_63) rfl rfl ex67 rfl rfl rfl (by decide) (fun _ => by decide) ⟨rfl,rfl,rfl⟩ (.refl _) rfl) ?_;refine dk<|w_reg<|s_mov (.int .i64 k_48) rfl<|s_q (.int .i64 (w64 (k_48 + 1))) rfl (.of rfl trivial) rfl<|s_mov (.int .i64 (w64 (k_48 + 1))) rfl<|w_done<|k_blk<|k_seq<|w_reg<|s_mov (.int .i64 i_49) rfl<|s_q (.int .i64 (w64 (i_49 + 1))) rfl (.of rfl trivial) rfl<|s_mov (.int .i64 (w64 (i_49 + 1))) rfl<|w_done<|?_;exact k_loopn ⟨(k,w64 (k_48 + 1),w64 (i_49 + 1),a_50.set (0 + i_49.toNat) r_63),hc1⟩ (Nat.lt_succ_self _) ⟨[],[0],_,_,rfl,rfl,⟨.of_eq (congrArg (AV.own _ 0) (by simp)),⟨.refl _,⟨.refl _,trivial⟩⟩⟩,(.refl _)⟩
   ·refine w_condf rfl (bf c62)<|w_exit<|k_seqx<|k_loopx<|k_blkx<|?_;obtain rfl:=os hc1;exact ⟨[],[0],_,_,rfl,rfl,⟨.refl _,trivial⟩,(.refl _)⟩
 ·obtain ⟨k_58,l_59⟩:=p60
  refine sr<|s_mov (.int .i64 k_58) rfl<|s_mov (.int .i64 k_58) rfl<|dk<|w_ret<|?_;obtain rfl:=os hf;exact r_heap [] [0] rfl ⟨.of trivial trivial,trivial⟩ rfl (.refl _) (.refl _)

/- laws.markSetS -/
def c35_h0:ACode :=
 (.seq (.reg (tm 4 (.c (.int .i64 0)) .done))
 (.seq (.seq (.reg (tm 5 (.c (.int .i64 0)) .done))
 (.block 0 (.loop (.seq (.seq (.reg (tm 6 (.t 5) (tm 7 (.t 0) (tq 8 (.len (.t 7)) (tq 9 (.bin .lss (.t 6) (.t 8)) .done)))))
 (.cond (.t 9) .skip
 (.exit 0)))
 (.seq (.block 1 (.seq (.reg (tm 12 (.t 0) (tm 13 (.t 5) (tm 14 (.t 1) (tq 15 (.call 74 [(.t 14)]) (tq 16 (.iaddr 3 (.t 12) (.t 13)) (tq 17 (.faddr 0 (.t 16)) (.q ⟨none,none,.store 1 (.t 17) (.t 15)⟩
 .done))))))))
 (.seq (.reg (tm 18 (.t 1) (tq 19 (.bin .add (.t 18) (.c (.int .i64 1))) (tm 1 (.t 19) .done))))
 (.seq (.rev (.reg (tm 20 (.t 0) (tm 21 (.t 5) (tq 22 (.iaddr 3 (.t 20) (.t 21)) (tq 23 (.faddr 1 (.t 22)) (tq 24 (.load 1 false (.t 23)) (tm 25 (.t 1) (tq 26 (.call 101 [(.t 24),(.t 25)]) (tm 1 (.t 26) .done))))))))))
 (.rev (.reg (tm 27 (.t 0) (tm 28 (.t 5) (tq 29 (.iaddr 3 (.t 27) (.t 28)) (tq 30 (.faddr 2 (.t 29)) (tq 31 (.load 1 false (.t 30)) (tm 32 (.t 1) (tq 33 (.call 77 [(.t 31),(.t 32)]) (tm 1 (.t 33) .done))))))))))))))
 (.reg (tm 10 (.t 5) (tq 11 (.bin .add (.t 10) (.c (.int .i64 1))) (tm 5 (.t 11) .done)))))))))
 (.cut (.seq (.reg (tm 34 (.t 1) (tm 4 (.t 34) .done)))
 .ret))))
theorem fc35_h0:fcomp Tryz.prog Tryz.f35 = some (c35_h0.erase,[.mov (.t 4)],35):=by kernel_rfl
def laws_markSetS_L1 :Nat → Int → Int → (List GSet) → Option (Int × (List GSet))
  | 0,_,_,_ => none
  | k + 1,k_98,i_99,a_100 =>
    if (decide (i_99 < (a_100.length:Int))) then
    (laws_markText k_98).bind fun r_123 =>
    if 0 ≤ i_99 ∧ i_99 < (a_100.length:Int) then
    (a_100[(0 + i_99.toNat)]?).bind fun x_126 =>
    if 0 ≤ i_99 ∧ i_99 < (a_100.length:Int) then
    (laws_markAtomS x_126.Value (w64 (k_98 + 1))).bind fun r_131 =>
    if 0 ≤ i_99 ∧ i_99 < (a_100.length:Int) then
    (laws_markStringS x_126.Names r_131.1).bind fun r_136 =>
    laws_markSetS_L1 k r_136.1 (w64 (i_99 + 1)) (((a_100.set (0 + i_99.toNat) (⟨r_123,x_126.Value,x_126.Names⟩:GSet)).set (0 + i_99.toNat) (⟨r_123,r_131.2,x_126.Names⟩:GSet)).set (0 + i_99.toNat) (⟨r_123,r_131.2,r_136.2⟩:GSet))
    else none
    else none
    else none
    else
    some (k_98,a_100)

def laws_markSetS (a_1:(List GSet)) (k_2:Int):Option (Int × (List GSet)) :=
    (laws_markSetS_L1 FUEL k_2 0 a_1).bind fun p120 =>
    (match p120 with
    | (k_118,l_119) =>
    some (k_118,l_119))
theorem w_laws_markSetS (a_1:(List GSet)) (k_2:Int) (r:(Int × (List GSet))) (hf:laws_markSetS a_1 k_2 = some r):CallHeap Tryz.prog ⟨true,true⟩ 35 [(.own 0 0 a_1.length),(.int .i64 k_2)] [.row 3 (a_1.map encGSet)] (.int .i64 r.1) [.row 3 (r.2.map encGSet)]:=by
 refine CallHeap.of_awp mixed Tryz.func35 fc35_h0 nle ?_;rw [argT_eq];unfold laws_markSetS at hf;unfold c35_h0;refine (show awp Tryz.prog ⟨true,true⟩ 1 _ (ofL [(0,(.own 0 0 a_1.length)),(1,(.int .i64 k_2))]) [.row 3 (a_1.map encGSet)] _ from ?_);refine sr<|s_mov (.int .i64 0) rfl<|dk<|awp_seq<|sr<|s_mov (.int .i64 0) rfl<|dk<|?_
 obtain ⟨p120,hb1,hf⟩:=ob hf
 refine awp_cut ([(1,(.int .i64 p120.1))],[.row 3 (p120.2.map encGSet)]) ?_ ?_
 ·refine awp_loop (X:={q:(Nat × Int × Int × (List GSet)) // laws_markSetS_L1 q.1 q.2.1 q.2.2.1 q.2.2.2 = some p120}) (fun q => ([(0,(.own 0 0 q.1.2.2.2.length)),(1,(.int .i64 q.1.2.1)),(5,(.int .i64 q.1.2.2.1))],[.row 3 (q.1.2.2.2.map encGSet)])) (fun q => q.1.1) ⟨(FUEL,k_2,0,a_1),hb1⟩ ⟨[],[0],_,_,rfl,rfl,⟨.refl _,⟨.refl _,⟨.refl _,trivial⟩⟩⟩,(.refl _)⟩ ?_
  rintro ⟨⟨k,k_98,i_99,a_100⟩,hc1⟩
  have hc1:laws_markSetS_L1 k k_98 i_99 a_100 = some p120:=hc1
  refine (show awp Tryz.prog ⟨true,true⟩ 1 _ (ofL [(0,(.own 0 0 a_100.length)),(1,(.int .i64 k_98)),(5,(.int .i64 i_99))]) [.row 3 (a_100.map encGSet)] _ from ?_)
  rcases k with _ | k
  ·rw [laws_markSetS_L1.eq_1] at hc1
   cases hc1
  ·rw [laws_markSetS_L1.eq_2] at hc1;refine awp_seq<|sr<|s_mov (.int .i64 i_99) rfl<|s_mov (.own 0 0 a_100.length) rfl<|s_dof (o_lenown rfl rfl) fun hl121 => s_q (.bool (decide (i_99 < (a_100.length:Int)))) rfl (.of rfl trivial) rfl<|dk<|?_
   rcases oi hc1 with ⟨c122,hc1⟩ | ⟨c122,hc1⟩
   ·refine w_condt rfl c122<|w_skip<|k_seq<|awp_seq<|w_blk<|sr<|?_
    obtain ⟨r_123,er124,hc1⟩:=ob hc1
    obtain ⟨g125,hc1⟩:=og hc1
    obtain ⟨x_126,ex127,hc1⟩:=ob hc1
    refine s_mov (.own 0 0 a_100.length) rfl<|s_mov (.int .i64 i_99) rfl<|s_mov (.int .i64 k_98) rfl<|s_do (o_call (w_laws_markText _ _ er124) rfl (.refl _) rfl)<|s_do (o_iaddrown rfl rfl g125.1 g125.2 rfl rfl)<|s_q (.ptr 0 (0 + i_99.toNat) 0) rfl (.of trivial trivial) rfl<|?_;refine s_do0 (o_storerow (v':=(.str r_123)) (e':=(⟨r_123,x_126.Value,x_126.Names⟩:GSet)) rfl rfl ex127 rfl rfl rfl (by decide) (fun _ => by decide) ⟨rfl,nle⟩ (.refl _) rfl) ?_;refine dk<|sr<|s_mov (.int .i64 k_98) rfl<|s_q (.int .i64 (w64 (k_98 + 1))) rfl (.of rfl trivial) rfl<|s_mov (.int .i64 (w64 (k_98 + 1))) rfl<|dk<|awp_seq<|?_;refine w_rev (o:=0) (f:=1) (l':=x_126.Value) (enc':=encGAtom) (el:=(.agg [(.str r_123),(.lst 3 (x_126.Value.map encGAtom)),(.lst 1 (x_126.Names.map AV.str))])) rfl (setget ex127) rfl rfl fun v_129 => ?_
    refine w_reg ?_
    obtain ⟨g130,hc1⟩:=og hc1
    obtain ⟨r_131,er132,hc1⟩:=ob hc1
    refine s_mov (.own 0 0 a_100.length) rfl<|s_mov (.int .i64 i_99) rfl<|s_do (o_iaddrown rfl rfl g130.1 g130.2 rfl rfl)<|s_q (.ptr 0 (0 + i_99.toNat) 1) rfl (.of trivial trivial) rfl<|s_do (o_loadhdr rfl rfl (getset (setget ex127)) nle rfl)<|s_mov (.int .i64 (w64 (k_98 + 1))) rfl<|s_do (o_callm (o:=0) (l:=(a_100.set (0 + i_99.toNat) (⟨r_123,x_126.Value,x_126.Names⟩:GSet))) (enc:=encGSet) (enc':=encGAtom) (l'':=r_131.2) (y:=(⟨r_123,r_131.2,x_126.Names⟩:GSet)) (j:=1) (el:=(.agg [(.str r_123),(.hdr v_129 3 (x_126.Value.map encGAtom)),(.lst 1 (x_126.Names.map AV.str))])) rfl rfl (w_laws_markAtomS _ _ _ er132) rfl rfl (setget ex127) rfl (by decide) rfl)<|s_mov (.int .i64 r_131.1) rfl<|?_
    refine dk<|?_;refine w_rev (o:=0) (f:=2) (l':=x_126.Names) (enc':=AV.str) (el:=(.agg [(.str r_123),(.lst 3 (r_131.2.map encGAtom)),(.lst 1 (x_126.Names.map AV.str))])) rfl (setget (setget ex127)) rfl rfl fun v_134 => ?_;refine w_reg ?_
    obtain ⟨g135,hc1⟩:=og hc1
    obtain ⟨r_136,er137,hc1⟩:=ob hc1
    refine s_mov (.own 0 0 a_100.length) rfl<|s_mov (.int .i64 i_99) rfl<|s_do (o_iaddrown rfl rfl g135.1 g135.2 rfl rfl)<|s_q (.ptr 0 (0 + i_99.toNat) 2) rfl (.of trivial trivial) rfl<|s_do (o_loadhdr rfl rfl (getset (setget (setget ex127))) nle rfl)<|s_mov (.int .i64 r_131.1) rfl<|s_do (o_callm (o:=0) (l:=((a_100.set (0 + i_99.toNat) (⟨r_123,x_126.Value,x_126.Names⟩:GSet)).set (0 + i_99.toNat) (⟨r_123,r_131.2,x_126.Names⟩:GSet))) (enc:=encGSet) (enc':=AV.str) (l'':=r_136.2) (y:=(⟨r_123,r_131.2,r_136.2⟩:GSet)) (j:=2) (el:=(.agg [(.str r_123),(.lst 3 (r_131.2.map encGAtom)),(.hdr v_134 1 (x_126.Names.map AV.str))])) rfl rfl (w_laws_markStringS _ _ _ er137) rfl rfl (setget (setget ex127)) rfl (by decide) rfl)<|?_
    refine s_mov (.int .i64 r_136.1) rfl<|w_done<|k_blk<|k_seq<|w_reg<|s_mov (.int .i64 i_99) rfl<|s_q (.int .i64 (w64 (i_99 + 1))) rfl (.of rfl trivial) rfl<|s_mov (.int .i64 (w64 (i_99 + 1))) rfl<|w_done<|?_;exact k_loopn ⟨(k,r_136.1,w64 (i_99 + 1),((a_100.set (0 + i_99.toNat) (⟨r_123,x_126.Value,x_126.Names⟩:GSet)).set (0 + i_99.toNat) (⟨r_123,r_131.2,x_126.Names⟩:GSet)).set (0 + i_99.toNat) (⟨r_123,r_131.2,r_136.2⟩:GSet)),hc1⟩ (Nat.lt_succ_self _) ⟨[],[0],_,_,rfl,rfl,⟨.of_eq (congrArg (AV.own _ 0) (by simp)),⟨.refl _,⟨.refl _,trivial⟩⟩⟩,(.refl _)⟩
   ·refine w_condf rfl (bf c122)<|w_exit<|k_seqx<|k_loopx<|k_blkx<|?_;obtain rfl:=os hc1;exact ⟨[],[0],_,_,rfl,rfl,⟨.refl _,trivial⟩,(.refl _)⟩
 ·obtain ⟨k_118,l_119⟩:=p120
  refine sr<|s_mov (.int .i64 k_118) rfl<|s_mov (.int .i64 k_118) rfl<|dk<|w_ret<|?_;obtain rfl:=os hf;exact r_heap [] [0] rfl ⟨.of trivial trivial,trivial⟩ rfl (.refl _) (.refl _)

/- laws.markMutS -/
def c76_h0:ACode :=
 (.seq (.reg (tm 4 (.c (.int .i64 0)) .done))
 (.seq (.seq (.reg (tm 5 (.c (.int .i64 0)) .done))
 (.block 0 (.loop (.seq (.seq (.reg (tm 6 (.t 5) (tm 7 (.t 0) (tq 8 (.len (.t 7)) (tq 9 (.bin .lss (.t 6) (.t 8)) .done)))))
 (.cond (.t 9) .skip
 (.exit 0)))
 (.seq (.block 1 (.seq (.reg (tm 12 (.t 0) (tm 13 (.t 5) (tm 14 (.t 1) (tq 15 (.call 74 [(.t 14)]) (tq 16 (.iaddr 3 (.t 12) (.t 13)) (tq 17 (.faddr 0 (.t 16)) (.q ⟨none,none,.store 1 (.t 17) (.t 15)⟩
 .done))))))))
 (.seq (.reg (tm 18 (.t 1) (tq 19 (.bin .add (.t 18) (.c (.int .i64 1))) (tm 1 (.t 19) .done))))
 (.seq (.reg (tm 20 (.t 0) (tm 21 (.t 5) (tm 22 (.t 1) (tq 23 (.iaddr 3 (.t 20) (.t 21)) (tq 24 (.faddr 1 (.t 23)) (.q ⟨none,none,.store 1 (.t 24) (.t 22)⟩
 .done)))))))
 (.seq (.reg (tm 25 (.t 1) (tq 26 (.bin .add (.t 25) (.c (.int .i64 1))) (tm 1 (.t 26) .done))))
 (.rev (.reg (tm 27 (.t 0) (tm 28 (.t 5) (tq 29 (.iaddr 3 (.t 27) (.t 28)) (tq 30 (.faddr 2 (.t 29)) (tq 31 (.load 1 false (.t 30)) (tm 32 (.t 1) (tq 33 (.call 101 [(.t 31),(.t 32)]) (tm 1 (.t 33) .done)))))))))))))))
 (.reg (tm 10 (.t 5) (tq 11 (.bin .add (.t 10) (.c (.int .i64 1))) (tm 5 (.t 11) .done)))))))))
 (.cut (.seq (.reg (tm 34 (.t 1) (tm 4 (.t 34) .done)))
 .ret))))
theorem fc76_h0:fcomp Tryz.prog Tryz.f76 = some (c76_h0.erase,[.mov (.t 4)],35):=by kernel_rfl
def laws_markMutS_L1 :Nat → Int → Int → (List GMut) → Option (Int × (List GMut))
  | 0,_,_,_ => none
  | k + 1,k_78,i_79,a_80 =>
    if (decide (i_79 < (a_80.length:Int))) then
    (laws_markText k_78).bind fun r_99 =>
    if 0 ≤ i_79 ∧ i_79 < (a_80.length:Int) then
    (a_80[(0 + i_79.toNat)]?).bind fun x_102 =>
    if 0 ≤ i_79 ∧ i_79 < (a_80.length:Int) then
    if 0 ≤ i_79 ∧ i_79 < (a_80.length:Int) then
    (laws_markAtomS x_102.Value (w64 ((w64 (k_78 + 1)) + 1))).bind fun r_108 =>
    laws_markMutS_L1 k r_108.1 (w64 (i_79 + 1)) (((a_80.set (0 + i_79.toNat) (⟨r_99,x_102.Func,x_102.Value⟩:GMut)).set (0 + i_79.toNat) (⟨r_99,w64 (k_78 + 1),x_102.Value⟩:GMut)).set (0 + i_79.toNat) (⟨r_99,w64 (k_78 + 1),r_108.2⟩:GMut))
    else none
    else none
    else none
    else
    some (k_78,a_80)

def laws_markMutS (a_1:(List GMut)) (k_2:Int):Option (Int × (List GMut)) :=
    (laws_markMutS_L1 FUEL k_2 0 a_1).bind fun p96 =>
    (match p96 with
    | (k_94,l_95) =>
    some (k_94,l_95))
theorem w_laws_markMutS (a_1:(List GMut)) (k_2:Int) (r:(Int × (List GMut))) (hf:laws_markMutS a_1 k_2 = some r):CallHeap Tryz.prog ⟨true,true⟩ 76 [(.own 0 0 a_1.length),(.int .i64 k_2)] [.row 3 (a_1.map encGMut)] (.int .i64 r.1) [.row 3 (r.2.map encGMut)]:=by
 refine CallHeap.of_awp mixed Tryz.func76 fc76_h0 nle ?_;rw [argT_eq];unfold laws_markMutS at hf;unfold c76_h0;refine (show awp Tryz.prog ⟨true,true⟩ 1 _ (ofL [(0,(.own 0 0 a_1.length)),(1,(.int .i64 k_2))]) [.row 3 (a_1.map encGMut)] _ from ?_);refine sr<|s_mov (.int .i64 0) rfl<|dk<|awp_seq<|sr<|s_mov (.int .i64 0) rfl<|dk<|?_
 obtain ⟨p96,hb1,hf⟩:=ob hf
 refine awp_cut ([(1,(.int .i64 p96.1))],[.row 3 (p96.2.map encGMut)]) ?_ ?_
 ·refine awp_loop (X:={q:(Nat × Int × Int × (List GMut)) // laws_markMutS_L1 q.1 q.2.1 q.2.2.1 q.2.2.2 = some p96}) (fun q => ([(0,(.own 0 0 q.1.2.2.2.length)),(1,(.int .i64 q.1.2.1)),(5,(.int .i64 q.1.2.2.1))],[.row 3 (q.1.2.2.2.map encGMut)])) (fun q => q.1.1) ⟨(FUEL,k_2,0,a_1),hb1⟩ ⟨[],[0],_,_,rfl,rfl,⟨.refl _,⟨.refl _,⟨.refl _,trivial⟩⟩⟩,(.refl _)⟩ ?_
  rintro ⟨⟨k,k_78,i_79,a_80⟩,hc1⟩
  have hc1:laws_markMutS_L1 k k_78 i_79 a_80 = some p96:=hc1
  refine (show awp Tryz.prog ⟨true,true⟩ 1 _ (ofL [(0,(.own 0 0 a_80.length)),(1,(.int .i64 k_78)),(5,(.int .i64 i_79))]) [.row 3 (a_80.map encGMut)] _ from ?_)
  rcases k with _ | k
  ·rw [laws_markMutS_L1.eq_1] at hc1
   cases hc1
  ·rw [laws_markMutS_L1.eq_2] at hc1;refine awp_seq<|sr<|s_mov (.int .i64 i_79) rfl<|s_mov (.own 0 0 a_80.length) rfl<|s_dof (o_lenown rfl rfl) fun hl97 => s_q (.bool (decide (i_79 < (a_80.length:Int)))) rfl (.of rfl trivial) rfl<|dk<|?_
   rcases oi hc1 with ⟨c98,hc1⟩ | ⟨c98,hc1⟩
   ·refine w_condt rfl c98<|w_skip<|k_seq<|awp_seq<|w_blk<|sr<|?_
    obtain ⟨r_99,er100,hc1⟩:=ob hc1
    obtain ⟨g101,hc1⟩:=og hc1
    obtain ⟨x_102,ex103,hc1⟩:=ob hc1
    refine s_mov (.own 0 0 a_80.length) rfl<|s_mov (.int .i64 i_79) rfl<|s_mov (.int .i64 k_78) rfl<|s_do (o_call (w_laws_markText _ _ er100) rfl (.refl _) rfl)<|s_do (o_iaddrown rfl rfl g101.1 g101.2 rfl rfl)<|s_q (.ptr 0 (0 + i_79.toNat) 0) rfl (.of trivial trivial) rfl<|?_;refine s_do0 (o_storerow (v':=(.str r_99)) (e':=(⟨r_99,x_102.Func,x_102.Value⟩:GMut)) rfl rfl ex103 rfl rfl rfl (by decide) (fun _ => by decide) ⟨rfl,nle⟩ (.refl _) rfl) ?_;refine dk<|sr<|s_mov (.int .i64 k_78) rfl<|s_q (.int .i64 (w64 (k_78 + 1))) rfl (.of rfl trivial) rfl<|s_mov (.int .i64 (w64 (k_78 + 1))) rfl<|dk<|sr<|?_
    obtain ⟨g104,hc1⟩:=og hc1
    refine s_mov (.own 0 0 a_80.length) rfl<|s_mov (.int .i64 i_79) rfl<|s_mov (.int .i64 (w64 (k_78 + 1))) rfl<|s_do (o_iaddrown rfl rfl g104.1 g104.2 rfl rfl)<|s_q (.ptr 0 (0 + i_79.toNat) 1) rfl (.of trivial trivial) rfl<|?_;refine s_do0 (o_storerow (v':=(.int .i64 (w64 (k_78 + 1)))) (e':=(⟨r_99,w64 (k_78 + 1),x_102.Value⟩:GMut)) rfl rfl (setget ex103) rfl rfl rfl (by decide) (fun _ => by decide) ⟨rfl,nle⟩ (.refl _) rfl) ?_;refine dk<|sr<|s_mov (.int .i64 (w64 (k_78 + 1))) rfl<|s_q (.int .i64 (w64 ((w64 (k_78 + 1)) + 1))) rfl (.of rfl trivial) rfl<|s_mov (.int .i64 (w64 ((w64 (k_78 + 1)) + 1))) rfl<|dk<|?_;refine w_rev (o:=0) (f:=2) (l':=x_102.Value) (enc':=encGAtom) (el:=(.agg [(.str r_99),(.int .i64 (w64 (k_78 + 1))),(.lst 3 (x_102.Value.map encGAtom))])) rfl (setget (setget ex103)) rfl rfl fun v_106 => ?_
    refine w_reg ?_
    obtain ⟨g107,hc1⟩:=og hc1
    obtain ⟨r_108,er109,hc1⟩:=ob hc1
    refine s_mov (.own 0 0 a_80.length) rfl<|s_mov (.int .i64 i_79) rfl<|s_do (o_iaddrown rfl rfl g107.1 g107.2 rfl rfl)<|s_q (.ptr 0 (0 + i_79.toNat) 2) rfl (.of trivial trivial) rfl<|s_do (o_loadhdr rfl rfl (getset (setget (setget ex103))) nle rfl)<|s_mov (.int .i64 (w64 ((w64 (k_78 + 1)) + 1))) rfl<|s_do (o_callm (o:=0) (l:=((a_80.set (0 + i_79.toNat) (⟨r_99,x_102.Func,x_102.Value⟩:GMut)).set (0 + i_79.toNat) (⟨r_99,w64 (k_78 + 1),x_102.Value⟩:GMut))) (enc:=encGMut) (enc':=encGAtom) (l'':=r_108.2) (y:=(⟨r_99,w64 (k_78 + 1),r_108.2⟩:GMut)) (j:=2) (el:=(.agg [(.str r_99),(.int .i64 (w64 (k_78 + 1))),(.hdr v_106 3 (x_102.Value.map encGAtom))])) rfl rfl (w_laws_markAtomS _ _ _ er109) rfl rfl (setget (setget ex103)) rfl (by decide) rfl)<|?_
    refine s_mov (.int .i64 r_108.1) rfl<|w_done<|k_blk<|k_seq<|w_reg<|s_mov (.int .i64 i_79) rfl<|s_q (.int .i64 (w64 (i_79 + 1))) rfl (.of rfl trivial) rfl<|s_mov (.int .i64 (w64 (i_79 + 1))) rfl<|w_done<|?_;exact k_loopn ⟨(k,r_108.1,w64 (i_79 + 1),((a_80.set (0 + i_79.toNat) (⟨r_99,x_102.Func,x_102.Value⟩:GMut)).set (0 + i_79.toNat) (⟨r_99,w64 (k_78 + 1),x_102.Value⟩:GMut)).set (0 + i_79.toNat) (⟨r_99,w64 (k_78 + 1),r_108.2⟩:GMut)),hc1⟩ (Nat.lt_succ_self _) ⟨[],[0],_,_,rfl,rfl,⟨.of_eq (congrArg (AV.own _ 0) (by simp)),⟨.refl _,⟨.refl _,trivial⟩⟩⟩,(.refl _)⟩
   ·refine w_condf rfl (bf c98)<|w_exit<|k_seqx<|k_loopx<|k_blkx<|?_;obtain rfl:=os hc1;exact ⟨[],[0],_,_,rfl,rfl,⟨.refl _,trivial⟩,(.refl _)⟩
 ·obtain ⟨k_94,l_95⟩:=p96
  refine sr<|s_mov (.int .i64 k_94) rfl<|s_mov (.int .i64 k_94) rfl<|dk<|w_ret<|?_;obtain rfl:=os hf;exact r_heap [] [0] rfl ⟨.of trivial trivial,trivial⟩ rfl (.refl _) (.refl _)

end Go.R
