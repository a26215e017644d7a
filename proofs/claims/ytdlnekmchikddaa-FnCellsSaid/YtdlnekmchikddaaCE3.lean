/- Walks. -/
import Derived.Test.YtdlnekmchikddaaCE2
set_option linter.all false
namespace Go.R
open Go Go.Proofs
set_option linter.unusedVariables false
set_option linter.unusedSimpArgs false
set_option maxHeartbeats 8000000
/- impl.setRow -/
def c44:ACode :=
 (.seq (.reg (tq 3 (.box 4 (.t 0)) (tq 4 (.box 2 (.t 1)) (tq 6 (.box 2 (.c (.agg [(.int .i64 0),.nil]))) (tm 7 (.c (.int .i64 0)) .done)))))
 (.seq (.reg (tq 13 (.load 2 true (.t 4)) (tq 14 (.call 82 [(.t 13)]) (tq 8 (.box 2 (.c (.agg [(.int .i64 0),.nil]))) (.q ⟨none,none,.store 2 (.t 8) (.t 14)⟩
 .done)))))
 (.seq (.seq (.reg (tm 15 (.t 2) (tq 16 (.len (.t 15)) (tm 17 (.c (.int .i64 0)) .done))))
 (.block 0 (.loop (.seq (.reg (tq 18 (.bin .lss (.t 17) (.t 16)) .done))
 (.seq (.cond (.t 18) .skip
 (.exit 0))
 (.seq (.block 1 (.seq (.reg (tq 19 (.iaddr 3 (.t 15) (.t 17)) (tq 20 (.load 3 true (.t 19)) (tq 10 (.box 3 (.c (.agg [(.str []),.nil,.nil]))) (.q ⟨none,none,.store 3 (.t 10) (.t 20)⟩
 .done)))))
 (.seq (.reg (tq 21 (.load 4 true (.t 3)) (tq 22 (.faddr 0 (.t 10)) (tq 23 (.load 1 false (.t 22)) (tq 24 (.call 75 [(.t 21),(.t 23)]) (tm 11 (.t 24) .done))))))
 (.seq (.seq (.reg (tq 25 (.faddr 1 (.t 3)) (tq 26 (.load 1 false (.t 25)) (tm 27 (.t 11) (tq 28 (.iaddr 8 (.t 26) (.t 27)) (tq 29 (.load 8 true (.t 28)) (tq 30 (.faddr 1 (.t 10)) (tq 31 (.load 1 false (.t 30)) (.l ⟨(some 32),none,.call 60 [(.t 29),(.t 31)]⟩ []
 (tm 12 (.t 32) .done) .non)))))))))
 (.seq (.reg (tm 33 (.t 12) (tq 34 (.bin .neq (.t 33) (.c (.int .i64 0))) .done)))
 (.cond (.t 34) (.seq (.reg (tq 35 (.build [(.int .i64 0),.nil] []) (tm 36 (.t 12) (.q ⟨none,none,.store 2 (.t 6) (.t 35)⟩
 (tm 7 (.t 36) .done)))))
 .ret)
 .skip)))
 (.reg (tq 37 (.faddr 1 (.t 8)) (tq 38 (.load 1 false (.t 37)) (tm 39 (.t 11) (tq 40 (.faddr 1 (.t 10)) (tq 41 (.load 1 false (.t 40)) (.l ⟨(some 42),none,.call 83 [(.t 41)]⟩ [⟨(some 38),none,.load 1 false (.t 37)⟩,⟨(some 37),none,.faddr 1 (.t 8)⟩]
 (tq 43 (.iaddr 1 (.t 38) (.t 39)) (.l ⟨none,none,.store 1 (.t 43) (.t 42)⟩ []
 .done .non)) .non)))))))))))
 (.reg (tq 44 (.bin .add (.t 17) (.c (.int .i64 1))) (tm 17 (.t 44) .done)))))))))
 (.cut (.seq (.reg (tq 45 (.load 2 true (.t 8)) (.q ⟨none,none,.store 2 (.t 6) (.t 45)⟩
 (tm 7 (.c (.int .i64 0)) .done))))
 .ret)))))
theorem fc44:fcomp Try.prog Try.f44 = some (c44.erase,[.load 2 true (.t 6),.mov (.t 7)],46):=by kernel_rfl
def impl_setRow_L1 (t_1:GTable):List GSet → (List (List GAtom)) → Option (Fl (GRow × Int) (List (List GAtom)))
  | [],x_40 =>
    some (.go x_40)
  | x_64 :: xs,x_40 =>
    (impl_Table_columnAt t_1 x_64.Column).bind fun r_65 =>
    (idx t_1.Columns r_65).bind fun x_67 =>
    (impl_Column_fits x_67 x_64.Value).bind fun r_69 =>
    if (r_69 != 0) then
    some (.ret ((⟨0,[]⟩:GRow),r_69))
    else
    (slices_Clone_impl_Atom_impl_Atom x_64.Value).bind fun r_72 =>
    if (0:Int) ≤ r_65 ∧ r_65 < (x_40.length:Int) then
    (x_40[(0 + r_65.toNat)]?).bind fun x_75 =>
    impl_setRow_L1 t_1 xs  (x_40.set (0 + r_65.toNat) r_72)
    else none

def impl_setRow (t_1:GTable) (r_2:GRow) (list_3:(List GSet)):Option (GRow × Int) :=
    (impl_copyRow r_2).bind fun r_4 =>
    (impl_setRow_L1 t_1 list_3 r_4.Cells).bind fun q => (match q with
    | .ret r => some r
    | .go x_56 =>
    some ((⟨r_4.Id,x_56⟩:GRow),0))
theorem w_impl_setRow (t_1:GTable) (r_2:GRow) (list_3:(List GSet)) (r:(GRow × Int)) (hf:impl_setRow t_1 r_2 list_3 = some r):CallOK Try.prog 44 .fresh [(encGTable t_1),(encGRow r_2),(.lst 3 (list_3.map encGSet))] (.tup [(encGRow r.1),(.int .i64 r.2)]):=by
 refine CallOK.of_awp mixed Try.func44 fc44 nle ?_;rw [argT_eq];unfold impl_setRow at hf;unfold c44;refine (show awp Try.prog true 0 _ (ofL [(0,(encGTable t_1)),(1,(encGRow r_2)),(2,(.lst 3 (list_3.map encGSet)))]) [] _ from ?_);refine sr<|s_do (o_box (j:=0) (c:=(.agg [(.str t_1.Name),(.lst 8 (t_1.Columns.map encGColumn)),(.lst 1 (t_1.Unique.map encI)),(.bool t_1.Root)])) rfl trivial rfl rfl)<|s_do (o_box (j:=1) (c:=(.agg [(.int .i64 r_2.Id),(.lst 1 (r_2.Cells.map (encL 3 encGAtom)))])) rfl trivial rfl rfl)<|s_do (o_box (j:=2) (c:=(.agg [(.int .i64 0),.nil])) rfl trivial rfl rfl)<|s_mov (.int .i64 0) rfl<|dk<|sr<|?_
 obtain ⟨r_4,er5,hf⟩:=ob hf
 refine s_q (.agg [(.int .i64 r_2.Id),(.lst 1 (r_2.Cells.map (encL 3 encGAtom)))]) rfl nle rfl<|s_do (o_callf (v:=(.agg [(.int .i64 r_4.Id),(.own 3 0 r_4.Cells.length)])) (h':=[.row 1 (r_4.Cells.map (encL 3 encGAtom))]) (w_impl_copyRow _ _ er5) rfl (.refl _) (by simp only [openV,openVs,List.length_map,encGRow_eq,List.nil_append,List.append_nil,List.cons_append];rfl))<|s_do (o_box (j:=4) (c:=(.agg [(.int .i64 0),.nil])) rfl trivial rfl rfl)<|s_do0 (o_storebox (v:=(.agg [(.int .i64 r_4.Id),(.own 3 0 r_4.Cells.length)])) (y':=(.agg [(.int .i64 r_4.Id),(.own 3 0 r_4.Cells.length)])) rfl rfl rfl trivial ⟨rfl,nle⟩ ⟨⟨rfl,trivial⟩,⟨⟨rfl,trivial⟩,trivial⟩⟩ rfl)<|dk<|?_
 refine awp_seq<|sr<|s_mov (.lst 3 (list_3.map encGSet)) rfl<|s_dof (o_len (enc:=encGSet) rfl) fun hl6 => s_mov (.int .i64 0) rfl<|dk<|?_
 obtain ⟨p57,hb1,hf⟩:=ob hf
 refine awp_cutx (X:={q:(List (List GAtom)) // p57 = .go q}) (fun q => ([(6,(.ptr 0 0 0)),(8,(.ptr 1 0 0))],[.box 2 (.agg [(.int .i64 0),.nil]),.box 2 (.agg [(.int .i64 r_4.Id),(.own 2 0 q.1.length)]),.row 1 (q.1.map (encL 3 encGAtom))])) ?_ ?_
 ·refine awp_loop (X:={q:(Nat × (List (List GAtom))) // impl_setRow_L1 t_1 (list_3.drop q.1) q.2 = some p57}) (fun q => ([(3,(.ptr 0 0 0)),(6,(.ptr 1 0 0)),(8,(.ptr 2 0 0)),(15,(.lst 3 (list_3.map encGSet))),(16,(.int .i64 (list_3.length:Int))),(17,(.int .i64 (q.1.1:Int)))],[.box 4 (.agg [(.str t_1.Name),(.lst 8 (t_1.Columns.map encGColumn)),(.lst 1 (t_1.Unique.map encI)),(.bool t_1.Root)]),.box 2 (.agg [(.int .i64 0),.nil]),.box 2 (.agg [(.int .i64 r_4.Id),(.own 3 0 q.1.2.length)]),.row 1 (q.1.2.map (encL 3 encGAtom))])) (fun q => list_3.length - q.1.1) ⟨(0,r_4.Cells),hb1⟩ ⟨[],[0,2,4,3],_,_,rfl,rfl,⟨.refl _,⟨.refl _,⟨.refl _,⟨.refl _,⟨.refl _,⟨.refl _,trivial⟩⟩⟩⟩⟩⟩,(.refl _)⟩ ?_
  rintro ⟨⟨s17_39,x_40⟩,hc1⟩
  have hc1:impl_setRow_L1 t_1 (list_3.drop s17_39) x_40 = some p57:=hc1
  refine (show awp Try.prog true 0 _ (ofL [(3,(.ptr 0 0 0)),(6,(.ptr 1 0 0)),(8,(.ptr 2 0 0)),(15,(.lst 3 (list_3.map encGSet))),(16,(.int .i64 (list_3.length:Int))),(17,(.int .i64 (s17_39:Int)))]) [.box 4 (.agg [(.str t_1.Name),(.lst 8 (t_1.Columns.map encGColumn)),(.lst 1 (t_1.Unique.map encI)),(.bool t_1.Root)]),.box 2 (.agg [(.int .i64 0),.nil]),.box 2 (.agg [(.int .i64 r_4.Id),(.own 3 0 x_40.length)]),.row 1 (x_40.map (encL 3 encGAtom))] _ from ?_)
  rcases dropc list_3 s17_39 with ⟨hie60,hd63⟩ | ⟨hlt58,x_64,hx59,hd63⟩
  ·rw [hd63,impl_setRow_L1.eq_1] at hc1
   have hq62:=dlf hie60
   refine sr<|s_q (.bool (decide ((s17_39:Int) < (list_3.length:Int)))) rfl rfl rfl<|dk<|awp_seq<|w_condf rfl hq62<|w_exit<|k_seqx<|k_loopx<|k_blkx<|?_;obtain rfl:=os hc1;exact k_cutn ⟨_,rfl⟩ ⟨[],[1,2,3],_,_,rfl,rfl,⟨.refl _,⟨.refl _,trivial⟩⟩,(.refl _)⟩
  ·rw [hd63,impl_setRow_L1.eq_2] at hc1
   have hq62:=dlt hlt58
   refine sr<|s_q (.bool (decide ((s17_39:Int) < (list_3.length:Int)))) rfl rfl rfl<|dk<|awp_seq<|w_condt rfl hq62<|w_skip<|k_seq<|awp_seq<|w_blk<|sr<|s_do (o_iaddrn (enc:=encGSet) rfl rfl hx59)<|s_q (encGSet x_64) rfl nle rfl<|s_do (o_box (j:=4) (c:=(.agg [(.str []),.nil,.nil])) rfl trivial rfl rfl)<|s_do0 (o_storebox (v:=(.agg [(.str x_64.Column),(.lst 3 (x_64.Value.map encGAtom)),(.lst 1 (x_64.Names.map AV.str))])) (y':=(.agg [(.str x_64.Column),(.lst 3 (x_64.Value.map encGAtom)),(.lst 1 (x_64.Names.map AV.str))])) rfl rfl rfl trivial ⟨rfl,nle⟩ ⟨⟨rfl,trivial⟩,⟨⟨rfl,trivial⟩,⟨⟨rfl,trivial⟩,trivial⟩⟩⟩ rfl)<|w_done<|?_
   refine k_seq<|sr<|?_
   obtain ⟨r_65,er66,hc1⟩:=ob hc1
   refine s_q (.agg [(.str t_1.Name),(.lst 8 (t_1.Columns.map encGColumn)),(.lst 1 (t_1.Unique.map encI)),(.bool t_1.Root)]) rfl nle rfl<|s_q (.ptr 4 0 0) rfl trivial rfl<|s_q (.str x_64.Column) rfl nle rfl<|s_do (o_call (w_impl_Table_columnAt _ _ _ er66) rfl (.refl _) rfl)<|s_mov (.int .i64 r_65) rfl<|dk<|awp_seq<|sr<|?_
   obtain ⟨x_67,ex68,hc1⟩:=ob hc1
   obtain ⟨r_69,er70,hc1⟩:=ob hc1
   refine s_q (.ptr 0 0 1) rfl trivial rfl<|s_q (.lst 8 (t_1.Columns.map encGColumn)) rfl nle rfl<|s_mov (.int .i64 r_65) rfl<|s_do (o_iaddr (enc:=encGColumn) rfl rfl (idx0 ex68) (idx1 ex68))<|s_q (encGColumn x_67) rfl nle rfl<|s_q (.ptr 4 0 1) rfl trivial rfl<|s_q (.lst 3 (x_64.Value.map encGAtom)) rfl nle rfl<|s_dol (o_call (w_impl_Column_fits _ _ _ er70) rfl (.refl _) rfl) a_same trivial<|s_mov (.int .i64 r_69) rfl<|dk<|sr<|s_mov (.int .i64 r_69) rfl<|s_q (.bool (r_69 != 0)) rfl rfl rfl<|dk<|?_
   rcases oi hc1 with ⟨c71,hc1⟩ | ⟨c71,hc1⟩
   ·refine w_condt rfl c71<|sr<|s_q (.agg [(.int .i64 0),.nil]) rfl trivial rfl<|s_mov (.int .i64 r_69) rfl<|s_do0 (o_storebox (v:=(.agg [(.int .i64 0),.nil])) (y':=(.agg [(.int .i64 0),.nil])) rfl rfl rfl trivial ⟨rfl,nle⟩ ⟨⟨rfl,trivial⟩,⟨⟨rfl,trivial⟩,trivial⟩⟩ rfl)<|s_mov (.int .i64 r_69) rfl<|dk<|w_ret<|?_;obtain rfl:=os hc1;obtain rfl:=os hf;exact r_fresh ⟨nle,⟨trivial,trivial⟩⟩ rfl (by decide) (.tup (.cons (.agg (.cons (.refl _) (.cons (.nil _) .nil))) (.cons (.refl _) .nil)))
   ·refine w_condf rfl (bf c71)<|w_skip<|k_seq<|w_reg<|?_
    obtain ⟨r_72,er73,hc1⟩:=ob hc1
    obtain ⟨g74,hc1⟩:=og hc1
    obtain ⟨x_75,ex76,hc1⟩:=ob hc1
    refine s_q (.ptr 2 0 1) rfl trivial rfl<|s_q (.own 3 0 x_40.length) rfl nle rfl<|s_mov (.int .i64 r_65) rfl<|s_q (.ptr 4 0 1) rfl trivial rfl<|s_q (.lst 3 (x_64.Value.map encGAtom)) rfl nle rfl<|s_dol (o_callf (v:=(.own 5 0 r_72.length)) (h':=[.row 3 (r_72.map encGAtom)]) (w_slices_Clone_impl_Atom_impl_Atom _ _ er73) rfl (.refl _) (by simp only [openV,openVs,List.length_map,List.nil_append,List.append_nil,List.cons_append];rfl)) (.inr ⟨⟨nle,rfl⟩,⟨⟨trivial,rfl⟩,trivial⟩⟩) trivial<|s_do (o_iaddrown rfl rfl g74.1 g74.2 rfl rfl)<|?_
    refine s_dol0 (o_storerow (v':=(.lst 3 (r_72.map encGAtom))) (e':=r_72) rfl rfl ex76 rfl rfl (by first | (simp only [tk,tko,List.take_length];done) | rfl | simp) (by decide) (fun _ => by decide) ⟨rfl,rfl,rfl⟩ (.refl _) rfl) trivial trivial ?_
    refine w_done<|k_blk<|k_seq<|w_reg<|s_q (.int .i64 (w64 ((s17_39:Int) + 1))) rfl rfl rfl<|s_mov (.int .i64 (w64 ((s17_39:Int) + 1))) rfl<|w_done<|?_;exact k_loopn ⟨((s17_39 + 1),x_40.set (0 + r_65.toNat) r_72),hc1⟩ (mul hlt58) ⟨[],[0,1,2,3],_,_,rfl,rfl,⟨.refl _,⟨.refl _,⟨.refl _,⟨.refl _,⟨.refl _,⟨.of_eq (congrArg (AV.int _) (w64_incr hlt58 hl6)),trivial⟩⟩⟩⟩⟩⟩,(.cons (.refl _) (.cons (.refl _) (.cons (.box (.agg (.cons (.refl _) (.cons (.of_eq (congrArg (AV.own _ 0) (by simp))) .nil)))) (.cons (.refl _) .nil))))⟩
 ·rintro ⟨x_56,rfl⟩
  refine sr<|s_q (.agg [(.int .i64 r_4.Id),(.own 2 0 x_56.length)]) rfl nle rfl<|s_do0 (o_storebox (v:=(.agg [(.int .i64 r_4.Id),(.own 2 0 x_56.length)])) (y':=(.agg [(.int .i64 r_4.Id),(.own 2 0 x_56.length)])) rfl rfl rfl trivial ⟨rfl,nle⟩ ⟨⟨rfl,trivial⟩,⟨⟨rfl,trivial⟩,trivial⟩⟩ rfl)<|s_mov (.int .i64 0) rfl<|dk<|w_ret<|?_;obtain rfl:=os hf;exact r_fresh ⟨nle,⟨trivial,trivial⟩⟩ rfl (by decide) (.tup (.cons (.agg (.cons (.refl _) (.cons (.of_eq (congrArg (AV.lst _) (tk (enc:=(encL 3 encGAtom)) x_56))) .nil))) (.cons (.refl _) .nil)))

/- impl.SetRow -/
def c17:ACode :=
 (.seq (.reg (tq 3 (.box 4 (.t 0)) (tq 4 (.box 2 (.t 1)) (tq 6 (.box 2 (.c (.agg [(.int .i64 0),.nil]))) (tm 7 (.c (.int .i64 0)) .done)))))
 (.seq (.reg (tm 10 (.t 2) (tq 11 (.call 39 [(.t 10),(.c (.fn 40 []))]) (tm 8 (.t 11) .done))))
 (.seq (.block 0 (.seq (.reg (tm 13 (.t 2) (tq 14 (.call 41 [(.t 13)]) (tq 15 (.not (.t 14)) (tm 12 (.t 15) .done)))))
 (.cond (.t 12) (.seq (.reg (tq 16 (.build [(.int .i64 0),.nil] []) (.q ⟨none,none,.store 2 (.t 6) (.t 16)⟩
 (tm 7 (.c (.int .i64 2)) .done))))
 .ret)
 (.seq (.reg (tm 18 (.t 2) (tq 19 (.call 42 [(.t 18)]) (tq 20 (.not (.t 19)) (tm 21 (.t 20) (tg 22 21 false (.mov (.t 8)) (tq 23 (.pick (.t 21) (.c (.bool true)) (.t 22)) (tm 24 (.t 23) (tg 25 24 false (.load 4 true (.t 3)) (tg 26 24 false (.load 2 true (.t 4)) (tg 27 24 false (.call 20 [(.t 25),(.t 26)]) (tg 28 24 false (.not (.t 27)) (tq 29 (.pick (.t 24) (.c (.bool true)) (.t 28)) (tm 17 (.t 29) .done))))))))))))))
 (.cut (.cond (.t 17) (.seq (.reg (tq 30 (.build [(.int .i64 0),.nil] []) (.q ⟨none,none,.store 2 (.t 6) (.t 30)⟩
 (tm 7 (.c (.int .i64 1)) .done))))
 .ret)
 .skip))))))
 (.seq (.seq (.reg (tq 31 (.load 4 true (.t 3)) (tm 32 (.t 2) (tq 33 (.call 43 [(.t 31),(.t 32)]) (tm 9 (.t 33) .done)))))
 (.seq (.reg (tm 34 (.t 9) (tq 35 (.bin .neq (.t 34) (.c (.int .i64 0))) .done)))
 (.cond (.t 35) (.seq (.reg (tq 36 (.build [(.int .i64 0),.nil] []) (tm 37 (.t 9) (.q ⟨none,none,.store 2 (.t 6) (.t 36)⟩
 (tm 7 (.t 37) .done)))))
 .ret)
 .skip)))
 (.seq (.reg (tq 38 (.load 4 true (.t 3)) (tq 39 (.load 2 true (.t 4)) (tm 40 (.t 2) (tq 41 (.call 44 [(.t 38),(.t 39),(.t 40)]) (tq 42 (.extract 0 (.t 41)) (tq 43 (.extract 1 (.t 41)) (.q ⟨none,none,.store 2 (.t 6) (.t 42)⟩
 (tm 7 (.t 43) .done)))))))))
 .ret)))))
theorem fc17:fcomp Try.prog Try.f17 = some (c17.erase,[.load 2 true (.t 6),.mov (.t 7)],44):=by kernel_rfl
def impl_SetRow (t_1:GTable) (r_2:GRow) (list_3:(List GSet)):Option (GRow × Int) :=
    (slices_ContainsFunc_impl_Set_impl_Set list_3 impl_SetRow_1).bind fun r_4 =>
    (impl_isList_impl_Set list_3).bind fun r_6 =>
    if (!r_6) then
    some ((⟨0,[]⟩:GRow),2)
    else
    (((impl_setsOK list_3).bind fun r_16 =>
    if (bif (!r_16) then true else r_4) then
    some true
    else
    (impl_RowOK t_1 r_2).bind fun r_19 =>
    some (!r_19):Option Bool)).bind fun s17_14 =>
    if s17_14 then
    some ((⟨0,[]⟩:GRow),1)
    else
    (impl_setsCode t_1 list_3).bind fun r_22 =>
    if (r_22 != 0) then
    some ((⟨0,[]⟩:GRow),r_22)
    else
    (impl_setRow t_1 r_2 list_3).bind fun r_25 =>
    some (r_25.1,r_25.2)
theorem w_impl_SetRow (t_1:GTable) (r_2:GRow) (list_3:(List GSet)) (r:(GRow × Int)) (hf:impl_SetRow t_1 r_2 list_3 = some r):CallOK Try.prog 17 .fresh [(encGTable t_1),(encGRow r_2),(.lst 3 (list_3.map encGSet))] (.tup [(encGRow r.1),(.int .i64 r.2)]):=by
 refine CallOK.of_awp mixed Try.func17 fc17 nle ?_;rw [argT_eq];unfold impl_SetRow at hf;unfold c17;refine (show awp Try.prog true 0 _ (ofL [(0,(encGTable t_1)),(1,(encGRow r_2)),(2,(.lst 3 (list_3.map encGSet)))]) [] _ from ?_);refine sr<|s_do (o_box (j:=0) (c:=(.agg [(.str t_1.Name),(.lst 8 (t_1.Columns.map encGColumn)),(.lst 1 (t_1.Unique.map encI)),(.bool t_1.Root)])) rfl trivial rfl rfl)<|s_do (o_box (j:=1) (c:=(.agg [(.int .i64 r_2.Id),(.lst 1 (r_2.Cells.map (encL 3 encGAtom)))])) rfl trivial rfl rfl)<|s_do (o_box (j:=2) (c:=(.agg [(.int .i64 0),.nil])) rfl trivial rfl rfl)<|s_mov (.int .i64 0) rfl<|dk<|sr<|?_
 obtain ⟨r_4,er5,hf⟩:=ob hf
 refine s_mov (.lst 3 (list_3.map encGSet)) rfl ?_;refine s_do (o_call (w_slices_ContainsFunc_impl_Set_impl_Set _ _ _ er5 40 [] (by kernel_rfl) (fun _ _ => rfl) (fun _ => rfl) (fun a0 r h => w_impl_SetRow_1 a0 r h)) rfl (.refl _) rfl) ?_;refine s_mov (.bool r_4) rfl<|dk<|awp_seq<|w_blk<|sr<|?_
 obtain ⟨r_6,er7,hf⟩:=ob hf
 refine s_mov (.lst 3 (list_3.map encGSet)) rfl<|s_do (o_call (w_impl_isList_impl_Set _ _ er7) rfl (.refl _) rfl)<|s_q (.bool (!r_6)) rfl trivial rfl<|s_mov (.bool (!r_6)) rfl<|dk<|?_
 rcases oi hf with ⟨c8,hf⟩ | ⟨c8,hf⟩
 ·refine w_condt rfl c8<|sr<|s_q (.agg [(.int .i64 0),.nil]) rfl trivial rfl<|s_do0 (o_storebox (v:=(.agg [(.int .i64 0),.nil])) (y':=(.agg [(.int .i64 0),.nil])) rfl rfl rfl trivial ⟨rfl,nle⟩ ⟨⟨rfl,trivial⟩,⟨⟨rfl,trivial⟩,trivial⟩⟩ rfl)<|s_mov (.int .i64 2) rfl<|dk<|w_ret<|?_;obtain rfl:=os hf;exact r_fresh ⟨nle,⟨trivial,trivial⟩⟩ rfl (by decide) (.tup (.cons (.agg (.cons (.refl _) (.cons (.nil _) .nil))) (.cons (.refl _) .nil)))
 ·refine w_condf rfl (bf c8)<|awp_seq<|?_
  obtain ⟨s17_14,hb1,hf⟩:=ob hf
  refine awp_cut ([(2,(.lst 3 (list_3.map encGSet))),(3,(.ptr 0 0 0)),(4,(.ptr 1 0 0)),(6,(.ptr 2 0 0)),(17,(.bool s17_14))],[.box 4 (.agg [(.str t_1.Name),(.lst 8 (t_1.Columns.map encGColumn)),(.lst 1 (t_1.Unique.map encI)),(.bool t_1.Root)]),.box 2 (.agg [(.int .i64 r_2.Id),(.lst 1 (r_2.Cells.map (encL 3 encGAtom)))]),.box 2 (.agg [(.int .i64 0),.nil])]) ?_ ?_
  ·refine w_reg<|s_mov (.lst 3 (list_3.map encGSet)) rfl<|?_
   obtain ⟨r_16,er17,hb1⟩:=ob hb1
   refine s_do (o_call (w_impl_setsOK _ _ er17) rfl (.refl _) rfl)<|s_q (.bool (!r_16)) rfl trivial rfl<|s_mov (.bool (!r_16)) rfl<|?_;refine s_g (v:=(!r_16)) (.bool r_4) rfl (fun hv => by (try simp only [gs_on hv]);exact ⟨rfl,trivial,rfl⟩) ?_;refine s_pick (x:=true) (y:=r_4) rfl (fun hv => by (try simp only [gs_on hv]);rfl) (fun hv => by (try simp only [gs_on hv]);rfl) ?_;refine s_mov (.bool (bif (!r_16) then true else r_4)) rfl ?_
   rcases oi hb1 with ⟨c18,hb1⟩ | ⟨c18,hb1⟩
   ·refine s_lit (s:=24) (b:=true) rfl c18<|s_off rfl rfl<|s_off rfl rfl<|s_off rfl rfl<|s_off rfl rfl<|s_q (.bool true) rfl trivial rfl<|s_mov (.bool true) rfl<|w_done<|?_;obtain rfl:=os hb1;exact ⟨[],[0,1,2],_,_,rfl,rfl,⟨.refl _,⟨.refl _,⟨.refl _,⟨.refl _,⟨.refl _,trivial⟩⟩⟩⟩⟩,(.refl _)⟩
   ·refine s_lit (s:=24) (b:=false) rfl (bf c18)<|s_on rfl<|s_q (.agg [(.str t_1.Name),(.lst 8 (t_1.Columns.map encGColumn)),(.lst 1 (t_1.Unique.map encI)),(.bool t_1.Root)]) rfl nle rfl<|s_on rfl<|s_q (.agg [(.int .i64 r_2.Id),(.lst 1 (r_2.Cells.map (encL 3 encGAtom)))]) rfl nle rfl<|s_on rfl<|?_
    obtain ⟨r_19,er20,hb1⟩:=ob hb1
    refine s_do (o_call (w_impl_RowOK _ _ _ er20) rfl (.refl _) rfl)<|s_on rfl<|s_q (.bool (!r_19)) rfl trivial rfl<|s_q (.bool (!r_19)) rfl trivial rfl<|s_mov (.bool (!r_19)) rfl<|w_done<|?_;obtain rfl:=os hb1;exact ⟨[],[0,1,2],_,_,rfl,rfl,⟨.refl _,⟨.refl _,⟨.refl _,⟨.refl _,⟨.refl _,trivial⟩⟩⟩⟩⟩,(.refl _)⟩
  ·rcases oi hf with ⟨c21,hf⟩ | ⟨c21,hf⟩
   ·refine w_condt rfl c21<|sr<|s_q (.agg [(.int .i64 0),.nil]) rfl trivial rfl<|s_do0 (o_storebox (v:=(.agg [(.int .i64 0),.nil])) (y':=(.agg [(.int .i64 0),.nil])) rfl rfl rfl trivial ⟨rfl,nle⟩ ⟨⟨rfl,trivial⟩,⟨⟨rfl,trivial⟩,trivial⟩⟩ rfl)<|s_mov (.int .i64 1) rfl<|dk<|w_ret<|?_;obtain rfl:=os hf;exact r_fresh ⟨nle,⟨trivial,trivial⟩⟩ rfl (by decide) (.tup (.cons (.agg (.cons (.refl _) (.cons (.nil _) .nil))) (.cons (.refl _) .nil)))
   ·refine w_condf rfl (bf c21)<|w_skip<|k_blk<|k_seq<|awp_seq<|sr<|?_
    obtain ⟨r_22,er23,hf⟩:=ob hf
    refine s_q (.agg [(.str t_1.Name),(.lst 8 (t_1.Columns.map encGColumn)),(.lst 1 (t_1.Unique.map encI)),(.bool t_1.Root)]) rfl nle rfl<|s_mov (.lst 3 (list_3.map encGSet)) rfl<|s_do (o_call (w_impl_setsCode _ _ _ er23) rfl (.refl _) rfl)<|s_mov (.int .i64 r_22) rfl<|dk<|sr<|s_mov (.int .i64 r_22) rfl<|s_q (.bool (r_22 != 0)) rfl rfl rfl<|dk<|?_
    rcases oi hf with ⟨c24,hf⟩ | ⟨c24,hf⟩
    ·refine w_condt rfl c24<|sr<|s_q (.agg [(.int .i64 0),.nil]) rfl trivial rfl<|s_mov (.int .i64 r_22) rfl<|s_do0 (o_storebox (v:=(.agg [(.int .i64 0),.nil])) (y':=(.agg [(.int .i64 0),.nil])) rfl rfl rfl trivial ⟨rfl,nle⟩ ⟨⟨rfl,trivial⟩,⟨⟨rfl,trivial⟩,trivial⟩⟩ rfl)<|s_mov (.int .i64 r_22) rfl<|dk<|w_ret<|?_;obtain rfl:=os hf;exact r_fresh ⟨nle,⟨trivial,trivial⟩⟩ rfl (by decide) (.tup (.cons (.agg (.cons (.refl _) (.cons (.nil _) .nil))) (.cons (.refl _) .nil)))
    ·refine w_condf rfl (bf c24)<|w_skip<|k_seq<|sr<|?_
     obtain ⟨r_25,er26,hf⟩:=ob hf
     refine s_q (.agg [(.str t_1.Name),(.lst 8 (t_1.Columns.map encGColumn)),(.lst 1 (t_1.Unique.map encI)),(.bool t_1.Root)]) rfl nle rfl<|s_q (.agg [(.int .i64 r_2.Id),(.lst 1 (r_2.Cells.map (encL 3 encGAtom)))]) rfl nle rfl<|s_mov (.lst 3 (list_3.map encGSet)) rfl<|s_do (o_callf (v:=(.tup [(.agg [(.int .i64 r_25.1.Id),(.own 3 0 r_25.1.Cells.length)]),(.int .i64 r_25.2)])) (h':=[.row 1 (r_25.1.Cells.map (encL 3 encGAtom))]) (w_impl_setRow _ _ _ _ er26) rfl (.refl _) (by simp only [openV,openVs,List.length_map,encGRow_eq,List.nil_append,List.append_nil,List.cons_append];rfl))<|s_q (.agg [(.int .i64 r_25.1.Id),(.own 3 0 r_25.1.Cells.length)]) rfl nle rfl<|s_q (.int .i64 r_25.2) rfl nle rfl<|?_
     refine s_do0 (o_storebox (v:=(.agg [(.int .i64 r_25.1.Id),(.own 3 0 r_25.1.Cells.length)])) (y':=(.agg [(.int .i64 r_25.1.Id),(.own 3 0 r_25.1.Cells.length)])) rfl rfl rfl trivial ⟨rfl,nle⟩ ⟨⟨rfl,trivial⟩,⟨⟨rfl,trivial⟩,trivial⟩⟩ rfl)<|s_mov (.int .i64 r_25.2) rfl<|dk<|w_ret<|?_;obtain rfl:=os hf;exact r_fresh ⟨nle,⟨trivial,trivial⟩⟩ rfl (by decide) (.tup (.cons (.agg (.cons (.refl _) (.cons (.of_eq (congrArg (AV.lst _) (tk (enc:=(encL 3 encGAtom)) r_25.1.Cells))) .nil))) (.cons (.refl _) .nil)))

/- spec.l00Letter -/
def c136:ACode :=
 (.seq (.reg (tm 2 (.c (.bool false)) .done))
 (.seq (.reg (tm 3 (.t 0) (tq 4 (.bin .geq (.t 3) (.c (.int .u8 97))) (tm 5 (.t 4) (tg 6 5 true (.mov (.t 0)) (tg 7 5 true (.bin .leq (.t 6) (.c (.int .u8 122))) (tq 8 (.pick (.t 5) (.t 7) (.c (.bool false))) (tm 9 (.t 8) (tg 10 9 false (.mov (.t 0)) (tg 11 9 false (.bin .geq (.t 10) (.c (.int .u8 65))) (tg 12 9 false (.mov (.t 11)) (tg 13 12 true (.mov (.t 0)) (tg 14 12 true (.bin .leq (.t 13) (.c (.int .u8 90))) (tg 15 9 false (.pick (.t 12) (.t 14) (.c (.bool false))) (tq 16 (.pick (.t 9) (.c (.bool true)) (.t 15)) (tm 17 (.t 16) (tg 18 17 false (.mov (.t 0)) (tg 19 17 false (.bin .eql (.t 18) (.c (.int .u8 95))) (tq 20 (.pick (.t 17) (.c (.bool true)) (.t 19)) (tm 2 (.t 20) .done))))))))))))))))))))
 .ret))
theorem fc136:fcomp Try.prog Try.f136 = some (c136.erase,[.mov (.t 2)],21):=by kernel_rfl
def spec_l00Letter (c_1:Int):Option Bool :=
    some (bif (bif (bif (decide (c_1 ≥ 97)) then (decide (c_1 ≤ 122)) else false) then true else (bif (decide (c_1 ≥ 65)) then (decide (c_1 ≤ 90)) else false)) then true else (c_1 == 95))
theorem w_spec_l00Letter (c_1:Int) (r:Bool) (hf:spec_l00Letter c_1 = some r):CallOK Try.prog 136 .flat [(.int .u8 c_1)] (.bool r):=by
 refine CallOK.of_awp mixed Try.func136 fc136 nle ?_;rw [argT_eq];unfold spec_l00Letter at hf;unfold c136;refine (show awp Try.prog false 0 _ (ofL [(0,(.int .u8 c_1))]) [] _ from ?_);refine sr<|s_mov (.bool false) rfl<|dk<|sr<|s_mov (.int .u8 c_1) rfl<|s_q (.bool (decide (c_1 ≥ 97))) rfl rfl rfl<|s_mov (.bool (decide (c_1 ≥ 97))) rfl<|?_;refine s_g (v:=(decide (c_1 ≥ 97))) (.int .u8 c_1) rfl (fun hv => by (try simp only [gs_on hv]);exact ⟨rfl,trivial,rfl⟩) ?_;refine s_g (v:=(decide (c_1 ≥ 97))) (.bool (decide (c_1 ≤ 122))) rfl (fun hv => by (try simp only [gs_on hv]);exact ⟨rfl,rfl,rfl⟩) ?_;refine s_pick (x:=(decide (c_1 ≤ 122))) (y:=false) rfl (fun hv => by (try simp only [gs_on hv]);rfl) (fun hv => by (try simp only [gs_on hv]);rfl) ?_
 refine s_mov (.bool (bif (decide (c_1 ≥ 97)) then (decide (c_1 ≤ 122)) else false)) rfl ?_;refine s_g (v:=(bif (decide (c_1 ≥ 97)) then (decide (c_1 ≤ 122)) else false)) (.int .u8 c_1) rfl (fun hv => by (try simp only [gs_on hv]);exact ⟨rfl,trivial,rfl⟩) ?_;refine s_g (v:=(bif (decide (c_1 ≥ 97)) then (decide (c_1 ≤ 122)) else false)) (.bool (decide (c_1 ≥ 65))) rfl (fun hv => by (try simp only [gs_on hv]);exact ⟨rfl,rfl,rfl⟩) ?_;refine s_g (v:=(bif (decide (c_1 ≥ 97)) then (decide (c_1 ≤ 122)) else false)) (.bool (decide (c_1 ≥ 65))) rfl (fun hv => by (try simp only [gs_on hv]);exact ⟨rfl,trivial,rfl⟩) ?_;refine s_gg (v1:=(bif (decide (c_1 ≥ 97)) then (decide (c_1 ≤ 122)) else false)) (b1:=false) (v2:=(decide (c_1 ≥ 65))) (.int .u8 c_1) rfl (fun hv hw => by (try simp only [gs_on hv,gs_on hw]);exact ⟨rfl,trivial,rfl⟩) ?_
 refine s_gg (v1:=(bif (decide (c_1 ≥ 97)) then (decide (c_1 ≤ 122)) else false)) (b1:=false) (v2:=(decide (c_1 ≥ 65))) (.bool (decide (c_1 ≤ 90))) rfl (fun hv hw => by (try simp only [gs_on hv,gs_on hw]);exact ⟨rfl,rfl,rfl⟩) ?_;refine s_gp (v1:=(bif (decide (c_1 ≥ 97)) then (decide (c_1 ≤ 122)) else false)) (b1:=false) (v2:=(decide (c_1 ≥ 65))) (x:=(decide (c_1 ≤ 90))) (y:=false) rfl (fun hv => by (try simp only [gs_on hv]);rfl) (fun hv hw => by (try simp only [gs_on hv,gs_on hw]);rfl) (fun hv hw => by (try simp only [gs_on hv,gs_on hw]);rfl) ?_;refine s_pick (x:=true) (y:=(bif (decide (c_1 ≥ 65)) then (decide (c_1 ≤ 90)) else false)) rfl (fun hv => by (try simp only [gs_on hv]);rfl) (fun hv => by (try simp only [gs_on hv]);rfl) ?_
 refine s_mov (.bool (bif (bif (decide (c_1 ≥ 97)) then (decide (c_1 ≤ 122)) else false) then true else (bif (decide (c_1 ≥ 65)) then (decide (c_1 ≤ 90)) else false))) rfl ?_;refine s_g (v:=(bif (bif (decide (c_1 ≥ 97)) then (decide (c_1 ≤ 122)) else false) then true else (bif (decide (c_1 ≥ 65)) then (decide (c_1 ≤ 90)) else false))) (.int .u8 c_1) rfl (fun hv => by (try simp only [gs_on hv]);exact ⟨rfl,trivial,rfl⟩) ?_;refine s_g (v:=(bif (bif (decide (c_1 ≥ 97)) then (decide (c_1 ≤ 122)) else false) then true else (bif (decide (c_1 ≥ 65)) then (decide (c_1 ≤ 90)) else false))) (.bool (c_1 == 95)) rfl (fun hv => by (try simp only [gs_on hv]);exact ⟨rfl,rfl,rfl⟩) ?_;refine s_pick (x:=true) (y:=(c_1 == 95)) rfl (fun hv => by (try simp only [gs_on hv]);rfl) (fun hv => by (try simp only [gs_on hv]);rfl) ?_
 refine s_mov (.bool (bif (bif (bif (decide (c_1 ≥ 97)) then (decide (c_1 ≤ 122)) else false) then true else (bif (decide (c_1 ≥ 65)) then (decide (c_1 ≤ 90)) else false)) then true else (c_1 == 95))) rfl<|dk<|w_ret<|?_;obtain rfl:=os hf;exact r_flat ⟨trivial,trivial⟩ rfl (.refl _)

/- spec.l00Digit -/
def c137:ACode :=
 (.seq (.reg (tm 2 (.c (.bool false)) .done))
 (.seq (.reg (tm 3 (.t 0) (tq 4 (.bin .geq (.t 3) (.c (.int .u8 48))) (tm 5 (.t 4) (tg 6 5 true (.mov (.t 0)) (tg 7 5 true (.bin .leq (.t 6) (.c (.int .u8 57))) (tq 8 (.pick (.t 5) (.t 7) (.c (.bool false))) (tm 2 (.t 8) .done))))))))
 .ret))
theorem fc137:fcomp Try.prog Try.f137 = some (c137.erase,[.mov (.t 2)],9):=by kernel_rfl
def spec_l00Digit (c_1:Int):Option Bool :=
    if (decide (c_1 ≥ 48)) then
    some (decide (c_1 ≤ 57))
    else
    some false
theorem w_spec_l00Digit (c_1:Int) (r:Bool) (hf:spec_l00Digit c_1 = some r):CallOK Try.prog 137 .flat [(.int .u8 c_1)] (.bool r):=by
 refine CallOK.of_awp mixed Try.func137 fc137 nle ?_;rw [argT_eq];unfold spec_l00Digit at hf;unfold c137;refine (show awp Try.prog false 0 _ (ofL [(0,(.int .u8 c_1))]) [] _ from ?_);refine sr<|s_mov (.bool false) rfl<|dk<|sr<|?_
 rcases oi hf with ⟨c2,hf⟩ | ⟨c2,hf⟩
 ·refine s_mov (.int .u8 c_1) rfl<|s_q (.bool (decide (c_1 ≥ 48))) rfl rfl rfl<|s_mov (.bool (decide (c_1 ≥ 48))) rfl<|s_lit (s:=5) (b:=true) rfl c2<|s_on rfl<|s_mov (.int .u8 c_1) rfl<|s_on rfl<|s_q (.bool (decide (c_1 ≤ 57))) rfl rfl rfl<|s_q (.bool (decide (c_1 ≤ 57))) rfl trivial rfl<|s_mov (.bool (decide (c_1 ≤ 57))) rfl<|dk<|w_ret<|?_;obtain rfl:=os hf;exact r_flat ⟨trivial,trivial⟩ rfl (.refl _)
 ·refine s_mov (.int .u8 c_1) rfl<|s_q (.bool (decide (c_1 ≥ 48))) rfl rfl rfl<|s_mov (.bool (decide (c_1 ≥ 48))) rfl<|s_lit (s:=5) (b:=false) rfl (bf c2)<|s_off rfl rfl<|s_off rfl rfl<|s_q (.bool false) rfl trivial rfl<|s_mov (.bool false) rfl<|dk<|w_ret<|?_;obtain rfl:=os hf;exact r_flat ⟨trivial,trivial⟩ rfl (.refl _)

/- spec.l00Word -/
def c123:ACode :=
 (.seq (.reg (tm 2 (.c (.bool false)) .done))
 (.seq (.seq (.reg (tm 4 (.t 0) (tq 5 (.lenS (.t 4)) (tq 6 (.bin .lss (.t 5) (.c (.int .i64 1))) (tm 7 (.t 6) (tg 8 7 false (.mov (.t 0)) (tg 9 7 false (.lenS (.t 8)) (tg 10 7 false (.bin .gtr (.t 9) (.c (.int .i64 40))) (tq 11 (.pick (.t 7) (.c (.bool true)) (.t 10)) (tm 12 (.t 11) (tg 13 12 false (.mov (.t 0)) (tg 14 12 false (.idxs (.t 13) (.c (.int .i64 0))) (tg 15 12 false (.call 136 [(.t 14)]) (tg 16 12 false (.not (.t 15)) (tq 17 (.pick (.t 12) (.c (.bool true)) (.t 16)) .done)))))))))))))))
 (.cut (.cond (.t 17) (.seq (.reg (tm 2 (.c (.bool false)) .done))
 .ret)
 .skip)))
 (.seq (.seq (.reg (tm 3 (.c (.int .i64 1)) .done))
 (.block 0 (.loop (.seq (.seq (.reg (tm 18 (.t 3) (tm 19 (.t 0) (tq 20 (.lenS (.t 19)) (tq 21 (.bin .lss (.t 18) (.t 20)) .done)))))
 (.cond (.t 21) .skip
 (.exit 0)))
 (.seq (.block 1 (.seq (.reg (tm 24 (.t 0) (tm 25 (.t 3) (tq 26 (.idxs (.t 24) (.t 25)) (tq 27 (.call 136 [(.t 26)]) (tq 28 (.not (.t 27)) (tm 29 (.t 28) (tg 30 29 true (.mov (.t 0)) (tg 31 29 true (.mov (.t 3)) (tg 32 29 true (.idxs (.t 30) (.t 31)) (tg 33 29 true (.call 137 [(.t 32)]) (tg 34 29 true (.not (.t 33)) (tq 35 (.pick (.t 29) (.t 34) (.c (.bool false))) .done)))))))))))))
 (.cut (.cond (.t 35) (.seq (.reg (tm 2 (.c (.bool false)) .done))
 .ret)
 .skip))))
 (.reg (tm 22 (.t 3) (tq 23 (.bin .add (.t 22) (.c (.int .i64 1))) (tm 3 (.t 23) .done)))))))))
 (.cut (.seq (.reg (tm 2 (.c (.bool true)) .done))
 .ret)))))
theorem fc123:fcomp Try.prog Try.f123 = some (c123.erase,[.mov (.t 2)],36):=by kernel_rfl
def spec_l00Word_L1 :List UInt8 → Option (Fl Bool Unit)
  | [] =>
    some (.go ())
  | x_98 :: xs =>
    (((spec_l00Letter (x_98.toNat:Int)).bind fun r_108 =>
    if (!r_108) then
    (spec_l00Digit (x_98.toNat:Int)).bind fun r_111 =>
    some (!r_111)
    else
    some false:Option Bool)).bind fun s35_106 =>
    if s35_106 then
    some (.ret false)
    else
    spec_l00Word_L1 xs 

def spec_l00Word (t_1:Str):Option Bool :=
    ((if (bif (decide ((t_1.length:Int) < 1)) then true else (decide ((t_1.length:Int) > 40))) then
    some true
    else
    (idx t_1 0).bind fun b_14 =>
    (spec_l00Letter (b_14.toNat:Int)).bind fun r_16 =>
    some (!r_16):Option Bool)).bind fun s17_9 =>
    if s17_9 then
    some false
    else
    (spec_l00Word_L1 (t_1.drop 1) ).bind fun q => (match q with
    | .ret r => some r
    | .go _ =>
    some true)
theorem w_spec_l00Word (t_1:Str) (r:Bool) (hf:spec_l00Word t_1 = some r):CallOK Try.prog 123 .flat [(.str t_1)] (.bool r):=by
 refine CallOK.of_awp mixed Try.func123 fc123 nle ?_;rw [argT_eq];unfold spec_l00Word at hf;unfold c123;refine (show awp Try.prog false 0 _ (ofL [(0,(.str t_1))]) [] _ from ?_);refine sr<|s_mov (.bool false) rfl<|dk<|awp_seq<|awp_seq<|?_
 obtain ⟨s17_9,hb1,hf⟩:=ob hf
 refine awp_cut ([(0,(.str t_1)),(17,(.bool s17_9))],[]) ?_ ?_
 ·refine w_reg<|s_mov (.str t_1) rfl<|s_dof (o_lenS rfl) fun hl11 => s_q (.bool (decide ((t_1.length:Int) < 1))) rfl rfl rfl<|s_mov (.bool (decide ((t_1.length:Int) < 1))) rfl<|?_;refine s_g (v:=(decide ((t_1.length:Int) < 1))) (.str t_1) rfl (fun hv => by (try simp only [gs_on hv]);exact ⟨rfl,trivial,rfl⟩) ?_;refine s_g (v:=(decide ((t_1.length:Int) < 1))) (.int .i64 (t_1.length:Int)) rfl (fun hv => by (try simp only [gs_on hv]);exact ⟨rfl,trivial,rfl⟩) ?_;refine s_g (v:=(decide ((t_1.length:Int) < 1))) (.bool (decide ((t_1.length:Int) > 40))) rfl (fun hv => by (try simp only [gs_on hv]);exact ⟨rfl,rfl,rfl⟩) ?_;refine s_pick (x:=true) (y:=(decide ((t_1.length:Int) > 40))) rfl (fun hv => by (try simp only [gs_on hv]);rfl) (fun hv => by (try simp only [gs_on hv]);rfl) ?_
  refine s_mov (.bool (bif (decide ((t_1.length:Int) < 1)) then true else (decide ((t_1.length:Int) > 40)))) rfl ?_
  rcases oi hb1 with ⟨c13,hb1⟩ | ⟨c13,hb1⟩
  ·refine s_lit (s:=12) (b:=true) rfl c13<|s_off rfl rfl<|s_off rfl rfl<|s_off rfl rfl<|s_off rfl rfl<|s_q (.bool true) rfl trivial rfl<|w_done<|?_;obtain rfl:=os hb1;exact ⟨[],[],_,_,rfl,rfl,⟨.refl _,⟨.refl _,trivial⟩⟩,(.refl _)⟩
  ·refine s_lit (s:=12) (b:=false) rfl (bf c13)<|s_on rfl<|s_mov (.str t_1) rfl<|s_on rfl<|?_
   obtain ⟨b_14,eb15,hb1⟩:=ob hb1
   refine s_do (o_idxs rfl rfl (idx0 eb15) (idx1 eb15))<|s_on rfl<|?_
   obtain ⟨r_16,er17,hb1⟩:=ob hb1
   refine s_do (o_call (w_spec_l00Letter _ _ er17) rfl (.refl _) rfl)<|s_on rfl<|s_q (.bool (!r_16)) rfl trivial rfl<|s_q (.bool (!r_16)) rfl trivial rfl<|w_done<|?_;obtain rfl:=os hb1;exact ⟨[],[],_,_,rfl,rfl,⟨.refl _,⟨.refl _,trivial⟩⟩,(.refl _)⟩
 ·rcases oi hf with ⟨c18,hf⟩ | ⟨c18,hf⟩
  ·refine w_condt rfl c18<|sr<|s_mov (.bool false) rfl<|dk<|w_ret<|?_;obtain rfl:=os hf;exact r_flat ⟨trivial,trivial⟩ rfl (.refl _)
  ·refine w_condf rfl (bf c18)<|w_skip<|k_seq<|awp_seq<|sr<|s_mov (.int .i64 1) rfl<|dk<|?_
   obtain ⟨p91,hb1,hf⟩:=ob hf
   refine awp_cutx (X:={q:Unit // p91 = .go q}) (fun q => ([],[])) ?_ ?_
   ·refine awp_loop (X:={q:Nat // spec_l00Word_L1 (t_1.drop q)  = some p91}) (fun q => ([(0,(.str t_1)),(3,(.int .i64 (q.1:Int)))],[])) (fun q => t_1.length - q.1) ⟨1,hb1⟩ ⟨[],[],_,_,rfl,rfl,⟨.refl _,⟨.refl _,trivial⟩⟩,(.refl _)⟩ ?_
    rintro ⟨i_66,hc1⟩
    have hc1:spec_l00Word_L1 (t_1.drop i_66)  = some p91:=hc1
    refine (show awp Try.prog false 0 _ (ofL [(0,(.str t_1)),(3,(.int .i64 (i_66:Int)))]) [] _ from ?_)
    rcases dropc t_1 i_66 with ⟨hie94,hd97⟩ | ⟨hlt92,x_98,hx93,hd97⟩
    ·rw [hd97,spec_l00Word_L1.eq_1] at hc1
     have hq96:=dlf hie94
     refine awp_seq<|sr<|s_mov (.int .i64 (i_66:Int)) rfl<|s_mov (.str t_1) rfl<|s_dof (o_lenS rfl) fun hl99 => s_q (.bool (decide ((i_66:Int) < (t_1.length:Int)))) rfl rfl rfl<|dk<|w_condf rfl hq96<|w_exit<|k_seqx<|k_loopx<|k_blkx<|?_;obtain rfl:=os hc1;exact k_cutn ⟨_,rfl⟩ ⟨[],[],_,_,rfl,rfl,trivial,(.refl _)⟩
    ·rw [hd97,spec_l00Word_L1.eq_2] at hc1
     have hq96:=dlt hlt92
     refine awp_seq<|sr<|s_mov (.int .i64 (i_66:Int)) rfl<|s_mov (.str t_1) rfl<|s_dof (o_lenS rfl) fun hl100 => s_q (.bool (decide ((i_66:Int) < (t_1.length:Int)))) rfl rfl rfl<|dk<|w_condt rfl hq96<|w_skip<|k_seq<|awp_seq<|w_blk<|awp_seq<|?_
     obtain ⟨s35_106,hb2,hc1⟩:=ob hc1
     refine awp_cut ([(0,(.str t_1)),(3,(.int .i64 (i_66:Int))),(35,(.bool s35_106))],[]) ?_ ?_
     ·refine w_reg ?_
      obtain ⟨r_108,er109,hb2⟩:=ob hb2
      rcases oi hb2 with ⟨c110,hb2⟩ | ⟨c110,hb2⟩
      ·obtain ⟨r_111,er112,hb2⟩:=ob hb2
       refine s_mov (.str t_1) rfl<|s_mov (.int .i64 (i_66:Int)) rfl<|s_do (o_idxsn rfl rfl hx93)<|s_do (o_call (w_spec_l00Letter _ _ er109) rfl (.refl _) rfl)<|s_q (.bool (!r_108)) rfl trivial rfl<|s_mov (.bool (!r_108)) rfl<|s_lit (s:=29) (b:=true) rfl c110<|s_on rfl<|s_mov (.str t_1) rfl<|s_on rfl<|s_mov (.int .i64 (i_66:Int)) rfl<|s_on rfl<|s_do (o_idxsn rfl rfl hx93)<|s_on rfl<|s_do (o_call (w_spec_l00Digit _ _ er112) rfl (.refl _) rfl)<|s_on rfl<|s_q (.bool (!r_111)) rfl trivial rfl<|s_q (.bool (!r_111)) rfl trivial rfl<|w_done<|?_;obtain rfl:=os hb2;exact ⟨[],[],_,_,rfl,rfl,⟨.refl _,⟨.refl _,⟨.refl _,trivial⟩⟩⟩,(.refl _)⟩
      ·refine s_mov (.str t_1) rfl<|s_mov (.int .i64 (i_66:Int)) rfl<|s_do (o_idxsn rfl rfl hx93)<|s_do (o_call (w_spec_l00Letter _ _ er109) rfl (.refl _) rfl)<|s_q (.bool (!r_108)) rfl trivial rfl<|s_mov (.bool (!r_108)) rfl<|s_lit (s:=29) (b:=false) rfl (bf c110)<|s_off rfl rfl<|s_off rfl rfl<|s_off rfl rfl<|s_off rfl rfl<|s_off rfl rfl<|s_q (.bool false) rfl trivial rfl<|w_done<|?_;obtain rfl:=os hb2;exact ⟨[],[],_,_,rfl,rfl,⟨.refl _,⟨.refl _,⟨.refl _,trivial⟩⟩⟩,(.refl _)⟩
     ·rcases oi hc1 with ⟨c113,hc1⟩ | ⟨c113,hc1⟩
      ·refine w_condt rfl c113<|sr<|s_mov (.bool false) rfl<|dk<|w_ret<|?_;obtain rfl:=os hc1;obtain rfl:=os hf;exact r_flat ⟨trivial,trivial⟩ rfl (.refl _)
      ·refine w_condf rfl (bf c113)<|w_skip<|k_blk<|k_seq<|w_reg<|s_mov (.int .i64 (i_66:Int)) rfl<|s_q (.int .i64 (w64 ((i_66:Int) + 1))) rfl rfl rfl<|s_mov (.int .i64 (w64 ((i_66:Int) + 1))) rfl<|w_done<|?_;exact k_loopn ⟨(i_66 + 1),hc1⟩ (mul hlt92) ⟨[],[],_,_,rfl,rfl,⟨.refl _,⟨.of_eq (congrArg (AV.int _) (w64_incr hlt92 hl100)),trivial⟩⟩,(.refl _)⟩
   ·rintro ⟨_,rfl⟩
    refine sr<|s_mov (.bool true) rfl<|dk<|w_ret<|?_;obtain rfl:=os hf;exact r_flat ⟨trivial,trivial⟩ rfl (.refl _)

/- spec.NameOK -/
def c111:ACode :=
 (.seq (.reg (tm 2 (.c (.bool false)) .done))
 (.seq (.reg (tm 3 (.t 0) (tq 4 (.call 123 [(.t 3)]) (tm 2 (.t 4) .done))))
 .ret))
theorem fc111:fcomp Try.prog Try.f111 = some (c111.erase,[.mov (.t 2)],5):=by kernel_rfl
def spec_NameOK (t_1:Str):Option Bool :=
    (spec_l00Word t_1).bind fun r_2 =>
    some r_2
theorem w_spec_NameOK (t_1:Str) (r:Bool) (hf:spec_NameOK t_1 = some r):CallOK Try.prog 111 .flat [(.str t_1)] (.bool r):=by
  refine CallOK.of_awp mixed Try.func111 fc111 nle ?_
  rw [argT_eq]
  unfold spec_NameOK at hf
  unfold c111
  refine (show awp Try.prog false 0 _ (ofL [(0,(.str t_1))]) [] _ from ?_)
  refine awp_seq ?_
  refine w_reg ?_
  refine s_do (o_mov (.bool false) rfl) ?_
  refine w_done ?_
  refine k_seq ?_
  refine awp_seq ?_
  refine w_reg ?_
  obtain ⟨r_2,er3,hf⟩:=ob hf
  refine s_do (o_mov (.str t_1) rfl) ?_
  refine s_do (o_call (w_spec_l00Word _ _ er3) rfl (.refl _) rfl) ?_
  refine s_do (o_mov (.bool r_2) rfl) ?_
  refine w_done ?_
  refine k_seq ?_
  refine w_ret ?_
  obtain rfl:=os hf
  exact r_flat ⟨trivial,trivial⟩ rfl (.refl _)

/- spec.l01In -/
def c112:ACode :=
 (.seq (.reg (tm 6 (.c (.bool false)) .done))
 (.seq (.reg (tm 7 (.t 1) (tm 8 (.t 0) (tq 9 (.bin .leq (.t 7) (.t 8)) (tm 10 (.t 9) (tg 11 10 true (.mov (.t 0)) (tg 12 10 true (.mov (.t 2)) (tg 13 10 true (.bin .leq (.t 11) (.t 12)) (tq 14 (.pick (.t 10) (.t 13) (.c (.bool false))) (tm 6 (.t 14) .done))))))))))
 .ret))
theorem fc112:fcomp Try.prog Try.f112 = some (c112.erase,[.mov (.t 6)],15):=by kernel_rfl
def spec_l01In (n_1:Int) (low_2:Int) (high_3:Int):Option Bool :=
    if (decide (low_2 ≤ n_1)) then
    some (decide (n_1 ≤ high_3))
    else
    some false
theorem w_spec_l01In (n_1:Int) (low_2:Int) (high_3:Int) (r:Bool) (hf:spec_l01In n_1 low_2 high_3 = some r):CallOK Try.prog 112 .flat [(.int .i64 n_1),(.int .i64 low_2),(.int .i64 high_3)] (.bool r):=by
 refine CallOK.of_awp mixed Try.func112 fc112 nle ?_;rw [argT_eq];unfold spec_l01In at hf;unfold c112;refine (show awp Try.prog false 0 _ (ofL [(0,(.int .i64 n_1)),(1,(.int .i64 low_2)),(2,(.int .i64 high_3))]) [] _ from ?_);refine sr<|s_mov (.bool false) rfl<|dk<|sr<|?_
 rcases oi hf with ⟨c4,hf⟩ | ⟨c4,hf⟩
 ·refine s_mov (.int .i64 low_2) rfl<|s_mov (.int .i64 n_1) rfl<|s_q (.bool (decide (low_2 ≤ n_1))) rfl rfl rfl<|s_mov (.bool (decide (low_2 ≤ n_1))) rfl<|s_lit (s:=10) (b:=true) rfl c4<|s_on rfl<|s_mov (.int .i64 n_1) rfl<|s_on rfl<|s_mov (.int .i64 high_3) rfl<|s_on rfl<|s_q (.bool (decide (n_1 ≤ high_3))) rfl rfl rfl<|s_q (.bool (decide (n_1 ≤ high_3))) rfl trivial rfl<|s_mov (.bool (decide (n_1 ≤ high_3))) rfl<|dk<|w_ret<|?_;obtain rfl:=os hf;exact r_flat ⟨trivial,trivial⟩ rfl (.refl _)
 ·refine s_mov (.int .i64 low_2) rfl<|s_mov (.int .i64 n_1) rfl<|s_q (.bool (decide (low_2 ≤ n_1))) rfl rfl rfl<|s_mov (.bool (decide (low_2 ≤ n_1))) rfl<|s_lit (s:=10) (b:=false) rfl (bf c4)<|s_off rfl rfl<|s_off rfl rfl<|s_off rfl rfl<|s_q (.bool false) rfl trivial rfl<|s_mov (.bool false) rfl<|dk<|w_ret<|?_;obtain rfl:=os hf;exact r_flat ⟨trivial,trivial⟩ rfl (.refl _)

/- spec.ColumnOK -/
def c113:ACode :=
 (.seq (.reg (tq 1 (.box 8 (.t 0)) (tm 2 (.c (.bool false)) .done)))
 (.seq (.seq (.reg (tq 3 (.faddr 0 (.t 1)) (tq 4 (.load 1 false (.t 3)) (tq 5 (.call 111 [(.t 4)]) (tq 6 (.not (.t 5)) (tm 7 (.t 6) (tg 8 7 false (.faddr 1 (.t 1)) (tg 9 7 false (.load 1 false (.t 8)) (tg 10 7 false (.call 112 [(.t 9),(.c (.int .i64 1)),(.c (.int .i64 4))]) (tg 11 7 false (.not (.t 10)) (tq 12 (.pick (.t 7) (.c (.bool true)) (.t 11)) (tm 13 (.t 12) (tg 14 13 false (.faddr 2 (.t 1)) (tg 15 13 false (.load 1 false (.t 14)) (tg 16 13 false (.call 112 [(.t 15),(.c (.int .i64 0)),(.c (.int .i64 1))]) (tg 17 13 false (.not (.t 16)) (tq 18 (.pick (.t 13) (.c (.bool true)) (.t 17)) (tm 19 (.t 18) (tg 20 19 false (.faddr 3 (.t 1)) (tg 21 19 false (.load 1 false (.t 20)) (tg 22 19 false (.call 112 [(.t 21),(.c (.int .i64 1)),(.c (.int .i64 8))]) (tg 23 19 false (.not (.t 22)) (tq 24 (.pick (.t 19) (.c (.bool true)) (.t 23)) .done)))))))))))))))))))))))
 (.cut (.cond (.t 24) (.seq (.reg (tm 2 (.c (.bool false)) .done))
 .ret)
 .skip)))
 (.seq (.seq (.reg (tq 25 (.faddr 1 (.t 1)) (tq 26 (.load 1 false (.t 25)) (tq 27 (.bin .eql (.t 26) (.c (.int .i64 1))) .done))))
 (.cond (.t 27) (.seq (.reg (tq 28 (.faddr 4 (.t 1)) (tq 29 (.load 1 false (.t 28)) (tq 30 (.faddr 5 (.t 1)) (tq 31 (.load 1 false (.t 30)) (tq 32 (.call 112 [(.t 29),(.c (.int .i64 (-1000000000))),(.t 31)]) (tm 33 (.t 32) (tg 34 33 true (.faddr 5 (.t 1)) (tg 35 33 true (.load 1 false (.t 34)) (tg 36 33 true (.faddr 4 (.t 1)) (tg 37 33 true (.load 1 false (.t 36)) (tg 38 33 true (.call 112 [(.t 35),(.t 37),(.c (.int .i64 1000000000))]) (tq 39 (.pick (.t 33) (.t 38) (.c (.bool false))) (tm 40 (.t 39) (tg 41 40 true (.faddr 6 (.t 1)) (tg 42 40 true (.load 1 false (.t 41)) (tg 43 40 true (.bin .eql (.t 42) (.c (.str []))) (tq 44 (.pick (.t 40) (.t 43) (.c (.bool false))) (tm 45 (.t 44) (tg 46 45 true (.faddr 7 (.t 1)) (tg 47 45 true (.load 1 false (.t 46)) (tg 48 45 true (.not (.t 47)) (tq 49 (.pick (.t 45) (.t 48) (.c (.bool false))) (tm 2 (.t 49) .done))))))))))))))))))))))))
 .ret)
 .skip))
 (.seq (.seq (.reg (tq 50 (.faddr 4 (.t 1)) (tq 51 (.load 1 false (.t 50)) (tq 52 (.bin .neq (.t 51) (.c (.int .i64 0))) (tm 53 (.t 52) (tg 54 53 false (.faddr 5 (.t 1)) (tg 55 53 false (.load 1 false (.t 54)) (tg 56 53 false (.bin .neq (.t 55) (.c (.int .i64 0))) (tq 57 (.pick (.t 53) (.c (.bool true)) (.t 56)) .done)))))))))
 (.cut (.cond (.t 57) (.seq (.reg (tm 2 (.c (.bool false)) .done))
 .ret)
 .skip)))
 (.seq (.seq (.reg (tq 58 (.faddr 1 (.t 1)) (tq 59 (.load 1 false (.t 58)) (tq 60 (.bin .eql (.t 59) (.c (.int .i64 4))) .done))))
 (.cond (.t 60) (.seq (.reg (tq 61 (.faddr 6 (.t 1)) (tq 62 (.load 1 false (.t 61)) (tq 63 (.call 111 [(.t 62)]) (tm 64 (.t 63) (tg 65 64 true (.faddr 2 (.t 1)) (tg 66 64 true (.load 1 false (.t 65)) (tg 67 64 true (.bin .eql (.t 66) (.c (.int .i64 0))) (tq 68 (.pick (.t 64) (.t 67) (.c (.bool false))) (tm 2 (.t 68) .done))))))))))
 .ret)
 .skip))
 (.seq (.reg (tq 69 (.faddr 6 (.t 1)) (tq 70 (.load 1 false (.t 69)) (tq 71 (.bin .eql (.t 70) (.c (.str []))) (tm 72 (.t 71) (tg 73 72 true (.faddr 7 (.t 1)) (tg 74 72 true (.load 1 false (.t 73)) (tg 75 72 true (.not (.t 74)) (tq 76 (.pick (.t 72) (.t 75) (.c (.bool false))) (tm 2 (.t 76) .done))))))))))
 .ret))))))
theorem fc113:fcomp Try.prog Try.f113 = some (c113.erase,[.mov (.t 2)],77):=by kernel_rfl
def spec_ColumnOK (c_1:GColumn):Option Bool :=
    (((spec_NameOK c_1.Name).bind fun r_15 =>
    if (!r_15) then
    some true
    else
    (spec_l01In c_1.Kind 1 4).bind fun r_18 =>
    if (!r_18) then
    some true
    else
    (spec_l01In c_1.Min 0 1).bind fun r_21 =>
    if (!r_21) then
    some true
    else
    (spec_l01In c_1.Max 1 8).bind fun r_24 =>
    some (!r_24):Option Bool)).bind fun s24_13 =>
    if s24_13 then
    some false
    else
    if (c_1.Kind == 1) then
    (spec_l01In c_1.Low (-1000000000) c_1.High).bind fun r_28 =>
    if r_28 then
    (spec_l01In c_1.High c_1.Low 1000000000).bind fun r_31 =>
    some (bif (bif r_31 then (c_1.Ref == []) else false) then (!c_1.Strong) else false)
    else
    some false
    else
    ((if (c_1.Low != 0) then
    some true
    else
    some (c_1.High != 0):Option Bool)).bind fun s57_34 =>
    if s57_34 then
    some false
    else
    if (c_1.Kind == 4) then
    (spec_NameOK c_1.Ref).bind fun r_39 =>
    if r_39 then
    some (c_1.Min == 0)
    else
    some false
    else
    if (c_1.Ref == []) then
    some (!c_1.Strong)
    else
    some false
theorem w_spec_ColumnOK (c_1:GColumn) (r:Bool) (hf:spec_ColumnOK c_1 = some r):CallOK Try.prog 113 .flat [(encGColumn c_1)] (.bool r):=by
 refine CallOK.of_awp mixed Try.func113 fc113 nle ?_;rw [argT_eq];unfold spec_ColumnOK at hf;unfold c113;refine (show awp Try.prog false 0 _ (ofL [(0,(encGColumn c_1))]) [] _ from ?_);refine sr<|s_do (o_box (j:=0) (c:=(.agg [(.str c_1.Name),(.int .i64 c_1.Kind),(.int .i64 c_1.Min),(.int .i64 c_1.Max),(.int .i64 c_1.Low),(.int .i64 c_1.High),(.str c_1.Ref),(.bool c_1.Strong)])) rfl trivial rfl rfl)<|s_mov (.bool false) rfl<|dk<|awp_seq<|awp_seq<|?_
 obtain ⟨s24_13,hb1,hf⟩:=ob hf
 refine awp_cut ([(1,(.ptr 0 0 0)),(24,(.bool s24_13))],[.box 8 (.agg [(.str c_1.Name),(.int .i64 c_1.Kind),(.int .i64 c_1.Min),(.int .i64 c_1.Max),(.int .i64 c_1.Low),(.int .i64 c_1.High),(.str c_1.Ref),(.bool c_1.Strong)])]) ?_ ?_
 ·refine w_reg<|s_q (.ptr 0 0 0) rfl trivial rfl<|s_q (.str c_1.Name) rfl nle rfl<|?_
  obtain ⟨r_15,er16,hb1⟩:=ob hb1
  refine s_do (o_call (w_spec_NameOK _ _ er16) rfl (.refl _) rfl)<|s_q (.bool (!r_15)) rfl trivial rfl<|s_mov (.bool (!r_15)) rfl<|?_
  rcases oi hb1 with ⟨c17,hb1⟩ | ⟨c17,hb1⟩
  ·refine s_lit (s:=7) (b:=true) rfl c17<|s_off rfl rfl<|s_off rfl rfl<|s_off rfl rfl<|s_off rfl rfl<|s_q (.bool true) rfl trivial rfl<|s_mov (.bool true) rfl<|s_off rfl rfl<|s_off rfl rfl<|s_off rfl rfl<|s_off rfl rfl<|s_q (.bool true) rfl trivial rfl<|s_mov (.bool true) rfl<|s_off rfl rfl<|s_off rfl rfl<|s_off rfl rfl<|s_off rfl rfl<|s_q (.bool true) rfl trivial rfl<|w_done<|?_;obtain rfl:=os hb1;exact ⟨[],[0],_,_,rfl,rfl,⟨.refl _,⟨.refl _,trivial⟩⟩,(.refl _)⟩
  ·refine s_lit (s:=7) (b:=false) rfl (bf c17)<|s_on rfl<|s_q (.ptr 0 0 1) rfl trivial rfl<|s_on rfl<|s_q (.int .i64 c_1.Kind) rfl nle rfl<|s_on rfl<|?_
   obtain ⟨r_18,er19,hb1⟩:=ob hb1
   refine s_do (o_call (w_spec_l01In _ _ _ _ er19) rfl (.refl _) rfl)<|s_on rfl<|s_q (.bool (!r_18)) rfl trivial rfl<|s_q (.bool (!r_18)) rfl trivial rfl<|s_mov (.bool (!r_18)) rfl<|?_
   rcases oi hb1 with ⟨c20,hb1⟩ | ⟨c20,hb1⟩
   ·refine s_lit (s:=13) (b:=true) rfl c20<|s_off rfl rfl<|s_off rfl rfl<|s_off rfl rfl<|s_off rfl rfl<|s_q (.bool true) rfl trivial rfl<|s_mov (.bool true) rfl<|s_off rfl rfl<|s_off rfl rfl<|s_off rfl rfl<|s_off rfl rfl<|s_q (.bool true) rfl trivial rfl<|w_done<|?_;obtain rfl:=os hb1;exact ⟨[],[0],_,_,rfl,rfl,⟨.refl _,⟨.refl _,trivial⟩⟩,(.refl _)⟩
   ·refine s_lit (s:=13) (b:=false) rfl (bf c20)<|s_on rfl<|s_q (.ptr 0 0 2) rfl trivial rfl<|s_on rfl<|s_q (.int .i64 c_1.Min) rfl nle rfl<|s_on rfl<|?_
    obtain ⟨r_21,er22,hb1⟩:=ob hb1
    refine s_do (o_call (w_spec_l01In _ _ _ _ er22) rfl (.refl _) rfl)<|s_on rfl<|s_q (.bool (!r_21)) rfl trivial rfl<|s_q (.bool (!r_21)) rfl trivial rfl<|s_mov (.bool (!r_21)) rfl<|?_
    rcases oi hb1 with ⟨c23,hb1⟩ | ⟨c23,hb1⟩
    ·refine s_lit (s:=19) (b:=true) rfl c23<|s_off rfl rfl<|s_off rfl rfl<|s_off rfl rfl<|s_off rfl rfl<|s_q (.bool true) rfl trivial rfl<|w_done<|?_;obtain rfl:=os hb1;exact ⟨[],[0],_,_,rfl,rfl,⟨.refl _,⟨.refl _,trivial⟩⟩,(.refl _)⟩
    ·refine s_lit (s:=19) (b:=false) rfl (bf c23)<|s_on rfl<|s_q (.ptr 0 0 3) rfl trivial rfl<|s_on rfl<|s_q (.int .i64 c_1.Max) rfl nle rfl<|s_on rfl<|?_
     obtain ⟨r_24,er25,hb1⟩:=ob hb1
     refine s_do (o_call (w_spec_l01In _ _ _ _ er25) rfl (.refl _) rfl)<|s_on rfl<|s_q (.bool (!r_24)) rfl trivial rfl<|s_q (.bool (!r_24)) rfl trivial rfl<|w_done<|?_;obtain rfl:=os hb1;exact ⟨[],[0],_,_,rfl,rfl,⟨.refl _,⟨.refl _,trivial⟩⟩,(.refl _)⟩
 ·rcases oi hf with ⟨c26,hf⟩ | ⟨c26,hf⟩
  ·refine w_condt rfl c26<|sr<|s_mov (.bool false) rfl<|dk<|w_ret<|?_;obtain rfl:=os hf;exact r_flat ⟨trivial,trivial⟩ rfl (.refl _)
  ·refine w_condf rfl (bf c26)<|w_skip<|k_seq<|awp_seq<|sr<|s_q (.ptr 0 0 1) rfl trivial rfl<|s_q (.int .i64 c_1.Kind) rfl nle rfl<|s_q (.bool (c_1.Kind == 1)) rfl rfl rfl<|dk<|?_
   rcases oi hf with ⟨c27,hf⟩ | ⟨c27,hf⟩
   ·refine w_condt rfl c27<|sr<|s_q (.ptr 0 0 4) rfl trivial rfl<|s_q (.int .i64 c_1.Low) rfl nle rfl<|s_q (.ptr 0 0 5) rfl trivial rfl<|s_q (.int .i64 c_1.High) rfl nle rfl<|?_
    obtain ⟨r_28,er29,hf⟩:=ob hf
    refine s_do (o_call (w_spec_l01In _ _ _ _ er29) rfl (.refl _) rfl)<|s_mov (.bool r_28) rfl<|?_
    rcases oi hf with ⟨c30,hf⟩ | ⟨c30,hf⟩
    ·refine s_lit (s:=33) (b:=true) rfl c30<|s_on rfl<|s_q (.ptr 0 0 5) rfl trivial rfl<|s_on rfl<|s_q (.int .i64 c_1.High) rfl nle rfl<|s_on rfl<|s_q (.ptr 0 0 4) rfl trivial rfl<|s_on rfl<|s_q (.int .i64 c_1.Low) rfl nle rfl<|s_on rfl<|?_
     obtain ⟨r_31,er32,hf⟩:=ob hf
     refine s_do (o_call (w_spec_l01In _ _ _ _ er32) rfl (.refl _) rfl)<|s_q (.bool r_31) rfl trivial rfl<|s_mov (.bool r_31) rfl<|?_;refine s_g (v:=r_31) (.ptr 0 0 6) rfl (fun hv => by (try simp only [gs_on hv]);exact ⟨rfl,trivial,rfl⟩) ?_;refine s_g (v:=r_31) (.str c_1.Ref) rfl (fun hv => by (try simp only [gs_on hv]);exact ⟨rfl,nle,rfl⟩) ?_;refine s_g (v:=r_31) (.bool (c_1.Ref == [])) rfl (fun hv => by (try simp only [gs_on hv]);exact ⟨rfl,trivial,rfl⟩) ?_;refine s_pick (x:=(c_1.Ref == [])) (y:=false) rfl (fun hv => by (try simp only [gs_on hv]);rfl) (fun hv => by (try simp only [gs_on hv]);rfl) ?_;refine s_mov (.bool (bif r_31 then (c_1.Ref == []) else false)) rfl ?_;refine s_g (v:=(bif r_31 then (c_1.Ref == []) else false)) (.ptr 0 0 7) rfl (fun hv => by (try simp only [gs_on hv]);exact ⟨rfl,trivial,rfl⟩) ?_
     refine s_g (v:=(bif r_31 then (c_1.Ref == []) else false)) (.bool c_1.Strong) rfl (fun hv => by (try simp only [gs_on hv]);exact ⟨rfl,nle,rfl⟩) ?_;refine s_g (v:=(bif r_31 then (c_1.Ref == []) else false)) (.bool (!c_1.Strong)) rfl (fun hv => by (try simp only [gs_on hv]);exact ⟨rfl,trivial,rfl⟩) ?_;refine s_pick (x:=(!c_1.Strong)) (y:=false) rfl (fun hv => by (try simp only [gs_on hv]);rfl) (fun hv => by (try simp only [gs_on hv]);rfl) ?_;refine s_mov (.bool (bif (bif r_31 then (c_1.Ref == []) else false) then (!c_1.Strong) else false)) rfl<|dk<|w_ret<|?_;obtain rfl:=os hf;exact r_flat ⟨trivial,trivial⟩ rfl (.refl _)
    ·refine s_lit (s:=33) (b:=false) rfl (bf c30)<|s_off rfl rfl<|s_off rfl rfl<|s_off rfl rfl<|s_off rfl rfl<|s_off rfl rfl<|s_q (.bool false) rfl trivial rfl<|s_mov (.bool false) rfl<|s_off rfl rfl<|s_off rfl rfl<|s_off rfl rfl<|s_q (.bool false) rfl trivial rfl<|s_mov (.bool false) rfl<|s_off rfl rfl<|s_off rfl rfl<|s_off rfl rfl<|s_q (.bool false) rfl trivial rfl<|s_mov (.bool false) rfl<|dk<|w_ret<|?_;obtain rfl:=os hf;exact r_flat ⟨trivial,trivial⟩ rfl (.refl _)
   ·refine w_condf rfl (bf c27)<|w_skip<|k_seq<|awp_seq<|awp_seq<|?_
    obtain ⟨s57_34,hb1,hf⟩:=ob hf
    refine awp_cut ([(1,(.ptr 0 0 0)),(57,(.bool s57_34))],[.box 8 (.agg [(.str c_1.Name),(.int .i64 c_1.Kind),(.int .i64 c_1.Min),(.int .i64 c_1.Max),(.int .i64 c_1.Low),(.int .i64 c_1.High),(.str c_1.Ref),(.bool c_1.Strong)])]) ?_ ?_
    ·refine w_reg ?_
     rcases oi hb1 with ⟨c36,hb1⟩ | ⟨c36,hb1⟩
     ·refine s_q (.ptr 0 0 4) rfl trivial rfl<|s_q (.int .i64 c_1.Low) rfl nle rfl<|s_q (.bool (c_1.Low != 0)) rfl rfl rfl<|s_mov (.bool (c_1.Low != 0)) rfl<|s_lit (s:=53) (b:=true) rfl c36<|s_off rfl rfl<|s_off rfl rfl<|s_off rfl rfl<|s_q (.bool true) rfl trivial rfl<|w_done<|?_;obtain rfl:=os hb1;exact ⟨[],[0],_,_,rfl,rfl,⟨.refl _,⟨.refl _,trivial⟩⟩,(.refl _)⟩
     ·refine s_q (.ptr 0 0 4) rfl trivial rfl<|s_q (.int .i64 c_1.Low) rfl nle rfl<|s_q (.bool (c_1.Low != 0)) rfl rfl rfl<|s_mov (.bool (c_1.Low != 0)) rfl<|s_lit (s:=53) (b:=false) rfl (bf c36)<|s_on rfl<|s_q (.ptr 0 0 5) rfl trivial rfl<|s_on rfl<|s_q (.int .i64 c_1.High) rfl nle rfl<|s_on rfl<|s_q (.bool (c_1.High != 0)) rfl rfl rfl<|s_q (.bool (c_1.High != 0)) rfl trivial rfl<|w_done<|?_;obtain rfl:=os hb1;exact ⟨[],[0],_,_,rfl,rfl,⟨.refl _,⟨.refl _,trivial⟩⟩,(.refl _)⟩
    ·rcases oi hf with ⟨c37,hf⟩ | ⟨c37,hf⟩
     ·refine w_condt rfl c37<|sr<|s_mov (.bool false) rfl<|dk<|w_ret<|?_;obtain rfl:=os hf;exact r_flat ⟨trivial,trivial⟩ rfl (.refl _)
     ·refine w_condf rfl (bf c37)<|w_skip<|k_seq<|awp_seq<|sr<|s_q (.ptr 0 0 1) rfl trivial rfl<|s_q (.int .i64 c_1.Kind) rfl nle rfl<|s_q (.bool (c_1.Kind == 4)) rfl rfl rfl<|dk<|?_
      rcases oi hf with ⟨c38,hf⟩ | ⟨c38,hf⟩
      ·refine w_condt rfl c38<|sr<|?_
       obtain ⟨r_39,er40,hf⟩:=ob hf
       rcases oi hf with ⟨c41,hf⟩ | ⟨c41,hf⟩
       ·refine s_q (.ptr 0 0 6) rfl trivial rfl<|s_q (.str c_1.Ref) rfl nle rfl<|s_do (o_call (w_spec_NameOK _ _ er40) rfl (.refl _) rfl)<|s_mov (.bool r_39) rfl<|s_lit (s:=64) (b:=true) rfl c41<|s_on rfl<|s_q (.ptr 0 0 2) rfl trivial rfl<|s_on rfl<|s_q (.int .i64 c_1.Min) rfl nle rfl<|s_on rfl<|s_q (.bool (c_1.Min == 0)) rfl rfl rfl<|s_q (.bool (c_1.Min == 0)) rfl trivial rfl<|s_mov (.bool (c_1.Min == 0)) rfl<|dk<|w_ret<|?_;obtain rfl:=os hf;exact r_flat ⟨trivial,trivial⟩ rfl (.refl _)
       ·refine s_q (.ptr 0 0 6) rfl trivial rfl<|s_q (.str c_1.Ref) rfl nle rfl<|s_do (o_call (w_spec_NameOK _ _ er40) rfl (.refl _) rfl)<|s_mov (.bool r_39) rfl<|s_lit (s:=64) (b:=false) rfl (bf c41)<|s_off rfl rfl<|s_off rfl rfl<|s_off rfl rfl<|s_q (.bool false) rfl trivial rfl<|s_mov (.bool false) rfl<|dk<|w_ret<|?_;obtain rfl:=os hf;exact r_flat ⟨trivial,trivial⟩ rfl (.refl _)
      ·refine w_condf rfl (bf c38)<|w_skip<|k_seq<|sr<|?_
       rcases oi hf with ⟨c42,hf⟩ | ⟨c42,hf⟩
       ·refine s_q (.ptr 0 0 6) rfl trivial rfl<|s_q (.str c_1.Ref) rfl nle rfl<|s_q (.bool (c_1.Ref == [])) rfl trivial rfl<|s_mov (.bool (c_1.Ref == [])) rfl<|s_lit (s:=72) (b:=true) rfl c42<|s_on rfl<|s_q (.ptr 0 0 7) rfl trivial rfl<|s_on rfl<|s_q (.bool c_1.Strong) rfl nle rfl<|s_on rfl<|s_q (.bool (!c_1.Strong)) rfl trivial rfl<|s_q (.bool (!c_1.Strong)) rfl trivial rfl<|s_mov (.bool (!c_1.Strong)) rfl<|dk<|w_ret<|?_;obtain rfl:=os hf;exact r_flat ⟨trivial,trivial⟩ rfl (.refl _)
       ·refine s_q (.ptr 0 0 6) rfl trivial rfl<|s_q (.str c_1.Ref) rfl nle rfl<|s_q (.bool (c_1.Ref == [])) rfl trivial rfl<|s_mov (.bool (c_1.Ref == [])) rfl<|s_lit (s:=72) (b:=false) rfl (bf c42)<|s_off rfl rfl<|s_off rfl rfl<|s_off rfl rfl<|s_q (.bool false) rfl trivial rfl<|s_mov (.bool false) rfl<|dk<|w_ret<|?_;obtain rfl:=os hf;exact r_flat ⟨trivial,trivial⟩ rfl (.refl _)

/- spec.l04Table -/
def c84:ACode :=
 (.seq (.reg (tq 1 (.box 4 (.t 0)) (tm 2 (.c (.bool false)) .done)))
 (.seq (.seq (.reg (tq 6 (.faddr 0 (.t 1)) (tq 7 (.load 1 false (.t 6)) (tq 8 (.call 111 [(.t 7)]) (tq 9 (.not (.t 8)) (tm 10 (.t 9) (tg 11 10 false (.faddr 1 (.t 1)) (tg 12 10 false (.load 1 false (.t 11)) (tg 13 10 false (.len (.t 12)) (tg 14 10 false (.call 112 [(.t 13),(.c (.int .i64 1)),(.c (.int .i64 6))]) (tg 15 10 false (.not (.t 14)) (tq 16 (.pick (.t 10) (.c (.bool true)) (.t 15)) (tm 17 (.t 16) (tg 18 17 false (.faddr 2 (.t 1)) (tg 19 17 false (.load 1 false (.t 18)) (tg 20 17 false (.len (.t 19)) (tg 21 17 false (.bin .gtr (.t 20) (.c (.int .i64 6))) (tq 22 (.pick (.t 17) (.c (.bool true)) (.t 21)) .done))))))))))))))))))
 (.cut (.cond (.t 22) (.seq (.reg (tm 2 (.c (.bool false)) .done))
 .ret)
 .skip)))
 (.seq (.seq (.reg (tm 3 (.c (.int .i64 0)) .done))
 (.block 0 (.loop (.seq (.seq (.reg (tm 23 (.t 3) (tq 24 (.faddr 1 (.t 1)) (tq 25 (.load 1 false (.t 24)) (tq 26 (.len (.t 25)) (tq 27 (.bin .lss (.t 23) (.t 26)) .done))))))
 (.cond (.t 27) .skip
 (.exit 0)))
 (.seq (.block 1 (.seq (.seq (.reg (tq 30 (.faddr 1 (.t 1)) (tq 31 (.load 1 false (.t 30)) (tm 32 (.t 3) (tq 33 (.iaddr 8 (.t 31) (.t 32)) (tq 34 (.load 8 true (.t 33)) (tq 35 (.call 113 [(.t 34)]) (tq 36 (.not (.t 35)) .done))))))))
 (.cond (.t 36) (.seq (.reg (tm 2 (.c (.bool false)) .done))
 .ret)
 .skip))
 (.seq (.reg (tm 4 (.c (.int .i64 0)) .done))
 (.block 2 (.loop (.seq (.seq (.reg (tm 37 (.t 4) (tm 38 (.t 3) (tq 39 (.bin .lss (.t 37) (.t 38)) .done))))
 (.cond (.t 39) .skip
 (.exit 2)))
 (.seq (.block 3 (.seq (.reg (tq 42 (.faddr 1 (.t 1)) (tq 43 (.load 1 false (.t 42)) (tm 44 (.t 4) (tq 45 (.iaddr 8 (.t 43) (.t 44)) (tq 46 (.faddr 0 (.t 45)) (tq 47 (.load 1 false (.t 46)) (tq 48 (.faddr 1 (.t 1)) (tq 49 (.load 1 false (.t 48)) (tm 50 (.t 3) (tq 51 (.iaddr 8 (.t 49) (.t 50)) (tq 52 (.faddr 0 (.t 51)) (tq 53 (.load 1 false (.t 52)) (tq 54 (.bin .eql (.t 47) (.t 53)) .done))))))))))))))
 (.cond (.t 54) (.seq (.reg (tm 2 (.c (.bool false)) .done))
 .ret)
 .skip)))
 (.reg (tm 40 (.t 4) (tq 41 (.bin .add (.t 40) (.c (.int .i64 1))) (tm 4 (.t 41) .done)))))))))))
 (.cut (.reg (tm 28 (.t 3) (tq 29 (.bin .add (.t 28) (.c (.int .i64 1))) (tm 3 (.t 29) .done))))))))))
 (.cut (.seq (.seq (.reg (tm 5 (.c (.int .i64 0)) .done))
 (.block 4 (.loop (.seq (.seq (.reg (tm 55 (.t 5) (tq 56 (.faddr 2 (.t 1)) (tq 57 (.load 1 false (.t 56)) (tq 58 (.len (.t 57)) (tq 59 (.bin .lss (.t 55) (.t 58)) .done))))))
 (.cond (.t 59) .skip
 (.exit 4)))
 (.seq (.block 5 (.seq (.reg (tq 62 (.faddr 2 (.t 1)) (tq 63 (.load 1 false (.t 62)) (tm 64 (.t 5) (tq 65 (.iaddr 1 (.t 63) (.t 64)) (tq 66 (.load 1 false (.t 65)) (tq 67 (.faddr 1 (.t 1)) (tq 68 (.load 1 false (.t 67)) (tq 69 (.len (.t 68)) (tq 70 (.bin .sub (.t 69) (.c (.int .i64 1))) (.l ⟨(some 71),none,.call 112 [(.t 66),(.c (.int .i64 0)),(.t 70)]⟩ []
 (tq 72 (.not (.t 71)) (tm 73 (.t 72) (tg 74 73 false (.mov (.t 5)) (tg 75 73 false (.bin .gtr (.t 74) (.c (.int .i64 0))) (tg 76 73 false (.mov (.t 75)) (tg 77 76 true (.faddr 2 (.t 1)) (tg 78 76 true (.load 1 false (.t 77)) (tg 79 76 true (.mov (.t 5)) (tg 80 76 true (.bin .sub (.t 79) (.c (.int .i64 1))) (tg 81 76 true (.iaddr 1 (.t 78) (.t 80)) (tg 82 76 true (.load 1 false (.t 81)) (tg 83 76 true (.faddr 2 (.t 1)) (tg 84 76 true (.load 1 false (.t 83)) (tg 85 76 true (.mov (.t 5)) (tg 86 76 true (.iaddr 1 (.t 84) (.t 85)) (tg 87 76 true (.load 1 false (.t 86)) (tg 88 76 true (.bin .geq (.t 82) (.t 87)) (tg 89 73 false (.pick (.t 76) (.t 88) (.c (.bool false))) (tq 90 (.pick (.t 73) (.c (.bool true)) (.t 89)) .done))))))))))))))))))) .non)))))))))))
 (.cut (.cond (.t 90) (.seq (.reg (tm 2 (.c (.bool false)) .done))
 .ret)
 .skip))))
 (.reg (tm 60 (.t 5) (tq 61 (.bin .add (.t 60) (.c (.int .i64 1))) (tm 5 (.t 61) .done)))))))))
 (.cut (.seq (.reg (tm 2 (.c (.bool true)) .done))
 .ret)))))))
theorem fc84:fcomp Try.prog Try.f84 = some (c84.erase,[.mov (.t 2)],91):=by kernel_rfl
def spec_l04Table_L2 (i_130:Nat) (t_1:GTable) (x_193:GColumn):Nat → Int → Option (Fl Bool Unit)
  | 0,_ => none
  | k + 1,k_222 =>
    if (decide (k_222 < (i_130:Int))) then
    (idx t_1.Columns k_222).bind fun x_229 =>
    if (x_229.Name == x_193.Name) then
    some (.ret false)
    else
    spec_l04Table_L2 i_130 t_1 x_193 k (w64 (k_222 + 1))
    else
    some (.go ())

def spec_l04Table_L1 (t_1:GTable):List GColumn → Nat → Option (Fl Bool Unit)
  | [],i_130 =>
    some (.go ())
  | x_193 :: xs,i_130 =>
    (spec_ColumnOK x_193).bind fun r_196 =>
    if (!r_196) then
    some (.ret false)
    else
    (spec_l04Table_L2 i_130 t_1 x_193 FUEL 0).bind fun q => (match q with
    | .ret r => some (.ret r)
    | .go _ =>
    spec_l04Table_L1 t_1 xs (i_130 + 1))

def spec_l04Table_L3 (t_1:GTable):List Int → Nat → Option (Fl Bool Unit)
  | [],i_287 =>
    some (.go ())
  | x_323 :: xs,i_287 =>
    (((spec_l01In x_323 0 (w64 ((t_1.Columns.length:Int) - 1))).bind fun r_336 =>
    if (!r_336) then
    some true
    else
    if (decide ((i_287:Int) > 0)) then
    (idx t_1.Unique (w64 ((i_287:Int) - 1))).bind fun x_340 =>
    some (decide (x_340 ≥ x_323))
    else
    some false:Option Bool)).bind fun s90_333 =>
    if s90_333 then
    some (.ret false)
    else
    spec_l04Table_L3 t_1 xs (i_287 + 1)

def spec_l04Table (t_1:GTable):Option Bool :=
    (((spec_NameOK t_1.Name).bind fun r_12 =>
    if (!r_12) then
    some true
    else
    (spec_l01In (t_1.Columns.length:Int) 1 6).bind fun r_17 =>
    some (bif (!r_17) then true else (decide ((t_1.Unique.length:Int) > 6))):Option Bool)).bind fun s22_10 =>
    if s22_10 then
    some false
    else
    (spec_l04Table_L1 t_1 t_1.Columns 0).bind fun q => (match q with
    | .ret r => some r
    | .go _ =>
    (spec_l04Table_L3 t_1 t_1.Unique 0).bind fun q => (match q with
    | .ret r => some r
    | .go _ =>
    some true))
theorem w_spec_l04Table (t_1:GTable) (r:Bool) (hf:spec_l04Table t_1 = some r):CallOK Try.prog 84 .flat [(encGTable t_1)] (.bool r):=by
 refine CallOK.of_awp mixed Try.func84 fc84 nle ?_;rw [argT_eq];unfold spec_l04Table at hf;unfold c84;refine (show awp Try.prog false 0 _ (ofL [(0,(encGTable t_1))]) [] _ from ?_);refine sr<|s_do (o_box (j:=0) (c:=(.agg [(.str t_1.Name),(.lst 8 (t_1.Columns.map encGColumn)),(.lst 1 (t_1.Unique.map encI)),(.bool t_1.Root)])) rfl trivial rfl rfl)<|s_mov (.bool false) rfl<|dk<|awp_seq<|awp_seq<|?_
 obtain ⟨s22_10,hb1,hf⟩:=ob hf
 refine awp_cut ([(1,(.ptr 0 0 0)),(22,(.bool s22_10))],[.box 4 (.agg [(.str t_1.Name),(.lst 8 (t_1.Columns.map encGColumn)),(.lst 1 (t_1.Unique.map encI)),(.bool t_1.Root)])]) ?_ ?_
 ·refine w_reg<|s_q (.ptr 0 0 0) rfl trivial rfl<|s_q (.str t_1.Name) rfl nle rfl<|?_
  obtain ⟨r_12,er13,hb1⟩:=ob hb1
  refine s_do (o_call (w_spec_NameOK _ _ er13) rfl (.refl _) rfl)<|s_q (.bool (!r_12)) rfl trivial rfl<|s_mov (.bool (!r_12)) rfl<|?_
  rcases oi hb1 with ⟨c15,hb1⟩ | ⟨c15,hb1⟩
  ·refine s_lit (s:=10) (b:=true) rfl c15<|s_off rfl rfl<|s_off rfl rfl<|s_off rfl rfl<|s_off rfl rfl<|s_off rfl rfl<|s_q (.bool true) rfl trivial rfl<|s_mov (.bool true) rfl<|s_off rfl rfl<|s_off rfl rfl<|s_off rfl rfl<|s_off rfl rfl<|s_q (.bool true) rfl trivial rfl<|w_done<|?_;obtain rfl:=os hb1;exact ⟨[],[0],_,_,rfl,rfl,⟨.refl _,⟨.refl _,trivial⟩⟩,(.refl _)⟩
  ·refine s_lit (s:=10) (b:=false) rfl (bf c15)<|s_on rfl<|s_q (.ptr 0 0 1) rfl trivial rfl<|s_on rfl<|s_q (.lst 8 (t_1.Columns.map encGColumn)) rfl nle rfl<|s_on rfl<|s_dof (o_len (enc:=encGColumn) rfl) fun hl16 => s_on rfl<|?_
   obtain ⟨r_17,er18,hb1⟩:=ob hb1
   refine s_do (o_call (w_spec_l01In _ _ _ _ er18) rfl (.refl _) rfl)<|s_on rfl<|s_q (.bool (!r_17)) rfl trivial rfl<|s_q (.bool (!r_17)) rfl trivial rfl<|s_mov (.bool (!r_17)) rfl<|?_;refine s_g (v:=(!r_17)) (.ptr 0 0 2) rfl (fun hv => by (try simp only [gs_on hv]);exact ⟨rfl,trivial,rfl⟩) ?_;refine s_g (v:=(!r_17)) (.lst 1 (t_1.Unique.map encI)) rfl (fun hv => by (try simp only [gs_on hv]);exact ⟨rfl,nle,rfl⟩) ?_;refine s_g (v:=(!r_17)) (.int .i64 (t_1.Unique.length:Int)) rfl (fun hv => by (try simp only [gs_on hv]);exact ⟨rfl,trivial,lenV _ _⟩) ?_;refine s_g (v:=(!r_17)) (.bool (decide ((t_1.Unique.length:Int) > 6))) rfl (fun hv => by (try simp only [gs_on hv]);exact ⟨rfl,rfl,rfl⟩) ?_
   refine s_pick (x:=true) (y:=(decide ((t_1.Unique.length:Int) > 6))) rfl (fun hv => by (try simp only [gs_on hv]);rfl) (fun hv => by (try simp only [gs_on hv]);rfl) ?_;refine w_done ?_;obtain rfl:=os hb1;exact ⟨[],[0],_,_,rfl,rfl,⟨.refl _,⟨.refl _,trivial⟩⟩,(.refl _)⟩
 ·rcases oi hf with ⟨c20,hf⟩ | ⟨c20,hf⟩
  ·refine w_condt rfl c20<|sr<|s_mov (.bool false) rfl<|dk<|w_ret<|?_;obtain rfl:=os hf;exact r_flat ⟨trivial,trivial⟩ rfl (.refl _)
  ·refine w_condf rfl (bf c20)<|w_skip<|k_seq<|awp_seq<|sr<|s_mov (.int .i64 0) rfl<|dk<|?_
   obtain ⟨p186,hb1,hf⟩:=ob hf
   refine awp_cutx (X:={q:Unit // p186 = .go q}) (fun q => ([(1,(.ptr 0 0 0))],[.box 4 (.agg [(.str t_1.Name),(.lst 8 (t_1.Columns.map encGColumn)),(.lst 1 (t_1.Unique.map encI)),(.bool t_1.Root)])])) ?_ ?_
   ·refine awp_loop (X:={q:Nat // spec_l04Table_L1 t_1 (t_1.Columns.drop q) q = some p186}) (fun q => ([(1,(.ptr 0 0 0)),(3,(.int .i64 (q.1:Int)))],[.box 4 (.agg [(.str t_1.Name),(.lst 8 (t_1.Columns.map encGColumn)),(.lst 1 (t_1.Unique.map encI)),(.bool t_1.Root)])])) (fun q => t_1.Columns.length - q.1) ⟨0,hb1⟩ ⟨[],[0],_,_,rfl,rfl,⟨.refl _,⟨.refl _,trivial⟩⟩,(.refl _)⟩ ?_
    rintro ⟨i_130,hc1⟩
    have hc1:spec_l04Table_L1 t_1 (t_1.Columns.drop i_130) i_130 = some p186:=hc1
    refine (show awp Try.prog false 0 _ (ofL [(1,(.ptr 0 0 0)),(3,(.int .i64 (i_130:Int)))]) [.box 4 (.agg [(.str t_1.Name),(.lst 8 (t_1.Columns.map encGColumn)),(.lst 1 (t_1.Unique.map encI)),(.bool t_1.Root)])] _ from ?_)
    rcases dropc t_1.Columns i_130 with ⟨hie189,hd192⟩ | ⟨hlt187,x_193,hx188,hd192⟩
    ·rw [hd192,spec_l04Table_L1.eq_1] at hc1
     have hq191:=dlf hie189
     refine awp_seq<|sr<|s_mov (.int .i64 (i_130:Int)) rfl<|s_q (.ptr 0 0 1) rfl trivial rfl<|s_q (.lst 8 (t_1.Columns.map encGColumn)) rfl nle rfl<|s_dof (o_len (enc:=encGColumn) rfl) fun hl194 => s_q (.bool (decide ((i_130:Int) < (t_1.Columns.length:Int)))) rfl rfl rfl<|dk<|w_condf rfl hq191<|w_exit<|k_seqx<|k_loopx<|k_blkx<|?_;obtain rfl:=os hc1;exact k_cutn ⟨_,rfl⟩ ⟨[],[0],_,_,rfl,rfl,⟨.refl _,trivial⟩,(.refl _)⟩
    ·rw [hd192,spec_l04Table_L1.eq_2] at hc1
     have hq191:=dlt hlt187
     refine awp_seq<|sr<|s_mov (.int .i64 (i_130:Int)) rfl<|s_q (.ptr 0 0 1) rfl trivial rfl<|s_q (.lst 8 (t_1.Columns.map encGColumn)) rfl nle rfl<|s_dof (o_len (enc:=encGColumn) rfl) fun hl195 => s_q (.bool (decide ((i_130:Int) < (t_1.Columns.length:Int)))) rfl rfl rfl<|dk<|w_condt rfl hq191<|w_skip<|k_seq<|awp_seq<|w_blk<|awp_seq<|sr<|?_
     obtain ⟨r_196,er197,hc1⟩:=ob hc1
     refine s_q (.ptr 0 0 1) rfl trivial rfl<|s_q (.lst 8 (t_1.Columns.map encGColumn)) rfl nle rfl<|s_mov (.int .i64 (i_130:Int)) rfl<|s_do (o_iaddrn (enc:=encGColumn) rfl rfl hx188)<|s_q (encGColumn x_193) rfl nle rfl<|s_do (o_call (w_spec_ColumnOK _ _ er197) rfl (.refl _) rfl)<|s_q (.bool (!r_196)) rfl trivial rfl<|dk<|?_
     rcases oi hc1 with ⟨c198,hc1⟩ | ⟨c198,hc1⟩
     ·refine w_condt rfl c198<|sr<|s_mov (.bool false) rfl<|dk<|w_ret<|?_;obtain rfl:=os hc1;obtain rfl:=os hf;exact r_flat ⟨trivial,trivial⟩ rfl (.refl _)
     ·refine w_condf rfl (bf c198)<|w_skip<|k_seq<|sr<|s_mov (.int .i64 0) rfl<|dk<|?_
      obtain ⟨p227,hb2,hc1⟩:=ob hc1
      refine awp_cutxb (X:={q:Unit // p227 = .go q}) (fun q => ([(1,(.ptr 0 0 0)),(3,(.int .i64 (i_130:Int)))],[.box 4 (.agg [(.str t_1.Name),(.lst 8 (t_1.Columns.map encGColumn)),(.lst 1 (t_1.Unique.map encI)),(.bool t_1.Root)])])) ?_ ?_
      ·refine awp_loop (X:={q:(Nat × Int) // spec_l04Table_L2 i_130 t_1 x_193 q.1 q.2 = some p227}) (fun q => ([(1,(.ptr 0 0 0)),(3,(.int .i64 (i_130:Int))),(4,(.int .i64 q.1.2))],[.box 4 (.agg [(.str t_1.Name),(.lst 8 (t_1.Columns.map encGColumn)),(.lst 1 (t_1.Unique.map encI)),(.bool t_1.Root)])])) (fun q => q.1.1) ⟨(FUEL,0),hb2⟩ ⟨[],[0],_,_,rfl,rfl,⟨.refl _,⟨.refl _,⟨.refl _,trivial⟩⟩⟩,(.refl _)⟩ ?_
       rintro ⟨⟨k,k_222⟩,hc2⟩
       have hc2:spec_l04Table_L2 i_130 t_1 x_193 k k_222 = some p227:=hc2
       refine (show awp Try.prog false 0 _ (ofL [(1,(.ptr 0 0 0)),(3,(.int .i64 (i_130:Int))),(4,(.int .i64 k_222))]) [.box 4 (.agg [(.str t_1.Name),(.lst 8 (t_1.Columns.map encGColumn)),(.lst 1 (t_1.Unique.map encI)),(.bool t_1.Root)])] _ from ?_)
       rcases k with _ | k
       ·rw [spec_l04Table_L2.eq_1] at hc2
        cases hc2
       ·rw [spec_l04Table_L2.eq_2] at hc2;refine awp_seq<|sr<|s_mov (.int .i64 k_222) rfl<|s_mov (.int .i64 (i_130:Int)) rfl<|s_q (.bool (decide (k_222 < (i_130:Int)))) rfl rfl rfl<|dk<|?_
        rcases oi hc2 with ⟨c228,hc2⟩ | ⟨c228,hc2⟩
        ·refine w_condt rfl c228<|w_skip<|k_seq<|awp_seq<|w_blk<|sr<|s_q (.ptr 0 0 1) rfl trivial rfl<|s_q (.lst 8 (t_1.Columns.map encGColumn)) rfl nle rfl<|s_mov (.int .i64 k_222) rfl<|?_
         obtain ⟨x_229,ex230,hc2⟩:=ob hc2
         refine s_do (o_iaddr (enc:=encGColumn) rfl rfl (idx0 ex230) (idx1 ex230))<|s_q (.iptr (encGColumn x_229) 0) rfl trivial rfl<|s_q (.str x_229.Name) rfl nle rfl<|s_q (.ptr 0 0 1) rfl trivial rfl<|s_q (.lst 8 (t_1.Columns.map encGColumn)) rfl nle rfl<|s_mov (.int .i64 (i_130:Int)) rfl<|s_do (o_iaddrn (enc:=encGColumn) rfl rfl hx188)<|s_q (.iptr (encGColumn x_193) 0) rfl trivial rfl<|s_q (.str x_193.Name) rfl nle rfl<|s_q (.bool (x_229.Name == x_193.Name)) rfl trivial rfl<|dk<|?_
         rcases oi hc2 with ⟨c231,hc2⟩ | ⟨c231,hc2⟩
         ·refine w_condt rfl c231<|sr<|s_mov (.bool false) rfl<|dk<|w_ret<|?_;obtain rfl:=os hc2;obtain rfl:=os hc1;obtain rfl:=os hf;exact r_flat ⟨trivial,trivial⟩ rfl (.refl _)
         ·refine w_condf rfl (bf c231)<|w_skip<|k_blk<|k_seq<|w_reg<|s_mov (.int .i64 k_222) rfl<|s_q (.int .i64 (w64 (k_222 + 1))) rfl rfl rfl<|s_mov (.int .i64 (w64 (k_222 + 1))) rfl<|w_done<|?_;exact k_loopn ⟨(k,w64 (k_222 + 1)),hc2⟩ (Nat.lt_succ_self _) ⟨[],[0],_,_,rfl,rfl,⟨.refl _,⟨.refl _,⟨.refl _,trivial⟩⟩⟩,(.refl _)⟩
        ·refine w_condf rfl (bf c228)<|w_exit<|k_seqx<|k_loopx<|k_blkx<|?_;refine k_blk ?_;obtain rfl:=os hc2;exact k_cutn ⟨_,rfl⟩ ⟨[],[0],_,_,rfl,rfl,⟨.refl _,⟨.refl _,trivial⟩⟩,(.refl _)⟩
      ·rintro ⟨_,rfl⟩
       refine w_reg<|s_mov (.int .i64 (i_130:Int)) rfl<|s_q (.int .i64 (w64 ((i_130:Int) + 1))) rfl rfl rfl<|s_mov (.int .i64 (w64 ((i_130:Int) + 1))) rfl<|w_done<|?_;exact k_loopn ⟨(i_130 + 1),hc1⟩ (mul hlt187) ⟨[],[0],_,_,rfl,rfl,⟨.refl _,⟨.of_eq (congrArg (AV.int _) (w64_incr hlt187 hl195)),trivial⟩⟩,(.refl _)⟩
   ·rintro ⟨_,rfl⟩
    refine awp_seq<|sr<|s_mov (.int .i64 0) rfl<|dk<|?_
    obtain ⟨p316,hb1,hf⟩:=ob hf
    refine awp_cutx (X:={q:Unit // p316 = .go q}) (fun q => ([],[])) ?_ ?_
    ·refine awp_loop (X:={q:Nat // spec_l04Table_L3 t_1 (t_1.Unique.drop q) q = some p316}) (fun q => ([(1,(.ptr 0 0 0)),(5,(.int .i64 (q.1:Int)))],[.box 4 (.agg [(.str t_1.Name),(.lst 8 (t_1.Columns.map encGColumn)),(.lst 1 (t_1.Unique.map encI)),(.bool t_1.Root)])])) (fun q => t_1.Unique.length - q.1) ⟨0,hb1⟩ ⟨[],[0],_,_,rfl,rfl,⟨.refl _,⟨.refl _,trivial⟩⟩,(.refl _)⟩ ?_
     rintro ⟨i_287,hc1⟩
     have hc1:spec_l04Table_L3 t_1 (t_1.Unique.drop i_287) i_287 = some p316:=hc1
     refine (show awp Try.prog false 0 _ (ofL [(1,(.ptr 0 0 0)),(5,(.int .i64 (i_287:Int)))]) [.box 4 (.agg [(.str t_1.Name),(.lst 8 (t_1.Columns.map encGColumn)),(.lst 1 (t_1.Unique.map encI)),(.bool t_1.Root)])] _ from ?_)
     rcases dropc t_1.Unique i_287 with ⟨hie319,hd322⟩ | ⟨hlt317,x_323,hx318,hd322⟩
     ·rw [hd322,spec_l04Table_L3.eq_1] at hc1
      have hq321:=dlf hie319
      refine awp_seq<|sr<|s_mov (.int .i64 (i_287:Int)) rfl<|s_q (.ptr 0 0 2) rfl trivial rfl<|s_q (.lst 1 (t_1.Unique.map encI)) rfl nle rfl<|s_dof (o_len (enc:=encI) rfl) fun hl324 => s_q (.bool (decide ((i_287:Int) < (t_1.Unique.length:Int)))) rfl rfl rfl<|dk<|w_condf rfl hq321<|w_exit<|k_seqx<|k_loopx<|k_blkx<|?_;obtain rfl:=os hc1;exact k_cutn ⟨_,rfl⟩ ⟨[],[],_,_,rfl,rfl,trivial,(.refl _)⟩
     ·rw [hd322,spec_l04Table_L3.eq_2] at hc1
      have hq321:=dlt hlt317
      refine awp_seq<|sr<|s_mov (.int .i64 (i_287:Int)) rfl<|s_q (.ptr 0 0 2) rfl trivial rfl<|s_q (.lst 1 (t_1.Unique.map encI)) rfl nle rfl<|s_dof (o_len (enc:=encI) rfl) fun hl325 => s_q (.bool (decide ((i_287:Int) < (t_1.Unique.length:Int)))) rfl rfl rfl<|dk<|w_condt rfl hq321<|w_skip<|k_seq<|awp_seq<|w_blk<|awp_seq<|?_
      obtain ⟨s90_333,hb2,hc1⟩:=ob hc1
      refine awp_cut ([(1,(.ptr 0 0 0)),(5,(.int .i64 (i_287:Int))),(90,(.bool s90_333))],[.box 4 (.agg [(.str t_1.Name),(.lst 8 (t_1.Columns.map encGColumn)),(.lst 1 (t_1.Unique.map encI)),(.bool t_1.Root)])]) ?_ ?_
      ·refine w_reg<|s_q (.ptr 0 0 2) rfl trivial rfl<|s_q (.lst 1 (t_1.Unique.map encI)) rfl nle rfl<|s_mov (.int .i64 (i_287:Int)) rfl<|s_do (o_iaddrn (enc:=encI) rfl rfl hx318)<|s_q (.int .i64 x_323) rfl ⟨rfl,rfl⟩ rfl<|s_q (.ptr 0 0 1) rfl trivial rfl<|s_q (.lst 8 (t_1.Columns.map encGColumn)) rfl nle rfl<|s_dof (o_len (enc:=encGColumn) rfl) fun hl335 => s_q (.int .i64 (w64 ((t_1.Columns.length:Int) - 1))) rfl rfl rfl<|?_
       obtain ⟨r_336,er337,hb2⟩:=ob hb2
       refine s_dol (o_call (w_spec_l01In _ _ _ _ er337) rfl (.refl _) rfl) a_same trivial<|s_q (.bool (!r_336)) rfl trivial rfl<|s_mov (.bool (!r_336)) rfl<|?_
       rcases oi hb2 with ⟨c338,hb2⟩ | ⟨c338,hb2⟩
       ·refine s_lit (s:=73) (b:=true) rfl c338<|s_off rfl rfl<|s_off rfl rfl<|s_off rfl rfl<|s_offs rfl<|s_offs rfl<|s_offs rfl<|s_offs rfl<|s_offs rfl<|s_offs rfl<|s_offs rfl<|s_offs rfl<|s_offs rfl<|s_offs rfl<|s_offs rfl<|s_offs rfl<|s_off rfl rfl<|s_q (.bool true) rfl trivial rfl<|w_done<|?_;obtain rfl:=os hb2;exact ⟨[],[0],_,_,rfl,rfl,⟨.refl _,⟨.refl _,⟨.refl _,trivial⟩⟩⟩,(.refl _)⟩
       ·refine s_lit (s:=73) (b:=false) rfl (bf c338)<|s_on rfl<|s_mov (.int .i64 (i_287:Int)) rfl<|s_on rfl<|s_q (.bool (decide ((i_287:Int) > 0))) rfl rfl rfl<|s_on rfl<|s_mov (.bool (decide ((i_287:Int) > 0))) rfl<|?_
        rcases oi hb2 with ⟨c339,hb2⟩ | ⟨c339,hb2⟩
        ·refine s_lit (s:=76) (b:=true) rfl c339<|s_on rfl<|s_q (.ptr 0 0 2) rfl trivial rfl<|s_on rfl<|s_q (.lst 1 (t_1.Unique.map encI)) rfl nle rfl<|s_on rfl<|s_mov (.int .i64 (i_287:Int)) rfl<|s_on rfl<|s_q (.int .i64 (w64 ((i_287:Int) - 1))) rfl rfl rfl<|s_on rfl<|?_
         obtain ⟨x_340,ex341,hb2⟩:=ob hb2
         refine s_do (o_iaddr (enc:=encI) rfl rfl (idx0 ex341) (idx1 ex341))<|s_on rfl<|s_q (.int .i64 x_340) rfl ⟨rfl,rfl⟩ rfl<|s_on rfl<|s_q (.ptr 0 0 2) rfl trivial rfl<|s_on rfl<|s_q (.lst 1 (t_1.Unique.map encI)) rfl nle rfl<|s_on rfl<|s_mov (.int .i64 (i_287:Int)) rfl<|s_on rfl<|s_do (o_iaddrn (enc:=encI) rfl rfl hx318)<|s_on rfl<|s_q (.int .i64 x_323) rfl ⟨rfl,rfl⟩ rfl<|s_on rfl<|s_q (.bool (decide (x_340 ≥ x_323))) rfl rfl rfl<|s_on rfl<|s_q (.bool (decide (x_340 ≥ x_323))) rfl trivial rfl<|s_q (.bool (decide (x_340 ≥ x_323))) rfl trivial rfl<|w_done<|?_;obtain rfl:=os hb2;exact ⟨[],[0],_,_,rfl,rfl,⟨.refl _,⟨.refl _,⟨.refl _,trivial⟩⟩⟩,(.refl _)⟩
        ·refine s_lit (s:=76) (b:=false) rfl (bf c339)<|s_off rfl rfl<|s_off rfl rfl<|s_off rfl rfl<|s_off rfl rfl<|s_off rfl rfl<|s_off rfl rfl<|s_off rfl rfl<|s_off rfl rfl<|s_off rfl rfl<|s_off rfl rfl<|s_off rfl rfl<|s_off rfl rfl<|s_on rfl<|s_q (.bool false) rfl trivial rfl<|s_q (.bool false) rfl trivial rfl<|w_done<|?_;obtain rfl:=os hb2;exact ⟨[],[0],_,_,rfl,rfl,⟨.refl _,⟨.refl _,⟨.refl _,trivial⟩⟩⟩,(.refl _)⟩
      ·rcases oi hc1 with ⟨c342,hc1⟩ | ⟨c342,hc1⟩
       ·refine w_condt rfl c342<|sr<|s_mov (.bool false) rfl<|dk<|w_ret<|?_;obtain rfl:=os hc1;obtain rfl:=os hf;exact r_flat ⟨trivial,trivial⟩ rfl (.refl _)
       ·refine w_condf rfl (bf c342)<|w_skip<|k_blk<|k_seq<|w_reg<|s_mov (.int .i64 (i_287:Int)) rfl<|s_q (.int .i64 (w64 ((i_287:Int) + 1))) rfl rfl rfl<|s_mov (.int .i64 (w64 ((i_287:Int) + 1))) rfl<|w_done<|?_;exact k_loopn ⟨(i_287 + 1),hc1⟩ (mul hlt317) ⟨[],[0],_,_,rfl,rfl,⟨.refl _,⟨.of_eq (congrArg (AV.int _) (w64_incr hlt317 hl325)),trivial⟩⟩,(.refl _)⟩
    ·rintro ⟨_,rfl⟩
     refine sr<|s_mov (.bool true) rfl<|dk<|w_ret<|?_;obtain rfl:=os hf;exact r_flat ⟨trivial,trivial⟩ rfl (.refl _)

/- spec.l01Text -/
def c124:ACode :=
 (.seq (.reg (tm 2 (.c (.bool false)) .done))
 (.seq (.seq (.reg (tm 3 (.c (.int .i64 0)) .done))
 (.block 0 (.loop (.seq (.seq (.reg (tm 4 (.t 3) (tm 5 (.t 0) (tq 6 (.lenS (.t 5)) (tq 7 (.bin .lss (.t 4) (.t 6)) .done)))))
 (.cond (.t 7) .skip
 (.exit 0)))
 (.seq (.block 1 (.seq (.reg (tm 10 (.t 0) (tm 11 (.t 3) (tq 12 (.idxs (.t 10) (.t 11)) (tq 13 (.bin .lss (.t 12) (.c (.int .u8 32))) (tm 14 (.t 13) (tg 15 14 false (.mov (.t 0)) (tg 16 14 false (.mov (.t 3)) (tg 17 14 false (.idxs (.t 15) (.t 16)) (tg 18 14 false (.bin .gtr (.t 17) (.c (.int .u8 126))) (tq 19 (.pick (.t 14) (.c (.bool true)) (.t 18)) .done)))))))))))
 (.cut (.cond (.t 19) (.seq (.reg (tm 2 (.c (.bool false)) .done))
 .ret)
 .skip))))
 (.reg (tm 8 (.t 3) (tq 9 (.bin .add (.t 8) (.c (.int .i64 1))) (tm 3 (.t 9) .done)))))))))
 (.cut (.seq (.reg (tm 20 (.t 0) (tq 21 (.lenS (.t 20)) (tq 22 (.bin .leq (.t 21) (.c (.int .i64 200))) (tm 2 (.t 22) .done)))))
 .ret))))
theorem fc124:fcomp Try.prog Try.f124 = some (c124.erase,[.mov (.t 2)],23):=by kernel_rfl
def spec_l01Text_L1 :List UInt8 → Option (Fl Bool Unit)
  | [] =>
    some (.go ())
  | x_57 :: xs =>
    ((if (decide ((x_57.toNat:Int) < 32)) then
    some true
    else
    some (decide ((x_57.toNat:Int) > 126)):Option Bool)).bind fun s19_61 =>
    if s19_61 then
    some (.ret false)
    else
    spec_l01Text_L1 xs 

def spec_l01Text (t_1:Str):Option Bool :=
    (spec_l01Text_L1 t_1 ).bind fun q => (match q with
    | .ret r => some r
    | .go _ =>
    some (decide ((t_1.length:Int) ≤ 200)))
theorem w_spec_l01Text (t_1:Str) (r:Bool) (hf:spec_l01Text t_1 = some r):CallOK Try.prog 124 .flat [(.str t_1)] (.bool r):=by
 refine CallOK.of_awp mixed Try.func124 fc124 nle ?_;rw [argT_eq];unfold spec_l01Text at hf;unfold c124;refine (show awp Try.prog false 0 _ (ofL [(0,(.str t_1))]) [] _ from ?_);refine sr<|s_mov (.bool false) rfl<|dk<|awp_seq<|sr<|s_mov (.int .i64 0) rfl<|dk<|?_
 obtain ⟨p50,hb1,hf⟩:=ob hf
 refine awp_cutx (X:={q:Unit // p50 = .go q}) (fun q => ([(0,(.str t_1))],[])) ?_ ?_
 ·refine awp_loop (X:={q:Nat // spec_l01Text_L1 (t_1.drop q)  = some p50}) (fun q => ([(0,(.str t_1)),(3,(.int .i64 (q.1:Int)))],[])) (fun q => t_1.length - q.1) ⟨0,hb1⟩ ⟨[],[],_,_,rfl,rfl,⟨.refl _,⟨.refl _,trivial⟩⟩,(.refl _)⟩ ?_
  rintro ⟨i_33,hc1⟩
  have hc1:spec_l01Text_L1 (t_1.drop i_33)  = some p50:=hc1
  refine (show awp Try.prog false 0 _ (ofL [(0,(.str t_1)),(3,(.int .i64 (i_33:Int)))]) [] _ from ?_)
  rcases dropc t_1 i_33 with ⟨hie53,hd56⟩ | ⟨hlt51,x_57,hx52,hd56⟩
  ·rw [hd56,spec_l01Text_L1.eq_1] at hc1
   have hq55:=dlf hie53
   refine awp_seq<|sr<|s_mov (.int .i64 (i_33:Int)) rfl<|s_mov (.str t_1) rfl<|s_dof (o_lenS rfl) fun hl58 => s_q (.bool (decide ((i_33:Int) < (t_1.length:Int)))) rfl rfl rfl<|dk<|w_condf rfl hq55<|w_exit<|k_seqx<|k_loopx<|k_blkx<|?_;obtain rfl:=os hc1;exact k_cutn ⟨_,rfl⟩ ⟨[],[],_,_,rfl,rfl,⟨.refl _,trivial⟩,(.refl _)⟩
  ·rw [hd56,spec_l01Text_L1.eq_2] at hc1
   have hq55:=dlt hlt51
   refine awp_seq<|sr<|s_mov (.int .i64 (i_33:Int)) rfl<|s_mov (.str t_1) rfl<|s_dof (o_lenS rfl) fun hl59 => s_q (.bool (decide ((i_33:Int) < (t_1.length:Int)))) rfl rfl rfl<|dk<|w_condt rfl hq55<|w_skip<|k_seq<|awp_seq<|w_blk<|awp_seq<|?_
   obtain ⟨s19_61,hb2,hc1⟩:=ob hc1
   refine awp_cut ([(0,(.str t_1)),(3,(.int .i64 (i_33:Int))),(19,(.bool s19_61))],[]) ?_ ?_
   ·refine w_reg ?_
    rcases oi hb2 with ⟨c63,hb2⟩ | ⟨c63,hb2⟩
    ·refine s_mov (.str t_1) rfl<|s_mov (.int .i64 (i_33:Int)) rfl<|s_do (o_idxsn rfl rfl hx52)<|s_q (.bool (decide ((x_57.toNat:Int) < 32))) rfl rfl rfl<|s_mov (.bool (decide ((x_57.toNat:Int) < 32))) rfl<|s_lit (s:=14) (b:=true) rfl c63<|s_off rfl rfl<|s_off rfl rfl<|s_off rfl rfl<|s_off rfl rfl<|s_q (.bool true) rfl trivial rfl<|w_done<|?_;obtain rfl:=os hb2;exact ⟨[],[],_,_,rfl,rfl,⟨.refl _,⟨.refl _,⟨.refl _,trivial⟩⟩⟩,(.refl _)⟩
    ·refine s_mov (.str t_1) rfl<|s_mov (.int .i64 (i_33:Int)) rfl<|s_do (o_idxsn rfl rfl hx52)<|s_q (.bool (decide ((x_57.toNat:Int) < 32))) rfl rfl rfl<|s_mov (.bool (decide ((x_57.toNat:Int) < 32))) rfl<|s_lit (s:=14) (b:=false) rfl (bf c63)<|s_on rfl<|s_mov (.str t_1) rfl<|s_on rfl<|s_mov (.int .i64 (i_33:Int)) rfl<|s_on rfl<|s_do (o_idxsn rfl rfl hx52)<|s_on rfl<|s_q (.bool (decide ((x_57.toNat:Int) > 126))) rfl rfl rfl<|s_q (.bool (decide ((x_57.toNat:Int) > 126))) rfl trivial rfl<|w_done<|?_;obtain rfl:=os hb2;exact ⟨[],[],_,_,rfl,rfl,⟨.refl _,⟨.refl _,⟨.refl _,trivial⟩⟩⟩,(.refl _)⟩
   ·rcases oi hc1 with ⟨c64,hc1⟩ | ⟨c64,hc1⟩
    ·refine w_condt rfl c64<|sr<|s_mov (.bool false) rfl<|dk<|w_ret<|?_;obtain rfl:=os hc1;obtain rfl:=os hf;exact r_flat ⟨trivial,trivial⟩ rfl (.refl _)
    ·refine w_condf rfl (bf c64)<|w_skip<|k_blk<|k_seq<|w_reg<|s_mov (.int .i64 (i_33:Int)) rfl<|s_q (.int .i64 (w64 ((i_33:Int) + 1))) rfl rfl rfl<|s_mov (.int .i64 (w64 ((i_33:Int) + 1))) rfl<|w_done<|?_;exact k_loopn ⟨(i_33 + 1),hc1⟩ (mul hlt51) ⟨[],[],_,_,rfl,rfl,⟨.refl _,⟨.of_eq (congrArg (AV.int _) (w64_incr hlt51 hl59)),trivial⟩⟩,(.refl _)⟩
 ·rintro ⟨_,rfl⟩
  refine sr<|s_mov (.str t_1) rfl<|s_dof (o_lenS rfl) fun hl65 => s_q (.bool (decide ((t_1.length:Int) ≤ 200))) rfl rfl rfl<|s_mov (.bool (decide ((t_1.length:Int) ≤ 200))) rfl<|dk<|w_ret<|?_;obtain rfl:=os hf;exact r_flat ⟨trivial,trivial⟩ rfl (.refl _)

/- spec.AtomOK -/
def c114:ACode :=
 (.seq (.reg (tq 1 (.box 3 (.t 0)) (tm 2 (.c (.bool false)) .done)))
 (.seq (.seq (.reg (tq 3 (.faddr 0 (.t 1)) (tq 4 (.load 1 false (.t 3)) .done)))
 (.block 0 (.seq (.reg (tq 6 (.bin .eql (.t 4) (.c (.int .i64 1))) (tm 5 (.t 6) .done)))
 (.cond (.t 5) (.seq (.reg (tq 7 (.faddr 1 (.t 1)) (tq 8 (.load 1 false (.t 7)) (tq 9 (.call 112 [(.t 8),(.c (.int .i64 (-1000000000))),(.c (.int .i64 1000000000))]) (tm 10 (.t 9) (tg 11 10 true (.faddr 2 (.t 1)) (tg 12 10 true (.load 1 false (.t 11)) (tg 13 10 true (.bin .eql (.t 12) (.c (.str []))) (tq 14 (.pick (.t 10) (.t 13) (.c (.bool false))) (tm 2 (.t 14) .done))))))))))
 .ret)
 (.seq (.reg (tq 16 (.bin .eql (.t 4) (.c (.int .i64 2))) (tm 15 (.t 16) .done)))
 (.cond (.t 15) (.seq (.reg (tq 17 (.faddr 1 (.t 1)) (tq 18 (.load 1 false (.t 17)) (tq 19 (.bin .eql (.t 18) (.c (.int .i64 0))) (tm 20 (.t 19) (tg 21 20 true (.faddr 2 (.t 1)) (tg 22 20 true (.load 1 false (.t 21)) (tg 23 20 true (.call 124 [(.t 22)]) (tq 24 (.pick (.t 20) (.t 23) (.c (.bool false))) (tm 2 (.t 24) .done))))))))))
 .ret)
 (.seq (.reg (tq 26 (.bin .eql (.t 4) (.c (.int .i64 3))) (tm 25 (.t 26) .done)))
 (.cond (.t 25) (.seq (.reg (tq 27 (.faddr 1 (.t 1)) (tq 28 (.load 1 false (.t 27)) (tq 29 (.call 112 [(.t 28),(.c (.int .i64 0)),(.c (.int .i64 1))]) (tm 30 (.t 29) (tg 31 30 true (.faddr 2 (.t 1)) (tg 32 30 true (.load 1 false (.t 31)) (tg 33 30 true (.bin .eql (.t 32) (.c (.str []))) (tq 34 (.pick (.t 30) (.t 33) (.c (.bool false))) (tm 2 (.t 34) .done))))))))))
 .ret)
 (.seq (.reg (tq 36 (.bin .eql (.t 4) (.c (.int .i64 4))) (tm 35 (.t 36) .done)))
 (.cond (.t 35) (.seq (.reg (tq 37 (.faddr 1 (.t 1)) (tq 38 (.load 1 false (.t 37)) (tq 39 (.call 112 [(.t 38),(.c (.int .i64 1)),(.c (.int .i64 1000000))]) (tm 40 (.t 39) (tg 41 40 true (.faddr 2 (.t 1)) (tg 42 40 true (.load 1 false (.t 41)) (tg 43 40 true (.bin .eql (.t 42) (.c (.str []))) (tq 44 (.pick (.t 40) (.t 43) (.c (.bool false))) (tm 2 (.t 44) .done))))))))))
 .ret)
 .skip))))))))))
 (.seq (.reg (tm 2 (.c (.bool false)) .done))
 .ret)))
theorem fc114:fcomp Try.prog Try.f114 = some (c114.erase,[.mov (.t 2)],45):=by kernel_rfl
def spec_AtomOK (a_1:GAtom):Option Bool :=
    if (a_1.Kind == 1) then
    (spec_l01In a_1.N (-1000000000) 1000000000).bind fun r_3 =>
    if r_3 then
    some (a_1.T == [])
    else
    some false
    else
    if (a_1.Kind == 2) then
    if (a_1.N == 0) then
    (spec_l01Text a_1.T).bind fun r_8 =>
    some r_8
    else
    some false
    else
    if (a_1.Kind == 3) then
    (spec_l01In a_1.N 0 1).bind fun r_11 =>
    if r_11 then
    some (a_1.T == [])
    else
    some false
    else
    if (a_1.Kind == 4) then
    (spec_l01In a_1.N 1 1000000).bind fun r_15 =>
    if r_15 then
    some (a_1.T == [])
    else
    some false
    else
    some false
theorem w_spec_AtomOK (a_1:GAtom) (r:Bool) (hf:spec_AtomOK a_1 = some r):CallOK Try.prog 114 .flat [(encGAtom a_1)] (.bool r):=by
 refine CallOK.of_awp mixed Try.func114 fc114 nle ?_;rw [argT_eq];unfold spec_AtomOK at hf;unfold c114;refine (show awp Try.prog false 0 _ (ofL [(0,(encGAtom a_1))]) [] _ from ?_);refine sr<|s_do (o_box (j:=0) (c:=(.agg [(.int .i64 a_1.Kind),(.int .i64 a_1.N),(.str a_1.T)])) rfl trivial rfl rfl)<|s_mov (.bool false) rfl<|dk<|awp_seq<|sr<|s_q (.ptr 0 0 0) rfl trivial rfl<|s_q (.int .i64 a_1.Kind) rfl nle rfl<|dk<|w_blk<|sr<|s_q (.bool (a_1.Kind == 1)) rfl rfl rfl<|s_mov (.bool (a_1.Kind == 1)) rfl<|dk<|?_
 rcases oi hf with ⟨c2,hf⟩ | ⟨c2,hf⟩
 ·refine w_condt rfl c2<|sr<|?_
  obtain ⟨r_3,er4,hf⟩:=ob hf
  rcases oi hf with ⟨c5,hf⟩ | ⟨c5,hf⟩
  ·refine s_q (.ptr 0 0 1) rfl trivial rfl<|s_q (.int .i64 a_1.N) rfl nle rfl<|s_do (o_call (w_spec_l01In _ _ _ _ er4) rfl (.refl _) rfl)<|s_mov (.bool r_3) rfl<|s_lit (s:=10) (b:=true) rfl c5<|s_on rfl<|s_q (.ptr 0 0 2) rfl trivial rfl<|s_on rfl<|s_q (.str a_1.T) rfl nle rfl<|s_on rfl<|s_q (.bool (a_1.T == [])) rfl trivial rfl<|s_q (.bool (a_1.T == [])) rfl trivial rfl<|s_mov (.bool (a_1.T == [])) rfl<|dk<|w_ret<|?_;obtain rfl:=os hf;exact r_flat ⟨trivial,trivial⟩ rfl (.refl _)
  ·refine s_q (.ptr 0 0 1) rfl trivial rfl<|s_q (.int .i64 a_1.N) rfl nle rfl<|s_do (o_call (w_spec_l01In _ _ _ _ er4) rfl (.refl _) rfl)<|s_mov (.bool r_3) rfl<|s_lit (s:=10) (b:=false) rfl (bf c5)<|s_off rfl rfl<|s_off rfl rfl<|s_off rfl rfl<|s_q (.bool false) rfl trivial rfl<|s_mov (.bool false) rfl<|dk<|w_ret<|?_;obtain rfl:=os hf;exact r_flat ⟨trivial,trivial⟩ rfl (.refl _)
 ·refine w_condf rfl (bf c2)<|sr<|s_q (.bool (a_1.Kind == 2)) rfl rfl rfl<|s_mov (.bool (a_1.Kind == 2)) rfl<|dk<|?_
  rcases oi hf with ⟨c6,hf⟩ | ⟨c6,hf⟩
  ·refine w_condt rfl c6<|sr<|?_
   rcases oi hf with ⟨c7,hf⟩ | ⟨c7,hf⟩
   ·obtain ⟨r_8,er9,hf⟩:=ob hf
    refine s_q (.ptr 0 0 1) rfl trivial rfl<|s_q (.int .i64 a_1.N) rfl nle rfl<|s_q (.bool (a_1.N == 0)) rfl rfl rfl<|s_mov (.bool (a_1.N == 0)) rfl<|s_lit (s:=20) (b:=true) rfl c7<|s_on rfl<|s_q (.ptr 0 0 2) rfl trivial rfl<|s_on rfl<|s_q (.str a_1.T) rfl nle rfl<|s_on rfl<|s_do (o_call (w_spec_l01Text _ _ er9) rfl (.refl _) rfl)<|s_q (.bool r_8) rfl trivial rfl<|s_mov (.bool r_8) rfl<|dk<|w_ret<|?_;obtain rfl:=os hf;exact r_flat ⟨trivial,trivial⟩ rfl (.refl _)
   ·refine s_q (.ptr 0 0 1) rfl trivial rfl<|s_q (.int .i64 a_1.N) rfl nle rfl<|s_q (.bool (a_1.N == 0)) rfl rfl rfl<|s_mov (.bool (a_1.N == 0)) rfl<|s_lit (s:=20) (b:=false) rfl (bf c7)<|s_off rfl rfl<|s_off rfl rfl<|s_off rfl rfl<|s_q (.bool false) rfl trivial rfl<|s_mov (.bool false) rfl<|dk<|w_ret<|?_;obtain rfl:=os hf;exact r_flat ⟨trivial,trivial⟩ rfl (.refl _)
  ·refine w_condf rfl (bf c6)<|sr<|s_q (.bool (a_1.Kind == 3)) rfl rfl rfl<|s_mov (.bool (a_1.Kind == 3)) rfl<|dk<|?_
   rcases oi hf with ⟨c10,hf⟩ | ⟨c10,hf⟩
   ·refine w_condt rfl c10<|sr<|?_
    obtain ⟨r_11,er12,hf⟩:=ob hf
    rcases oi hf with ⟨c13,hf⟩ | ⟨c13,hf⟩
    ·refine s_q (.ptr 0 0 1) rfl trivial rfl<|s_q (.int .i64 a_1.N) rfl nle rfl<|s_do (o_call (w_spec_l01In _ _ _ _ er12) rfl (.refl _) rfl)<|s_mov (.bool r_11) rfl<|s_lit (s:=30) (b:=true) rfl c13<|s_on rfl<|s_q (.ptr 0 0 2) rfl trivial rfl<|s_on rfl<|s_q (.str a_1.T) rfl nle rfl<|s_on rfl<|s_q (.bool (a_1.T == [])) rfl trivial rfl<|s_q (.bool (a_1.T == [])) rfl trivial rfl<|s_mov (.bool (a_1.T == [])) rfl<|dk<|w_ret<|?_;obtain rfl:=os hf;exact r_flat ⟨trivial,trivial⟩ rfl (.refl _)
    ·refine s_q (.ptr 0 0 1) rfl trivial rfl<|s_q (.int .i64 a_1.N) rfl nle rfl<|s_do (o_call (w_spec_l01In _ _ _ _ er12) rfl (.refl _) rfl)<|s_mov (.bool r_11) rfl<|s_lit (s:=30) (b:=false) rfl (bf c13)<|s_off rfl rfl<|s_off rfl rfl<|s_off rfl rfl<|s_q (.bool false) rfl trivial rfl<|s_mov (.bool false) rfl<|dk<|w_ret<|?_;obtain rfl:=os hf;exact r_flat ⟨trivial,trivial⟩ rfl (.refl _)
   ·refine w_condf rfl (bf c10)<|sr<|s_q (.bool (a_1.Kind == 4)) rfl rfl rfl<|s_mov (.bool (a_1.Kind == 4)) rfl<|dk<|?_
    rcases oi hf with ⟨c14,hf⟩ | ⟨c14,hf⟩
    ·refine w_condt rfl c14<|sr<|?_
     obtain ⟨r_15,er16,hf⟩:=ob hf
     rcases oi hf with ⟨c17,hf⟩ | ⟨c17,hf⟩
     ·refine s_q (.ptr 0 0 1) rfl trivial rfl<|s_q (.int .i64 a_1.N) rfl nle rfl<|s_do (o_call (w_spec_l01In _ _ _ _ er16) rfl (.refl _) rfl)<|s_mov (.bool r_15) rfl<|s_lit (s:=40) (b:=true) rfl c17<|s_on rfl<|s_q (.ptr 0 0 2) rfl trivial rfl<|s_on rfl<|s_q (.str a_1.T) rfl nle rfl<|s_on rfl<|s_q (.bool (a_1.T == [])) rfl trivial rfl<|s_q (.bool (a_1.T == [])) rfl trivial rfl<|s_mov (.bool (a_1.T == [])) rfl<|dk<|w_ret<|?_;obtain rfl:=os hf;exact r_flat ⟨trivial,trivial⟩ rfl (.refl _)
     ·refine s_q (.ptr 0 0 1) rfl trivial rfl<|s_q (.int .i64 a_1.N) rfl nle rfl<|s_do (o_call (w_spec_l01In _ _ _ _ er16) rfl (.refl _) rfl)<|s_mov (.bool r_15) rfl<|s_lit (s:=40) (b:=false) rfl (bf c17)<|s_off rfl rfl<|s_off rfl rfl<|s_off rfl rfl<|s_q (.bool false) rfl trivial rfl<|s_mov (.bool false) rfl<|dk<|w_ret<|?_;obtain rfl:=os hf;exact r_flat ⟨trivial,trivial⟩ rfl (.refl _)
    ·refine w_condf rfl (bf c14)<|w_skip<|k_blk<|k_seq<|sr<|s_mov (.bool false) rfl<|dk<|w_ret<|?_;obtain rfl:=os hf;exact r_flat ⟨trivial,trivial⟩ rfl (.refl _)

/- spec.DatumOK -/
def c86:ACode :=
 (.seq (.reg (tm 2 (.c (.bool false)) .done))
 (.seq (.seq (.reg (tm 4 (.t 0) (tq 5 (.len (.t 4)) (tq 6 (.bin .gtr (.t 5) (.c (.int .i64 4096))) .done))))
 (.cond (.t 6) (.seq (.reg (tm 2 (.c (.bool false)) .done))
 .ret)
 .skip))
 (.seq (.seq (.reg (tm 3 (.c (.int .i64 0)) .done))
 (.block 0 (.loop (.seq (.seq (.reg (tm 7 (.t 3) (tm 8 (.t 0) (tq 9 (.len (.t 8)) (tq 10 (.bin .lss (.t 7) (.t 9)) .done)))))
 (.cond (.t 10) .skip
 (.exit 0)))
 (.seq (.block 1 (.seq (.reg (tm 13 (.t 0) (tm 14 (.t 3) (tq 15 (.iaddr 3 (.t 13) (.t 14)) (tq 16 (.load 3 true (.t 15)) (.l ⟨(some 17),none,.call 114 [(.t 16)]⟩ []
 (tq 18 (.not (.t 17)) (tm 19 (.t 18) (tg 20 19 false (.mov (.t 0)) (tg 21 19 false (.mov (.t 3)) (tg 22 19 false (.iaddr 3 (.t 20) (.t 21)) (tg 23 19 false (.faddr 0 (.t 22)) (tg 24 19 false (.load 1 false (.t 23)) (tg 25 19 false (.mov (.t 0)) (tg 26 19 false (.iaddr 3 (.t 25) (.c (.int .i64 0))) (tg 27 19 false (.faddr 0 (.t 26)) (tg 28 19 false (.load 1 false (.t 27)) (tg 29 19 false (.bin .neq (.t 24) (.t 28)) (tq 30 (.pick (.t 19) (.c (.bool true)) (.t 29)) (tm 31 (.t 30) (tg 32 31 false (.mov (.t 3)) (tg 33 31 false (.bin .gtr (.t 32) (.c (.int .i64 0))) (tg 34 31 false (.mov (.t 33)) (tg 35 34 true (.mov (.t 0)) (tg 36 34 true (.mov (.t 3)) (tg 37 34 true (.bin .sub (.t 36) (.c (.int .i64 1))) (tg 38 34 true (.iaddr 3 (.t 35) (.t 37)) (tg 39 34 true (.load 3 true (.t 38)) (tg 40 34 true (.mov (.t 0)) (tg 41 34 true (.mov (.t 3)) (tg 42 34 true (.iaddr 3 (.t 40) (.t 41)) (tg 43 34 true (.load 3 true (.t 42)) (.l ⟨(some 44),(some (34,true)),.call 115 [(.t 39),(.t 43)]⟩ []
 (tg 45 34 true (.bin .geq (.t 44) (.c (.int .i64 0))) (tg 46 31 false (.pick (.t 34) (.t 45) (.c (.bool false))) (tq 47 (.pick (.t 31) (.c (.bool true)) (.t 46)) .done))) .non))))))))))))))))))))))))))) .non))))))
 (.cut (.cond (.t 47) (.seq (.reg (tm 2 (.c (.bool false)) .done))
 .ret)
 .skip))))
 (.reg (tm 11 (.t 3) (tq 12 (.bin .add (.t 11) (.c (.int .i64 1))) (tm 3 (.t 12) .done)))))))))
 (.cut (.seq (.reg (tm 48 (.t 0) (tq 49 (.len (.t 48)) (tq 50 (.bin .leq (.t 49) (.c (.int .i64 8))) (tm 2 (.t 50) .done)))))
 .ret)))))
theorem fc86:fcomp Try.prog Try.f86 = some (c86.erase,[.mov (.t 2)],51):=by kernel_rfl
def spec_DatumOK_L1 (d_1:(List GAtom)):List GAtom → Nat → Option (Fl Bool Unit)
  | [],i_83 =>
    some (.go ())
  | x_131 :: xs,i_83 =>
    (((spec_AtomOK x_131).bind fun r_147 =>
    if (!r_147) then
    some true
    else
    (idx d_1 0).bind fun x_150 =>
    if (x_131.Kind != x_150.Kind) then
    some true
    else
    if (decide ((i_83:Int) > 0)) then
    (idx d_1 (w64 ((i_83:Int) - 1))).bind fun x_154 =>
    (spec_l03Order x_154 x_131).bind fun r_156 =>
    some (decide (r_156 ≥ 0))
    else
    some false:Option Bool)).bind fun s47_145 =>
    if s47_145 then
    some (.ret false)
    else
    spec_DatumOK_L1 d_1 xs (i_83 + 1)

def spec_DatumOK (d_1:(List GAtom)):Option Bool :=
    if (decide ((d_1.length:Int) > 4096)) then
    some false
    else
    (spec_DatumOK_L1 d_1 d_1 0).bind fun q => (match q with
    | .ret r => some r
    | .go _ =>
    some (decide ((d_1.length:Int) ≤ 8)))
theorem w_spec_DatumOK (d_1:(List GAtom)) (r:Bool) (hf:spec_DatumOK d_1 = some r):CallOK Try.prog 86 .flat [(.lst 3 (d_1.map encGAtom))] (.bool r):=by
 refine CallOK.of_awp mixed Try.func86 fc86 nle ?_;rw [argT_eq];unfold spec_DatumOK at hf;unfold c86;refine (show awp Try.prog false 0 _ (ofL [(0,(.lst 3 (d_1.map encGAtom)))]) [] _ from ?_);refine sr<|s_mov (.bool false) rfl<|dk<|awp_seq<|sr<|s_mov (.lst 3 (d_1.map encGAtom)) rfl<|s_dof (o_len (enc:=encGAtom) rfl) fun hl2 => s_q (.bool (decide ((d_1.length:Int) > 4096))) rfl rfl rfl<|dk<|?_
 rcases oi hf with ⟨c3,hf⟩ | ⟨c3,hf⟩
 ·refine w_condt rfl c3<|sr<|s_mov (.bool false) rfl<|dk<|w_ret<|?_;obtain rfl:=os hf;exact r_flat ⟨trivial,trivial⟩ rfl (.refl _)
 ·refine w_condf rfl (bf c3)<|w_skip<|k_seq<|awp_seq<|sr<|s_mov (.int .i64 0) rfl<|dk<|?_
  obtain ⟨p124,hb1,hf⟩:=ob hf
  refine awp_cutx (X:={q:Unit // p124 = .go q}) (fun q => ([(0,(.lst 3 (d_1.map encGAtom)))],[])) ?_ ?_
  ·refine awp_loop (X:={q:Nat // spec_DatumOK_L1 d_1 (d_1.drop q) q = some p124}) (fun q => ([(0,(.lst 3 (d_1.map encGAtom))),(3,(.int .i64 (q.1:Int)))],[])) (fun q => d_1.length - q.1) ⟨0,hb1⟩ ⟨[],[],_,_,rfl,rfl,⟨.refl _,⟨.refl _,trivial⟩⟩,(.refl _)⟩ ?_
   rintro ⟨i_83,hc1⟩
   have hc1:spec_DatumOK_L1 d_1 (d_1.drop i_83) i_83 = some p124:=hc1
   refine (show awp Try.prog false 0 _ (ofL [(0,(.lst 3 (d_1.map encGAtom))),(3,(.int .i64 (i_83:Int)))]) [] _ from ?_)
   rcases dropc d_1 i_83 with ⟨hie127,hd130⟩ | ⟨hlt125,x_131,hx126,hd130⟩
   ·rw [hd130,spec_DatumOK_L1.eq_1] at hc1
    have hq129:=dlf hie127
    refine awp_seq<|sr<|s_mov (.int .i64 (i_83:Int)) rfl<|s_mov (.lst 3 (d_1.map encGAtom)) rfl<|s_dof (o_len (enc:=encGAtom) rfl) fun hl132 => s_q (.bool (decide ((i_83:Int) < (d_1.length:Int)))) rfl rfl rfl<|dk<|w_condf rfl hq129<|w_exit<|k_seqx<|k_loopx<|k_blkx<|?_;obtain rfl:=os hc1;exact k_cutn ⟨_,rfl⟩ ⟨[],[],_,_,rfl,rfl,⟨.refl _,trivial⟩,(.refl _)⟩
   ·rw [hd130,spec_DatumOK_L1.eq_2] at hc1
    have hq129:=dlt hlt125
    refine awp_seq<|sr<|s_mov (.int .i64 (i_83:Int)) rfl<|s_mov (.lst 3 (d_1.map encGAtom)) rfl<|s_dof (o_len (enc:=encGAtom) rfl) fun hl133 => s_q (.bool (decide ((i_83:Int) < (d_1.length:Int)))) rfl rfl rfl<|dk<|w_condt rfl hq129<|w_skip<|k_seq<|awp_seq<|w_blk<|awp_seq<|?_
    obtain ⟨s47_145,hb2,hc1⟩:=ob hc1
    refine awp_cut ([(0,(.lst 3 (d_1.map encGAtom))),(3,(.int .i64 (i_83:Int))),(47,(.bool s47_145))],[]) ?_ ?_
    ·refine w_reg<|s_mov (.lst 3 (d_1.map encGAtom)) rfl<|s_mov (.int .i64 (i_83:Int)) rfl<|s_do (o_iaddrn (enc:=encGAtom) rfl rfl hx126)<|s_q (encGAtom x_131) rfl nle rfl<|?_
     obtain ⟨r_147,er148,hb2⟩:=ob hb2
     refine s_dol (o_call (w_spec_AtomOK _ _ er148) rfl (.refl _) rfl) a_same trivial<|s_q (.bool (!r_147)) rfl trivial rfl<|s_mov (.bool (!r_147)) rfl<|?_
     rcases oi hb2 with ⟨c149,hb2⟩ | ⟨c149,hb2⟩
     ·refine s_lit (s:=19) (b:=true) rfl c149<|s_off rfl rfl<|s_off rfl rfl<|s_off rfl rfl<|s_off rfl rfl<|s_off rfl rfl<|s_off rfl rfl<|s_off rfl rfl<|s_off rfl rfl<|s_off rfl rfl<|s_off rfl rfl<|s_q (.bool true) rfl trivial rfl<|s_mov (.bool true) rfl<|s_off rfl rfl<|s_off rfl rfl<|s_off rfl rfl<|s_offs rfl<|s_offs rfl<|s_offs rfl<|s_offs rfl<|s_offs rfl<|s_offs rfl<|s_offs rfl<|s_offs rfl<|s_offs rfl<|s_offsl rfl trivial<|s_offs rfl<|s_off rfl rfl<|s_q (.bool true) rfl trivial rfl<|w_done<|?_;obtain rfl:=os hb2;exact ⟨[],[],_,_,rfl,rfl,⟨.refl _,⟨.refl _,⟨.refl _,trivial⟩⟩⟩,(.refl _)⟩
     ·refine s_lit (s:=19) (b:=false) rfl (bf c149)<|s_on rfl<|s_mov (.lst 3 (d_1.map encGAtom)) rfl<|s_on rfl<|s_mov (.int .i64 (i_83:Int)) rfl<|s_on rfl<|s_do (o_iaddrn (enc:=encGAtom) rfl rfl hx126)<|s_on rfl<|s_q (.iptr (encGAtom x_131) 0) rfl trivial rfl<|s_on rfl<|s_q (.int .i64 x_131.Kind) rfl nle rfl<|s_on rfl<|s_mov (.lst 3 (d_1.map encGAtom)) rfl<|s_on rfl<|?_
      obtain ⟨x_150,ex151,hb2⟩:=ob hb2
      refine s_do (o_iaddr (enc:=encGAtom) rfl rfl (idx0 ex151) (idx1 ex151))<|s_on rfl<|s_q (.iptr (encGAtom x_150) 0) rfl trivial rfl<|s_on rfl<|s_q (.int .i64 x_150.Kind) rfl nle rfl<|s_on rfl<|s_q (.bool (x_131.Kind != x_150.Kind)) rfl rfl rfl<|s_q (.bool (x_131.Kind != x_150.Kind)) rfl trivial rfl<|s_mov (.bool (x_131.Kind != x_150.Kind)) rfl<|?_
      rcases oi hb2 with ⟨c152,hb2⟩ | ⟨c152,hb2⟩
      ·refine s_lit (s:=31) (b:=true) rfl c152<|s_off rfl rfl<|s_off rfl rfl<|s_off rfl rfl<|s_offs rfl<|s_offs rfl<|s_offs rfl<|s_offs rfl<|s_offs rfl<|s_offs rfl<|s_offs rfl<|s_offs rfl<|s_offs rfl<|s_offsl rfl trivial<|s_offs rfl<|s_off rfl rfl<|s_q (.bool true) rfl trivial rfl<|w_done<|?_;obtain rfl:=os hb2;exact ⟨[],[],_,_,rfl,rfl,⟨.refl _,⟨.refl _,⟨.refl _,trivial⟩⟩⟩,(.refl _)⟩
      ·refine s_lit (s:=31) (b:=false) rfl (bf c152)<|s_on rfl<|s_mov (.int .i64 (i_83:Int)) rfl<|s_on rfl<|s_q (.bool (decide ((i_83:Int) > 0))) rfl rfl rfl<|s_on rfl<|s_mov (.bool (decide ((i_83:Int) > 0))) rfl<|?_
       rcases oi hb2 with ⟨c153,hb2⟩ | ⟨c153,hb2⟩
       ·refine s_lit (s:=34) (b:=true) rfl c153<|s_on rfl<|s_mov (.lst 3 (d_1.map encGAtom)) rfl<|s_on rfl<|s_mov (.int .i64 (i_83:Int)) rfl<|s_on rfl<|s_q (.int .i64 (w64 ((i_83:Int) - 1))) rfl rfl rfl<|s_on rfl<|?_
        obtain ⟨x_154,ex155,hb2⟩:=ob hb2
        refine s_do (o_iaddr (enc:=encGAtom) rfl rfl (idx0 ex155) (idx1 ex155))<|s_on rfl<|s_q (encGAtom x_154) rfl nle rfl<|s_on rfl<|s_mov (.lst 3 (d_1.map encGAtom)) rfl<|s_on rfl<|s_mov (.int .i64 (i_83:Int)) rfl<|s_on rfl<|s_do (o_iaddrn (enc:=encGAtom) rfl rfl hx126)<|s_on rfl<|s_q (encGAtom x_131) rfl nle rfl<|s_onl rfl<|?_
        obtain ⟨r_156,er157,hb2⟩:=ob hb2
        refine s_dol (o_call (w_spec_l03Order _ _ _ er157) rfl (.refl _) rfl) a_same trivial<|s_on rfl<|s_q (.bool (decide (r_156 ≥ 0))) rfl rfl rfl<|s_on rfl<|s_q (.bool (decide (r_156 ≥ 0))) rfl trivial rfl<|s_q (.bool (decide (r_156 ≥ 0))) rfl trivial rfl<|w_done<|?_;obtain rfl:=os hb2;exact ⟨[],[],_,_,rfl,rfl,⟨.refl _,⟨.refl _,⟨.refl _,trivial⟩⟩⟩,(.refl _)⟩
       ·refine s_lit (s:=34) (b:=false) rfl (bf c153)<|s_off rfl rfl<|s_off rfl rfl<|s_off rfl rfl<|s_off rfl rfl<|s_off rfl rfl<|s_off rfl rfl<|s_off rfl rfl<|s_off rfl rfl<|s_off rfl rfl<|s_offl rfl rfl trivial<|s_off rfl rfl<|s_on rfl<|s_q (.bool false) rfl trivial rfl<|s_q (.bool false) rfl trivial rfl<|w_done<|?_;obtain rfl:=os hb2;exact ⟨[],[],_,_,rfl,rfl,⟨.refl _,⟨.refl _,⟨.refl _,trivial⟩⟩⟩,(.refl _)⟩
    ·rcases oi hc1 with ⟨c158,hc1⟩ | ⟨c158,hc1⟩
     ·refine w_condt rfl c158<|sr<|s_mov (.bool false) rfl<|dk<|w_ret<|?_;obtain rfl:=os hc1;obtain rfl:=os hf;exact r_flat ⟨trivial,trivial⟩ rfl (.refl _)
     ·refine w_condf rfl (bf c158)<|w_skip<|k_blk<|k_seq<|w_reg<|s_mov (.int .i64 (i_83:Int)) rfl<|s_q (.int .i64 (w64 ((i_83:Int) + 1))) rfl rfl rfl<|s_mov (.int .i64 (w64 ((i_83:Int) + 1))) rfl<|w_done<|?_;exact k_loopn ⟨(i_83 + 1),hc1⟩ (mul hlt125) ⟨[],[],_,_,rfl,rfl,⟨.refl _,⟨.of_eq (congrArg (AV.int _) (w64_incr hlt125 hl133)),trivial⟩⟩,(.refl _)⟩
  ·rintro ⟨_,rfl⟩
   refine sr<|s_mov (.lst 3 (d_1.map encGAtom)) rfl<|s_dof (o_len (enc:=encGAtom) rfl) fun hl159 => s_q (.bool (decide ((d_1.length:Int) ≤ 8))) rfl rfl rfl<|s_mov (.bool (decide ((d_1.length:Int) ≤ 8))) rfl<|dk<|w_ret<|?_;obtain rfl:=os hf;exact r_flat ⟨trivial,trivial⟩ rfl (.refl _)

/- spec.l04Fits -/
def c90:ACode :=
 (.seq (.reg (tq 2 (.box 8 (.t 0)) (tm 4 (.c (.int .i64 0)) .done)))
 (.seq (.seq (.reg (tm 6 (.t 1) (tq 7 (.len (.t 6)) (tq 8 (.bin .gtr (.t 7) (.c (.int .i64 0))) (tm 9 (.t 8) (tg 10 9 true (.mov (.t 1)) (tg 11 9 true (.iaddr 3 (.t 10) (.c (.int .i64 0))) (tg 12 9 true (.faddr 0 (.t 11)) (tg 13 9 true (.load 1 false (.t 12)) (tg 14 9 true (.faddr 1 (.t 2)) (tg 15 9 true (.load 1 false (.t 14)) (tg 16 9 true (.bin .neq (.t 13) (.t 15)) (tq 17 (.pick (.t 9) (.t 16) (.c (.bool false))) .done)))))))))))))
 (.cut (.cond (.t 17) (.seq (.reg (tm 4 (.c (.int .i64 9)) .done))
 .ret)
 .skip)))
 (.seq (.seq (.reg (tm 18 (.t 1) (tq 19 (.len (.t 18)) (tq 20 (.faddr 2 (.t 2)) (tq 21 (.load 1 false (.t 20)) (tq 22 (.faddr 3 (.t 2)) (tq 23 (.load 1 false (.t 22)) (tq 24 (.call 112 [(.t 19),(.t 21),(.t 23)]) (tq 25 (.not (.t 24)) .done)))))))))
 (.cond (.t 25) (.seq (.reg (tm 4 (.c (.int .i64 6)) .done))
 .ret)
 .skip))
 (.seq (.seq (.reg (tm 5 (.c (.int .i64 0)) .done))
 (.block 0 (.loop (.seq (.seq (.reg (tm 26 (.t 5) (tm 27 (.t 1) (tq 28 (.len (.t 27)) (tq 29 (.bin .lss (.t 26) (.t 28)) .done)))))
 (.cond (.t 29) .skip
 (.exit 0)))
 (.seq (.block 1 (.seq (.reg (tq 32 (.faddr 1 (.t 2)) (tq 33 (.load 1 false (.t 32)) (tq 34 (.bin .eql (.t 33) (.c (.int .i64 1))) (tm 35 (.t 34) (tg 36 35 true (.mov (.t 1)) (tg 37 35 true (.mov (.t 5)) (tg 38 35 true (.iaddr 3 (.t 36) (.t 37)) (tg 39 35 true (.faddr 1 (.t 38)) (tg 40 35 true (.load 1 false (.t 39)) (tg 41 35 true (.faddr 4 (.t 2)) (tg 42 35 true (.load 1 false (.t 41)) (tg 43 35 true (.faddr 5 (.t 2)) (tg 44 35 true (.load 1 false (.t 43)) (.l ⟨(some 45),(some (35,true)),.call 112 [(.t 40),(.t 42),(.t 44)]⟩ []
 (tg 46 35 true (.not (.t 45)) (tq 47 (.pick (.t 35) (.t 46) (.c (.bool false))) .done)) .non)))))))))))))))
 (.cut (.cond (.t 47) (.seq (.reg (tm 4 (.c (.int .i64 4)) .done))
 .ret)
 .skip))))
 (.reg (tm 30 (.t 5) (tq 31 (.bin .add (.t 30) (.c (.int .i64 1))) (tm 5 (.t 31) .done)))))))))
 (.cut (.seq (.reg (tm 4 (.c (.int .i64 0)) .done))
 .ret))))))
theorem fc90:fcomp Try.prog Try.f90 = some (c90.erase,[.mov (.t 4)],48):=by kernel_rfl
def spec_l04Fits_L1 (c_1:GColumn):List GAtom → Option (Fl Int Unit)
  | [] =>
    some (.go ())
  | x_73 :: xs =>
    ((if (c_1.Kind == 1) then
    (spec_l01In x_73.N c_1.Low c_1.High).bind fun r_82 =>
    some (!r_82)
    else
    some false:Option Bool)).bind fun s47_79 =>
    if s47_79 then
    some (.ret 4)
    else
    spec_l04Fits_L1 c_1 xs 

def spec_l04Fits (c_1:GColumn) (d_2:(List GAtom)):Option Int :=
    ((if (decide ((d_2.length:Int) > 0)) then
    (idx d_2 0).bind fun x_11 =>
    some (x_11.Kind != c_1.Kind)
    else
    some false:Option Bool)).bind fun s17_7 =>
    if s17_7 then
    some 9
    else
    (spec_l01In (d_2.length:Int) c_1.Min c_1.Max).bind fun r_15 =>
    if (!r_15) then
    some 6
    else
    (spec_l04Fits_L1 c_1 d_2 ).bind fun q => (match q with
    | .ret r => some r
    | .go _ =>
    some 0)
theorem w_spec_l04Fits (c_1:GColumn) (d_2:(List GAtom)) (r:Int) (hf:spec_l04Fits c_1 d_2 = some r):CallOK Try.prog 90 .flat [(encGColumn c_1),(.lst 3 (d_2.map encGAtom))] (.int .i64 r):=by
 refine CallOK.of_awp mixed Try.func90 fc90 nle ?_;rw [argT_eq];unfold spec_l04Fits at hf;unfold c90;refine (show awp Try.prog false 0 _ (ofL [(0,(encGColumn c_1)),(1,(.lst 3 (d_2.map encGAtom)))]) [] _ from ?_);refine sr<|s_do (o_box (j:=0) (c:=(.agg [(.str c_1.Name),(.int .i64 c_1.Kind),(.int .i64 c_1.Min),(.int .i64 c_1.Max),(.int .i64 c_1.Low),(.int .i64 c_1.High),(.str c_1.Ref),(.bool c_1.Strong)])) rfl trivial rfl rfl)<|s_mov (.int .i64 0) rfl<|dk<|awp_seq<|awp_seq<|?_
 obtain ⟨s17_7,hb1,hf⟩:=ob hf
 refine awp_cut ([(1,(.lst 3 (d_2.map encGAtom))),(2,(.ptr 0 0 0)),(17,(.bool s17_7))],[.box 8 (.agg [(.str c_1.Name),(.int .i64 c_1.Kind),(.int .i64 c_1.Min),(.int .i64 c_1.Max),(.int .i64 c_1.Low),(.int .i64 c_1.High),(.str c_1.Ref),(.bool c_1.Strong)])]) ?_ ?_
 ·refine w_reg ?_
  rcases oi hb1 with ⟨c10,hb1⟩ | ⟨c10,hb1⟩
  ·obtain ⟨x_11,ex12,hb1⟩:=ob hb1
   refine s_mov (.lst 3 (d_2.map encGAtom)) rfl<|s_dof (o_len (enc:=encGAtom) rfl) fun hl9 => s_q (.bool (decide ((d_2.length:Int) > 0))) rfl rfl rfl<|s_mov (.bool (decide ((d_2.length:Int) > 0))) rfl<|s_lit (s:=9) (b:=true) rfl c10<|s_on rfl<|s_mov (.lst 3 (d_2.map encGAtom)) rfl<|s_on rfl<|s_do (o_iaddr (enc:=encGAtom) rfl rfl (idx0 ex12) (idx1 ex12))<|s_on rfl<|s_q (.iptr (encGAtom x_11) 0) rfl trivial rfl<|s_on rfl<|s_q (.int .i64 x_11.Kind) rfl nle rfl<|s_on rfl<|s_q (.ptr 0 0 1) rfl trivial rfl<|s_on rfl<|s_q (.int .i64 c_1.Kind) rfl nle rfl<|s_on rfl<|s_q (.bool (x_11.Kind != c_1.Kind)) rfl rfl rfl<|s_q (.bool (x_11.Kind != c_1.Kind)) rfl trivial rfl<|?_
   refine w_done ?_;obtain rfl:=os hb1;exact ⟨[],[0],_,_,rfl,rfl,⟨.refl _,⟨.refl _,⟨.refl _,trivial⟩⟩⟩,(.refl _)⟩
  ·refine s_mov (.lst 3 (d_2.map encGAtom)) rfl<|s_dof (o_len (enc:=encGAtom) rfl) fun hl9 => s_q (.bool (decide ((d_2.length:Int) > 0))) rfl rfl rfl<|s_mov (.bool (decide ((d_2.length:Int) > 0))) rfl<|s_lit (s:=9) (b:=false) rfl (bf c10)<|s_off rfl rfl<|s_off rfl rfl<|s_off rfl rfl<|s_off rfl rfl<|s_off rfl rfl<|s_off rfl rfl<|s_off rfl rfl<|s_q (.bool false) rfl trivial rfl<|w_done<|?_;obtain rfl:=os hb1;exact ⟨[],[0],_,_,rfl,rfl,⟨.refl _,⟨.refl _,⟨.refl _,trivial⟩⟩⟩,(.refl _)⟩
 ·rcases oi hf with ⟨c13,hf⟩ | ⟨c13,hf⟩
  ·refine w_condt rfl c13<|sr<|s_mov (.int .i64 9) rfl<|dk<|w_ret<|?_;obtain rfl:=os hf;exact r_flat ⟨trivial,trivial⟩ rfl (.refl _)
  ·refine w_condf rfl (bf c13)<|w_skip<|k_seq<|awp_seq<|sr<|?_
   obtain ⟨r_15,er16,hf⟩:=ob hf
   refine s_mov (.lst 3 (d_2.map encGAtom)) rfl<|s_dof (o_len (enc:=encGAtom) rfl) fun hl14 => s_q (.ptr 0 0 2) rfl trivial rfl<|s_q (.int .i64 c_1.Min) rfl nle rfl<|s_q (.ptr 0 0 3) rfl trivial rfl<|s_q (.int .i64 c_1.Max) rfl nle rfl<|s_do (o_call (w_spec_l01In _ _ _ _ er16) rfl (.refl _) rfl)<|s_q (.bool (!r_15)) rfl trivial rfl<|dk<|?_
   rcases oi hf with ⟨c17,hf⟩ | ⟨c17,hf⟩
   ·refine w_condt rfl c17<|sr<|s_mov (.int .i64 6) rfl<|dk<|w_ret<|?_;obtain rfl:=os hf;exact r_flat ⟨trivial,trivial⟩ rfl (.refl _)
   ·refine w_condf rfl (bf c17)<|w_skip<|k_seq<|awp_seq<|sr<|s_mov (.int .i64 0) rfl<|dk<|?_
    obtain ⟨p66,hb1,hf⟩:=ob hf
    refine awp_cutx (X:={q:Unit // p66 = .go q}) (fun q => ([],[])) ?_ ?_
    ·refine awp_loop (X:={q:Nat // spec_l04Fits_L1 c_1 (d_2.drop q)  = some p66}) (fun q => ([(1,(.lst 3 (d_2.map encGAtom))),(2,(.ptr 0 0 0)),(5,(.int .i64 (q.1:Int)))],[.box 8 (.agg [(.str c_1.Name),(.int .i64 c_1.Kind),(.int .i64 c_1.Min),(.int .i64 c_1.Max),(.int .i64 c_1.Low),(.int .i64 c_1.High),(.str c_1.Ref),(.bool c_1.Strong)])])) (fun q => d_2.length - q.1) ⟨0,hb1⟩ ⟨[],[0],_,_,rfl,rfl,⟨.refl _,⟨.refl _,⟨.refl _,trivial⟩⟩⟩,(.refl _)⟩ ?_
     rintro ⟨i_49,hc1⟩
     have hc1:spec_l04Fits_L1 c_1 (d_2.drop i_49)  = some p66:=hc1
     refine (show awp Try.prog false 0 _ (ofL [(1,(.lst 3 (d_2.map encGAtom))),(2,(.ptr 0 0 0)),(5,(.int .i64 (i_49:Int)))]) [.box 8 (.agg [(.str c_1.Name),(.int .i64 c_1.Kind),(.int .i64 c_1.Min),(.int .i64 c_1.Max),(.int .i64 c_1.Low),(.int .i64 c_1.High),(.str c_1.Ref),(.bool c_1.Strong)])] _ from ?_)
     rcases dropc d_2 i_49 with ⟨hie69,hd72⟩ | ⟨hlt67,x_73,hx68,hd72⟩
     ·rw [hd72,spec_l04Fits_L1.eq_1] at hc1
      have hq71:=dlf hie69
      refine awp_seq<|sr<|s_mov (.int .i64 (i_49:Int)) rfl<|s_mov (.lst 3 (d_2.map encGAtom)) rfl<|s_dof (o_len (enc:=encGAtom) rfl) fun hl74 => s_q (.bool (decide ((i_49:Int) < (d_2.length:Int)))) rfl rfl rfl<|dk<|w_condf rfl hq71<|w_exit<|k_seqx<|k_loopx<|k_blkx<|?_;obtain rfl:=os hc1;exact k_cutn ⟨_,rfl⟩ ⟨[],[],_,_,rfl,rfl,trivial,(.refl _)⟩
     ·rw [hd72,spec_l04Fits_L1.eq_2] at hc1
      have hq71:=dlt hlt67
      refine awp_seq<|sr<|s_mov (.int .i64 (i_49:Int)) rfl<|s_mov (.lst 3 (d_2.map encGAtom)) rfl<|s_dof (o_len (enc:=encGAtom) rfl) fun hl75 => s_q (.bool (decide ((i_49:Int) < (d_2.length:Int)))) rfl rfl rfl<|dk<|w_condt rfl hq71<|w_skip<|k_seq<|awp_seq<|w_blk<|awp_seq<|?_
      obtain ⟨s47_79,hb2,hc1⟩:=ob hc1
      refine awp_cut ([(1,(.lst 3 (d_2.map encGAtom))),(2,(.ptr 0 0 0)),(5,(.int .i64 (i_49:Int))),(47,(.bool s47_79))],[.box 8 (.agg [(.str c_1.Name),(.int .i64 c_1.Kind),(.int .i64 c_1.Min),(.int .i64 c_1.Max),(.int .i64 c_1.Low),(.int .i64 c_1.High),(.str c_1.Ref),(.bool c_1.Strong)])]) ?_ ?_
      ·refine w_reg<|s_q (.ptr 0 0 1) rfl trivial rfl<|s_q (.int .i64 c_1.Kind) rfl nle rfl<|s_q (.bool (c_1.Kind == 1)) rfl rfl rfl<|s_mov (.bool (c_1.Kind == 1)) rfl<|?_
       rcases oi hb2 with ⟨c81,hb2⟩ | ⟨c81,hb2⟩
       ·refine s_lit (s:=35) (b:=true) rfl c81<|s_on rfl<|s_mov (.lst 3 (d_2.map encGAtom)) rfl<|s_on rfl<|s_mov (.int .i64 (i_49:Int)) rfl<|s_on rfl<|s_do (o_iaddrn (enc:=encGAtom) rfl rfl hx68)<|s_on rfl<|s_q (.iptr (encGAtom x_73) 1) rfl trivial rfl<|s_on rfl<|s_q (.int .i64 x_73.N) rfl nle rfl<|s_on rfl<|s_q (.ptr 0 0 4) rfl trivial rfl<|s_on rfl<|s_q (.int .i64 c_1.Low) rfl nle rfl<|s_on rfl<|s_q (.ptr 0 0 5) rfl trivial rfl<|s_on rfl<|s_q (.int .i64 c_1.High) rfl nle rfl<|s_onl rfl<|?_
        obtain ⟨r_82,er83,hb2⟩:=ob hb2
        refine s_dol (o_call (w_spec_l01In _ _ _ _ er83) rfl (.refl _) rfl) a_same trivial<|s_on rfl<|s_q (.bool (!r_82)) rfl trivial rfl<|s_q (.bool (!r_82)) rfl trivial rfl<|w_done<|?_;obtain rfl:=os hb2;exact ⟨[],[0],_,_,rfl,rfl,⟨.refl _,⟨.refl _,⟨.refl _,⟨.refl _,trivial⟩⟩⟩⟩,(.refl _)⟩
       ·refine s_lit (s:=35) (b:=false) rfl (bf c81)<|s_off rfl rfl<|s_off rfl rfl<|s_off rfl rfl<|s_off rfl rfl<|s_off rfl rfl<|s_off rfl rfl<|s_off rfl rfl<|s_off rfl rfl<|s_off rfl rfl<|s_offl rfl rfl trivial<|s_off rfl rfl<|s_q (.bool false) rfl trivial rfl<|w_done<|?_;obtain rfl:=os hb2;exact ⟨[],[0],_,_,rfl,rfl,⟨.refl _,⟨.refl _,⟨.refl _,⟨.refl _,trivial⟩⟩⟩⟩,(.refl _)⟩
      ·rcases oi hc1 with ⟨c84,hc1⟩ | ⟨c84,hc1⟩
       ·refine w_condt rfl c84<|sr<|s_mov (.int .i64 4) rfl<|dk<|w_ret<|?_;obtain rfl:=os hc1;obtain rfl:=os hf;exact r_flat ⟨trivial,trivial⟩ rfl (.refl _)
       ·refine w_condf rfl (bf c84)<|w_skip<|k_blk<|k_seq<|w_reg<|s_mov (.int .i64 (i_49:Int)) rfl<|s_q (.int .i64 (w64 ((i_49:Int) + 1))) rfl rfl rfl<|s_mov (.int .i64 (w64 ((i_49:Int) + 1))) rfl<|w_done<|?_;exact k_loopn ⟨(i_49 + 1),hc1⟩ (mul hlt67) ⟨[],[0],_,_,rfl,rfl,⟨.refl _,⟨.refl _,⟨.of_eq (congrArg (AV.int _) (w64_incr hlt67 hl75)),trivial⟩⟩⟩,(.refl _)⟩
    ·rintro ⟨_,rfl⟩
     refine sr<|s_mov (.int .i64 0) rfl<|dk<|w_ret<|?_;obtain rfl:=os hf;exact r_flat ⟨trivial,trivial⟩ rfl (.refl _)

/- spec.l05Row -/
def c85:ACode :=
 (.seq (.reg (tq 2 (.box 4 (.t 0)) (tq 3 (.box 2 (.t 1)) (tm 4 (.c (.bool false)) .done))))
 (.seq (.seq (.reg (tq 6 (.faddr 0 (.t 3)) (tq 7 (.load 1 false (.t 6)) (tq 8 (.call 112 [(.t 7),(.c (.int .i64 1)),(.c (.int .i64 1000000))]) (tq 9 (.not (.t 8)) (tm 10 (.t 9) (tg 11 10 false (.faddr 1 (.t 3)) (tg 12 10 false (.load 1 false (.t 11)) (tg 13 10 false (.len (.t 12)) (tg 14 10 false (.faddr 1 (.t 2)) (tg 15 10 false (.load 1 false (.t 14)) (tg 16 10 false (.len (.t 15)) (tg 17 10 false (.bin .neq (.t 13) (.t 16)) (tq 18 (.pick (.t 10) (.c (.bool true)) (.t 17)) .done))))))))))))))
 (.cut (.cond (.t 18) (.seq (.reg (tm 4 (.c (.bool false)) .done))
 .ret)
 .skip)))
 (.seq (.seq (.reg (tm 5 (.c (.int .i64 0)) .done))
 (.block 0 (.loop (.seq (.seq (.reg (tm 19 (.t 5) (tq 20 (.faddr 1 (.t 3)) (tq 21 (.load 1 false (.t 20)) (tq 22 (.len (.t 21)) (tq 23 (.bin .lss (.t 19) (.t 22)) .done))))))
 (.cond (.t 23) .skip
 (.exit 0)))
 (.seq (.block 1 (.seq (.reg (tq 26 (.faddr 1 (.t 3)) (tq 27 (.load 1 false (.t 26)) (tm 28 (.t 5) (tq 29 (.iaddr 1 (.t 27) (.t 28)) (tq 30 (.load 1 false (.t 29)) (.l ⟨(some 31),none,.call 86 [(.t 30)]⟩ []
 (tq 32 (.not (.t 31)) (tm 33 (.t 32) (tg 34 33 false (.faddr 1 (.t 2)) (tg 35 33 false (.load 1 false (.t 34)) (tg 36 33 false (.mov (.t 5)) (tg 37 33 false (.iaddr 8 (.t 35) (.t 36)) (tg 38 33 false (.load 8 true (.t 37)) (tg 39 33 false (.faddr 1 (.t 3)) (tg 40 33 false (.load 1 false (.t 39)) (tg 41 33 false (.mov (.t 5)) (tg 42 33 false (.iaddr 1 (.t 40) (.t 41)) (tg 43 33 false (.load 1 false (.t 42)) (.l ⟨(some 44),(some (33,false)),.call 90 [(.t 38),(.t 43)]⟩ []
 (tg 45 33 false (.bin .neq (.t 44) (.c (.int .i64 0))) (tq 46 (.pick (.t 33) (.c (.bool true)) (.t 45)) .done)) .non))))))))))))) .non)))))))
 (.cut (.cond (.t 46) (.seq (.reg (tm 4 (.c (.bool false)) .done))
 .ret)
 .skip))))
 (.reg (tm 24 (.t 5) (tq 25 (.bin .add (.t 24) (.c (.int .i64 1))) (tm 5 (.t 25) .done)))))))))
 (.cut (.seq (.reg (tm 4 (.c (.bool true)) .done))
 .ret)))))
theorem fc85:fcomp Try.prog Try.f85 = some (c85.erase,[.mov (.t 4)],47):=by kernel_rfl
def spec_l05Row_L1 (t_1:GTable):List (List GAtom) → Nat → Option (Fl Bool Unit)
  | [],i_69 =>
    some (.go ())
  | x_105 :: xs,i_69 =>
    (((spec_DatumOK x_105).bind fun r_117 =>
    if (!r_117) then
    some true
    else
    (idx t_1.Columns (i_69:Int)).bind fun x_120 =>
    (spec_l04Fits x_120 x_105).bind fun r_122 =>
    some (r_122 != 0):Option Bool)).bind fun s46_115 =>
    if s46_115 then
    some (.ret false)
    else
    spec_l05Row_L1 t_1 xs (i_69 + 1)

def spec_l05Row (t_1:GTable) (r_2:GRow):Option Bool :=
    (((spec_l01In r_2.Id 1 1000000).bind fun r_9 =>
    some (bif (!r_9) then true else ((r_2.Cells.length:Int) != (t_1.Columns.length:Int))):Option Bool)).bind fun s18_7 =>
    if s18_7 then
    some false
    else
    (spec_l05Row_L1 t_1 r_2.Cells 0).bind fun q => (match q with
    | .ret r => some r
    | .go _ =>
    some true)
theorem w_spec_l05Row (t_1:GTable) (r_2:GRow) (r:Bool) (hf:spec_l05Row t_1 r_2 = some r):CallOK Try.prog 85 .flat [(encGTable t_1),(encGRow r_2)] (.bool r):=by
 refine CallOK.of_awp mixed Try.func85 fc85 nle ?_;rw [argT_eq];unfold spec_l05Row at hf;unfold c85;refine (show awp Try.prog false 0 _ (ofL [(0,(encGTable t_1)),(1,(encGRow r_2))]) [] _ from ?_);refine sr<|s_do (o_box (j:=0) (c:=(.agg [(.str t_1.Name),(.lst 8 (t_1.Columns.map encGColumn)),(.lst 1 (t_1.Unique.map encI)),(.bool t_1.Root)])) rfl trivial rfl rfl)<|s_do (o_box (j:=1) (c:=(.agg [(.int .i64 r_2.Id),(.lst 1 (r_2.Cells.map (encL 3 encGAtom)))])) rfl trivial rfl rfl)<|s_mov (.bool false) rfl<|dk<|awp_seq<|awp_seq<|?_
 obtain ⟨s18_7,hb1,hf⟩:=ob hf
 refine awp_cut ([(2,(.ptr 0 0 0)),(3,(.ptr 1 0 0)),(18,(.bool s18_7))],[.box 4 (.agg [(.str t_1.Name),(.lst 8 (t_1.Columns.map encGColumn)),(.lst 1 (t_1.Unique.map encI)),(.bool t_1.Root)]),.box 2 (.agg [(.int .i64 r_2.Id),(.lst 1 (r_2.Cells.map (encL 3 encGAtom)))])]) ?_ ?_
 ·refine w_reg<|s_q (.ptr 1 0 0) rfl trivial rfl<|s_q (.int .i64 r_2.Id) rfl nle rfl<|?_
  obtain ⟨r_9,er10,hb1⟩:=ob hb1
  refine s_do (o_call (w_spec_l01In _ _ _ _ er10) rfl (.refl _) rfl)<|s_q (.bool (!r_9)) rfl trivial rfl<|s_mov (.bool (!r_9)) rfl<|?_;refine s_g (v:=(!r_9)) (.ptr 1 0 1) rfl (fun hv => by (try simp only [gs_on hv]);exact ⟨rfl,trivial,rfl⟩) ?_;refine s_g (v:=(!r_9)) (.lst 1 (r_2.Cells.map (encL 3 encGAtom))) rfl (fun hv => by (try simp only [gs_on hv]);exact ⟨rfl,nle,rfl⟩) ?_;refine s_g (v:=(!r_9)) (.int .i64 (r_2.Cells.length:Int)) rfl (fun hv => by (try simp only [gs_on hv]);exact ⟨rfl,trivial,lenV _ _⟩) ?_;refine s_g (v:=(!r_9)) (.ptr 0 0 1) rfl (fun hv => by (try simp only [gs_on hv]);exact ⟨rfl,trivial,rfl⟩) ?_;refine s_g (v:=(!r_9)) (.lst 8 (t_1.Columns.map encGColumn)) rfl (fun hv => by (try simp only [gs_on hv]);exact ⟨rfl,nle,rfl⟩) ?_
  refine s_g (v:=(!r_9)) (.int .i64 (t_1.Columns.length:Int)) rfl (fun hv => by (try simp only [gs_on hv]);exact ⟨rfl,trivial,lenV _ _⟩) ?_;refine s_g (v:=(!r_9)) (.bool ((r_2.Cells.length:Int) != (t_1.Columns.length:Int))) rfl (fun hv => by (try simp only [gs_on hv]);exact ⟨rfl,rfl,rfl⟩) ?_;refine s_pick (x:=true) (y:=((r_2.Cells.length:Int) != (t_1.Columns.length:Int))) rfl (fun hv => by (try simp only [gs_on hv]);rfl) (fun hv => by (try simp only [gs_on hv]);rfl) ?_;refine w_done ?_;obtain rfl:=os hb1;exact ⟨[],[0,1],_,_,rfl,rfl,⟨.refl _,⟨.refl _,⟨.refl _,trivial⟩⟩⟩,(.refl _)⟩
 ·rcases oi hf with ⟨c13,hf⟩ | ⟨c13,hf⟩
  ·refine w_condt rfl c13<|sr<|s_mov (.bool false) rfl<|dk<|w_ret<|?_;obtain rfl:=os hf;exact r_flat ⟨trivial,trivial⟩ rfl (.refl _)
  ·refine w_condf rfl (bf c13)<|w_skip<|k_seq<|awp_seq<|sr<|s_mov (.int .i64 0) rfl<|dk<|?_
   obtain ⟨p98,hb1,hf⟩:=ob hf
   refine awp_cutx (X:={q:Unit // p98 = .go q}) (fun q => ([],[])) ?_ ?_
   ·refine awp_loop (X:={q:Nat // spec_l05Row_L1 t_1 (r_2.Cells.drop q) q = some p98}) (fun q => ([(2,(.ptr 0 0 0)),(3,(.ptr 1 0 0)),(5,(.int .i64 (q.1:Int)))],[.box 4 (.agg [(.str t_1.Name),(.lst 8 (t_1.Columns.map encGColumn)),(.lst 1 (t_1.Unique.map encI)),(.bool t_1.Root)]),.box 2 (.agg [(.int .i64 r_2.Id),(.lst 1 (r_2.Cells.map (encL 3 encGAtom)))])])) (fun q => r_2.Cells.length - q.1) ⟨0,hb1⟩ ⟨[],[0,1],_,_,rfl,rfl,⟨.refl _,⟨.refl _,⟨.refl _,trivial⟩⟩⟩,(.refl _)⟩ ?_
    rintro ⟨i_69,hc1⟩
    have hc1:spec_l05Row_L1 t_1 (r_2.Cells.drop i_69) i_69 = some p98:=hc1
    refine (show awp Try.prog false 0 _ (ofL [(2,(.ptr 0 0 0)),(3,(.ptr 1 0 0)),(5,(.int .i64 (i_69:Int)))]) [.box 4 (.agg [(.str t_1.Name),(.lst 8 (t_1.Columns.map encGColumn)),(.lst 1 (t_1.Unique.map encI)),(.bool t_1.Root)]),.box 2 (.agg [(.int .i64 r_2.Id),(.lst 1 (r_2.Cells.map (encL 3 encGAtom)))])] _ from ?_)
    rcases dropc r_2.Cells i_69 with ⟨hie101,hd104⟩ | ⟨hlt99,x_105,hx100,hd104⟩
    ·rw [hd104,spec_l05Row_L1.eq_1] at hc1
     have hq103:=dlf hie101
     refine awp_seq<|sr<|s_mov (.int .i64 (i_69:Int)) rfl<|s_q (.ptr 1 0 1) rfl trivial rfl<|s_q (.lst 1 (r_2.Cells.map (encL 3 encGAtom))) rfl nle rfl<|s_dof (o_len (enc:=(encL 3 encGAtom)) rfl) fun hl106 => s_q (.bool (decide ((i_69:Int) < (r_2.Cells.length:Int)))) rfl rfl rfl<|dk<|w_condf rfl hq103<|w_exit<|k_seqx<|k_loopx<|k_blkx<|?_;obtain rfl:=os hc1;exact k_cutn ⟨_,rfl⟩ ⟨[],[],_,_,rfl,rfl,trivial,(.refl _)⟩
    ·rw [hd104,spec_l05Row_L1.eq_2] at hc1
     have hq103:=dlt hlt99
     refine awp_seq<|sr<|s_mov (.int .i64 (i_69:Int)) rfl<|s_q (.ptr 1 0 1) rfl trivial rfl<|s_q (.lst 1 (r_2.Cells.map (encL 3 encGAtom))) rfl nle rfl<|s_dof (o_len (enc:=(encL 3 encGAtom)) rfl) fun hl107 => s_q (.bool (decide ((i_69:Int) < (r_2.Cells.length:Int)))) rfl rfl rfl<|dk<|w_condt rfl hq103<|w_skip<|k_seq<|awp_seq<|w_blk<|awp_seq<|?_
     obtain ⟨s46_115,hb2,hc1⟩:=ob hc1
     refine awp_cut ([(2,(.ptr 0 0 0)),(3,(.ptr 1 0 0)),(5,(.int .i64 (i_69:Int))),(46,(.bool s46_115))],[.box 4 (.agg [(.str t_1.Name),(.lst 8 (t_1.Columns.map encGColumn)),(.lst 1 (t_1.Unique.map encI)),(.bool t_1.Root)]),.box 2 (.agg [(.int .i64 r_2.Id),(.lst 1 (r_2.Cells.map (encL 3 encGAtom)))])]) ?_ ?_
     ·refine w_reg<|s_q (.ptr 1 0 1) rfl trivial rfl<|s_q (.lst 1 (r_2.Cells.map (encL 3 encGAtom))) rfl nle rfl<|s_mov (.int .i64 (i_69:Int)) rfl<|s_do (o_iaddrn (enc:=(encL 3 encGAtom)) rfl rfl hx100)<|s_q (.lst 3 (x_105.map encGAtom)) rfl ⟨rfl,rfl⟩ rfl<|?_
      obtain ⟨r_117,er118,hb2⟩:=ob hb2
      refine s_dol (o_call (w_spec_DatumOK _ _ er118) rfl (.refl _) rfl) a_same trivial<|s_q (.bool (!r_117)) rfl trivial rfl<|s_mov (.bool (!r_117)) rfl<|?_
      rcases oi hb2 with ⟨c119,hb2⟩ | ⟨c119,hb2⟩
      ·refine s_lit (s:=33) (b:=true) rfl c119<|s_off rfl rfl<|s_off rfl rfl<|s_off rfl rfl<|s_off rfl rfl<|s_off rfl rfl<|s_off rfl rfl<|s_off rfl rfl<|s_off rfl rfl<|s_off rfl rfl<|s_off rfl rfl<|s_offl rfl rfl trivial<|s_off rfl rfl<|s_q (.bool true) rfl trivial rfl<|w_done<|?_;obtain rfl:=os hb2;exact ⟨[],[0,1],_,_,rfl,rfl,⟨.refl _,⟨.refl _,⟨.refl _,⟨.refl _,trivial⟩⟩⟩⟩,(.refl _)⟩
      ·refine s_lit (s:=33) (b:=false) rfl (bf c119)<|s_on rfl<|s_q (.ptr 0 0 1) rfl trivial rfl<|s_on rfl<|s_q (.lst 8 (t_1.Columns.map encGColumn)) rfl nle rfl<|s_on rfl<|s_mov (.int .i64 (i_69:Int)) rfl<|s_on rfl<|?_
       obtain ⟨x_120,ex121,hb2⟩:=ob hb2
       refine s_do (o_iaddr (enc:=encGColumn) rfl rfl (idx0 ex121) (idx1 ex121))<|s_on rfl<|s_q (encGColumn x_120) rfl nle rfl<|s_on rfl<|s_q (.ptr 1 0 1) rfl trivial rfl<|s_on rfl<|s_q (.lst 1 (r_2.Cells.map (encL 3 encGAtom))) rfl nle rfl<|s_on rfl<|s_mov (.int .i64 (i_69:Int)) rfl<|s_on rfl<|s_do (o_iaddrn (enc:=(encL 3 encGAtom)) rfl rfl hx100)<|s_on rfl<|s_q (.lst 3 (x_105.map encGAtom)) rfl ⟨rfl,rfl⟩ rfl<|s_onl rfl<|?_
       obtain ⟨r_122,er123,hb2⟩:=ob hb2
       refine s_dol (o_call (w_spec_l04Fits _ _ _ er123) rfl (.refl _) rfl) a_same trivial<|s_on rfl<|s_q (.bool (r_122 != 0)) rfl rfl rfl<|s_q (.bool (r_122 != 0)) rfl trivial rfl<|w_done<|?_;obtain rfl:=os hb2;exact ⟨[],[0,1],_,_,rfl,rfl,⟨.refl _,⟨.refl _,⟨.refl _,⟨.refl _,trivial⟩⟩⟩⟩,(.refl _)⟩
     ·rcases oi hc1 with ⟨c124,hc1⟩ | ⟨c124,hc1⟩
      ·refine w_condt rfl c124<|sr<|s_mov (.bool false) rfl<|dk<|w_ret<|?_;obtain rfl:=os hc1;obtain rfl:=os hf;exact r_flat ⟨trivial,trivial⟩ rfl (.refl _)
      ·refine w_condf rfl (bf c124)<|w_skip<|k_blk<|k_seq<|w_reg<|s_mov (.int .i64 (i_69:Int)) rfl<|s_q (.int .i64 (w64 ((i_69:Int) + 1))) rfl rfl rfl<|s_mov (.int .i64 (w64 ((i_69:Int) + 1))) rfl<|w_done<|?_;exact k_loopn ⟨(i_69 + 1),hc1⟩ (mul hlt99) ⟨[],[0,1],_,_,rfl,rfl,⟨.refl _,⟨.refl _,⟨.of_eq (congrArg (AV.int _) (w64_incr hlt99 hl107)),trivial⟩⟩⟩,(.refl _)⟩
   ·rintro ⟨_,rfl⟩
    refine sr<|s_mov (.bool true) rfl<|dk<|w_ret<|?_;obtain rfl:=os hf;exact r_flat ⟨trivial,trivial⟩ rfl (.refl _)

/- spec.RowOK -/
def c45:ACode :=
 (.seq (.reg (tq 2 (.box 4 (.t 0)) (tq 3 (.box 2 (.t 1)) (tm 4 (.c (.bool false)) .done))))
 (.seq (.reg (tq 5 (.load 4 true (.t 2)) (tq 6 (.call 84 [(.t 5)]) (tm 7 (.t 6) (tg 8 7 true (.load 4 true (.t 2)) (tg 9 7 true (.load 2 true (.t 3)) (tg 10 7 true (.call 85 [(.t 8),(.t 9)]) (tq 11 (.pick (.t 7) (.t 10) (.c (.bool false))) (tm 4 (.t 11) .done)))))))))
 .ret))
theorem fc45:fcomp Try.prog Try.f45 = some (c45.erase,[.mov (.t 4)],12):=by kernel_rfl
def spec_RowOK (t_1:GTable) (r_2:GRow):Option Bool :=
    (spec_l04Table t_1).bind fun r_3 =>
    if r_3 then
    (spec_l05Row t_1 r_2).bind fun r_6 =>
    some r_6
    else
    some false
theorem w_spec_RowOK (t_1:GTable) (r_2:GRow) (r:Bool) (hf:spec_RowOK t_1 r_2 = some r):CallOK Try.prog 45 .flat [(encGTable t_1),(encGRow r_2)] (.bool r):=by
 refine CallOK.of_awp mixed Try.func45 fc45 nle ?_;rw [argT_eq];unfold spec_RowOK at hf;unfold c45;refine (show awp Try.prog false 0 _ (ofL [(0,(encGTable t_1)),(1,(encGRow r_2))]) [] _ from ?_);refine sr<|s_do (o_box (j:=0) (c:=(.agg [(.str t_1.Name),(.lst 8 (t_1.Columns.map encGColumn)),(.lst 1 (t_1.Unique.map encI)),(.bool t_1.Root)])) rfl trivial rfl rfl)<|s_do (o_box (j:=1) (c:=(.agg [(.int .i64 r_2.Id),(.lst 1 (r_2.Cells.map (encL 3 encGAtom)))])) rfl trivial rfl rfl)<|s_mov (.bool false) rfl<|dk<|sr<|?_
 obtain ⟨r_3,er4,hf⟩:=ob hf
 rcases oi hf with ⟨c5,hf⟩ | ⟨c5,hf⟩
 ·obtain ⟨r_6,er7,hf⟩:=ob hf
  refine s_q (.agg [(.str t_1.Name),(.lst 8 (t_1.Columns.map encGColumn)),(.lst 1 (t_1.Unique.map encI)),(.bool t_1.Root)]) rfl nle rfl<|s_do (o_call (w_spec_l04Table _ _ er4) rfl (.refl _) rfl)<|s_mov (.bool r_3) rfl<|s_lit (s:=7) (b:=true) rfl c5<|s_on rfl<|s_q (.agg [(.str t_1.Name),(.lst 8 (t_1.Columns.map encGColumn)),(.lst 1 (t_1.Unique.map encI)),(.bool t_1.Root)]) rfl nle rfl<|s_on rfl<|s_q (.agg [(.int .i64 r_2.Id),(.lst 1 (r_2.Cells.map (encL 3 encGAtom)))]) rfl nle rfl<|s_on rfl<|s_do (o_call (w_spec_l05Row _ _ _ er7) rfl (.refl _) rfl)<|s_q (.bool r_6) rfl trivial rfl<|s_mov (.bool r_6) rfl<|dk<|w_ret<|?_;obtain rfl:=os hf;exact r_flat ⟨trivial,trivial⟩ rfl (.refl _)
 ·refine s_q (.agg [(.str t_1.Name),(.lst 8 (t_1.Columns.map encGColumn)),(.lst 1 (t_1.Unique.map encI)),(.bool t_1.Root)]) rfl nle rfl<|s_do (o_call (w_spec_l04Table _ _ er4) rfl (.refl _) rfl)<|s_mov (.bool r_3) rfl<|s_lit (s:=7) (b:=false) rfl (bf c5)<|s_off rfl rfl<|s_off rfl rfl<|s_off rfl rfl<|s_q (.bool false) rfl trivial rfl<|s_mov (.bool false) rfl<|dk<|w_ret<|?_;obtain rfl:=os hf;exact r_flat ⟨trivial,trivial⟩ rfl (.refl _)

/- spec.l08Names -/
def c87:ACode :=
 (.seq (.reg (tm 2 (.c (.bool false)) .done))
 (.seq (.seq (.reg (tm 3 (.c (.int .i64 0)) .done))
 (.block 0 (.loop (.seq (.seq (.reg (tm 4 (.t 3) (tm 5 (.t 0) (tq 6 (.len (.t 5)) (tq 7 (.bin .lss (.t 4) (.t 6)) .done)))))
 (.cond (.t 7) .skip
 (.exit 0)))
 (.seq (.block 1 (.seq (.reg (tm 10 (.t 0) (tm 11 (.t 3) (tq 12 (.iaddr 1 (.t 10) (.t 11)) (tq 13 (.load 1 false (.t 12)) (tq 14 (.call 111 [(.t 13)]) (tq 15 (.not (.t 14)) .done)))))))
 (.cond (.t 15) (.seq (.reg (tm 2 (.c (.bool false)) .done))
 .ret)
 .skip)))
 (.reg (tm 8 (.t 3) (tq 9 (.bin .add (.t 8) (.c (.int .i64 1))) (tm 3 (.t 9) .done)))))))))
 (.cut (.seq (.reg (tm 16 (.t 0) (tq 17 (.len (.t 16)) (tq 18 (.bin .leq (.t 17) (.c (.int .i64 8))) (tm 2 (.t 18) .done)))))
 .ret))))
theorem fc87:fcomp Try.prog Try.f87 = some (c87.erase,[.mov (.t 2)],19):=by kernel_rfl
def spec_l08Names_L1 :List Str → Option (Fl Bool Unit)
  | [] =>
    some (.go ())
  | x_33 :: xs =>
    (spec_NameOK x_33).bind fun r_36 =>
    if (!r_36) then
    some (.ret false)
    else
    spec_l08Names_L1 xs 

def spec_l08Names (list_1:(List Str)):Option Bool :=
    (spec_l08Names_L1 list_1 ).bind fun q => (match q with
    | .ret r => some r
    | .go _ =>
    some (decide ((list_1.length:Int) ≤ 8)))
theorem w_spec_l08Names (list_1:(List Str)) (r:Bool) (hf:spec_l08Names list_1 = some r):CallOK Try.prog 87 .flat [(.lst 1 (list_1.map AV.str))] (.bool r):=by
 refine CallOK.of_awp mixed Try.func87 fc87 nle ?_;rw [argT_eq];unfold spec_l08Names at hf;unfold c87;refine (show awp Try.prog false 0 _ (ofL [(0,(.lst 1 (list_1.map AV.str)))]) [] _ from ?_);refine sr<|s_mov (.bool false) rfl<|dk<|awp_seq<|sr<|s_mov (.int .i64 0) rfl<|dk<|?_
 obtain ⟨p26,hb1,hf⟩:=ob hf
 refine awp_cutx (X:={q:Unit // p26 = .go q}) (fun q => ([(0,(.lst 1 (list_1.map AV.str)))],[])) ?_ ?_
 ·refine awp_loop (X:={q:Nat // spec_l08Names_L1 (list_1.drop q)  = some p26}) (fun q => ([(0,(.lst 1 (list_1.map AV.str))),(3,(.int .i64 (q.1:Int)))],[])) (fun q => list_1.length - q.1) ⟨0,hb1⟩ ⟨[],[],_,_,rfl,rfl,⟨.refl _,⟨.refl _,trivial⟩⟩,(.refl _)⟩ ?_
  rintro ⟨i_17,hc1⟩
  have hc1:spec_l08Names_L1 (list_1.drop i_17)  = some p26:=hc1
  refine (show awp Try.prog false 0 _ (ofL [(0,(.lst 1 (list_1.map AV.str))),(3,(.int .i64 (i_17:Int)))]) [] _ from ?_)
  rcases dropc list_1 i_17 with ⟨hie29,hd32⟩ | ⟨hlt27,x_33,hx28,hd32⟩
  ·rw [hd32,spec_l08Names_L1.eq_1] at hc1
   have hq31:=dlf hie29
   refine awp_seq<|sr<|s_mov (.int .i64 (i_17:Int)) rfl<|s_mov (.lst 1 (list_1.map AV.str)) rfl<|s_dof (o_len (enc:=AV.str) rfl) fun hl34 => s_q (.bool (decide ((i_17:Int) < (list_1.length:Int)))) rfl rfl rfl<|dk<|w_condf rfl hq31<|w_exit<|k_seqx<|k_loopx<|k_blkx<|?_;obtain rfl:=os hc1;exact k_cutn ⟨_,rfl⟩ ⟨[],[],_,_,rfl,rfl,⟨.refl _,trivial⟩,(.refl _)⟩
  ·rw [hd32,spec_l08Names_L1.eq_2] at hc1
   have hq31:=dlt hlt27
   refine awp_seq<|sr<|s_mov (.int .i64 (i_17:Int)) rfl<|s_mov (.lst 1 (list_1.map AV.str)) rfl<|s_dof (o_len (enc:=AV.str) rfl) fun hl35 => s_q (.bool (decide ((i_17:Int) < (list_1.length:Int)))) rfl rfl rfl<|dk<|w_condt rfl hq31<|w_skip<|k_seq<|awp_seq<|w_blk<|sr<|?_
   obtain ⟨r_36,er37,hc1⟩:=ob hc1
   refine s_mov (.lst 1 (list_1.map AV.str)) rfl<|s_mov (.int .i64 (i_17:Int)) rfl<|s_do (o_iaddrn (enc:=AV.str) rfl rfl hx28)<|s_q (.str x_33) rfl ⟨rfl,rfl⟩ rfl<|s_do (o_call (w_spec_NameOK _ _ er37) rfl (.refl _) rfl)<|s_q (.bool (!r_36)) rfl trivial rfl<|dk<|?_
   rcases oi hc1 with ⟨c38,hc1⟩ | ⟨c38,hc1⟩
   ·refine w_condt rfl c38<|sr<|s_mov (.bool false) rfl<|dk<|w_ret<|?_;obtain rfl:=os hc1;obtain rfl:=os hf;exact r_flat ⟨trivial,trivial⟩ rfl (.refl _)
   ·refine w_condf rfl (bf c38)<|w_skip<|k_blk<|k_seq<|w_reg<|s_mov (.int .i64 (i_17:Int)) rfl<|s_q (.int .i64 (w64 ((i_17:Int) + 1))) rfl rfl rfl<|s_mov (.int .i64 (w64 ((i_17:Int) + 1))) rfl<|w_done<|?_;exact k_loopn ⟨(i_17 + 1),hc1⟩ (mul hlt27) ⟨[],[],_,_,rfl,rfl,⟨.refl _,⟨.of_eq (congrArg (AV.int _) (w64_incr hlt27 hl35)),trivial⟩⟩,(.refl _)⟩
 ·rintro ⟨_,rfl⟩
  refine sr<|s_mov (.lst 1 (list_1.map AV.str)) rfl<|s_dof (o_len (enc:=AV.str) rfl) fun hl39 => s_q (.bool (decide ((list_1.length:Int) ≤ 8))) rfl rfl rfl<|s_mov (.bool (decide ((list_1.length:Int) ≤ 8))) rfl<|dk<|w_ret<|?_;obtain rfl:=os hf;exact r_flat ⟨trivial,trivial⟩ rfl (.refl _)

/- spec.l08Set -/
def c46:ACode :=
 (.seq (.reg (tq 1 (.box 3 (.t 0)) (tm 2 (.c (.bool false)) .done)))
 (.seq (.reg (tq 3 (.faddr 0 (.t 1)) (tq 4 (.load 1 false (.t 3)) (tq 5 (.lenS (.t 4)) (tq 6 (.bin .leq (.t 5) (.c (.int .i64 40))) (tm 7 (.t 6) (tg 8 7 true (.faddr 1 (.t 1)) (tg 9 7 true (.load 1 false (.t 8)) (tg 10 7 true (.call 86 [(.t 9)]) (tq 11 (.pick (.t 7) (.t 10) (.c (.bool false))) (tm 12 (.t 11) (tg 13 12 true (.faddr 2 (.t 1)) (tg 14 12 true (.load 1 false (.t 13)) (tg 15 12 true (.call 87 [(.t 14)]) (tq 16 (.pick (.t 12) (.t 15) (.c (.bool false))) (tm 17 (.t 16) (tg 18 17 true (.faddr 2 (.t 1)) (tg 19 17 true (.load 1 false (.t 18)) (tg 20 17 true (.len (.t 19)) (tg 21 17 true (.bin .eql (.t 20) (.c (.int .i64 0))) (tg 22 17 true (.mov (.t 21)) (tg 23 22 false (.faddr 1 (.t 1)) (tg 24 22 false (.load 1 false (.t 23)) (tg 25 22 false (.len (.t 24)) (tg 26 22 false (.bin .eql (.t 25) (.c (.int .i64 0))) (tg 27 17 true (.pick (.t 22) (.c (.bool true)) (.t 26)) (tq 28 (.pick (.t 17) (.t 27) (.c (.bool false))) (tm 2 (.t 28) .done))))))))))))))))))))))))))))
 .ret))
theorem fc46:fcomp Try.prog Try.f46 = some (c46.erase,[.mov (.t 2)],29):=by kernel_rfl
def spec_l08Set (x_1:GSet):Option Bool :=
    if (decide ((x_1.Column.length:Int) ≤ 40)) then
    (spec_DatumOK x_1.Value).bind fun r_4 =>
    if r_4 then
    (spec_l08Names x_1.Names).bind fun r_7 =>
    some (bif r_7 then (bif ((x_1.Names.length:Int) == 0) then true else ((x_1.Value.length:Int) == 0)) else false)
    else
    some false
    else
    some false
theorem w_spec_l08Set (x_1:GSet) (r:Bool) (hf:spec_l08Set x_1 = some r):CallOK Try.prog 46 .flat [(encGSet x_1)] (.bool r):=by
 refine CallOK.of_awp mixed Try.func46 fc46 nle ?_;rw [argT_eq];unfold spec_l08Set at hf;unfold c46;refine (show awp Try.prog false 0 _ (ofL [(0,(encGSet x_1))]) [] _ from ?_);refine sr<|s_do (o_box (j:=0) (c:=(.agg [(.str x_1.Column),(.lst 3 (x_1.Value.map encGAtom)),(.lst 1 (x_1.Names.map AV.str))])) rfl trivial rfl rfl)<|s_mov (.bool false) rfl<|dk<|sr<|s_q (.ptr 0 0 0) rfl trivial rfl<|s_q (.str x_1.Column) rfl nle rfl<|s_dof (o_lenS rfl) fun hl2 => s_q (.bool (decide ((x_1.Column.length:Int) ≤ 40))) rfl rfl rfl<|s_mov (.bool (decide ((x_1.Column.length:Int) ≤ 40))) rfl<|?_
 rcases oi hf with ⟨c3,hf⟩ | ⟨c3,hf⟩
 ·refine s_lit (s:=7) (b:=true) rfl c3<|s_on rfl<|s_q (.ptr 0 0 1) rfl trivial rfl<|s_on rfl<|s_q (.lst 3 (x_1.Value.map encGAtom)) rfl nle rfl<|s_on rfl<|?_
  obtain ⟨r_4,er5,hf⟩:=ob hf
  refine s_do (o_call (w_spec_DatumOK _ _ er5) rfl (.refl _) rfl)<|s_q (.bool r_4) rfl trivial rfl<|s_mov (.bool r_4) rfl<|?_
  rcases oi hf with ⟨c6,hf⟩ | ⟨c6,hf⟩
  ·refine s_lit (s:=12) (b:=true) rfl c6<|s_on rfl<|s_q (.ptr 0 0 2) rfl trivial rfl<|s_on rfl<|s_q (.lst 1 (x_1.Names.map AV.str)) rfl nle rfl<|s_on rfl<|?_
   obtain ⟨r_7,er8,hf⟩:=ob hf
   refine s_do (o_call (w_spec_l08Names _ _ er8) rfl (.refl _) rfl)<|s_q (.bool r_7) rfl trivial rfl<|s_mov (.bool r_7) rfl<|?_;refine s_g (v:=r_7) (.ptr 0 0 2) rfl (fun hv => by (try simp only [gs_on hv]);exact ⟨rfl,trivial,rfl⟩) ?_;refine s_g (v:=r_7) (.lst 1 (x_1.Names.map AV.str)) rfl (fun hv => by (try simp only [gs_on hv]);exact ⟨rfl,nle,rfl⟩) ?_;refine s_g (v:=r_7) (.int .i64 (x_1.Names.length:Int)) rfl (fun hv => by (try simp only [gs_on hv]);exact ⟨rfl,trivial,lenV _ _⟩) ?_;refine s_g (v:=r_7) (.bool ((x_1.Names.length:Int) == 0)) rfl (fun hv => by (try simp only [gs_on hv]);exact ⟨rfl,rfl,rfl⟩) ?_;refine s_g (v:=r_7) (.bool ((x_1.Names.length:Int) == 0)) rfl (fun hv => by (try simp only [gs_on hv]);exact ⟨rfl,trivial,rfl⟩) ?_
   refine s_gg (v1:=r_7) (b1:=true) (v2:=((x_1.Names.length:Int) == 0)) (.ptr 0 0 1) rfl (fun hv hw => by (try simp only [gs_on hv,gs_on hw]);exact ⟨rfl,trivial,rfl⟩) ?_;refine s_gg (v1:=r_7) (b1:=true) (v2:=((x_1.Names.length:Int) == 0)) (.lst 3 (x_1.Value.map encGAtom)) rfl (fun hv hw => by (try simp only [gs_on hv,gs_on hw]);exact ⟨rfl,nle,rfl⟩) ?_;refine s_gg (v1:=r_7) (b1:=true) (v2:=((x_1.Names.length:Int) == 0)) (.int .i64 (x_1.Value.length:Int)) rfl (fun hv hw => by (try simp only [gs_on hv,gs_on hw]);exact ⟨rfl,trivial,lenV _ _⟩) ?_;refine s_gg (v1:=r_7) (b1:=true) (v2:=((x_1.Names.length:Int) == 0)) (.bool ((x_1.Value.length:Int) == 0)) rfl (fun hv hw => by (try simp only [gs_on hv,gs_on hw]);exact ⟨rfl,rfl,rfl⟩) ?_
   refine s_gp (v1:=r_7) (b1:=true) (v2:=((x_1.Names.length:Int) == 0)) (x:=true) (y:=((x_1.Value.length:Int) == 0)) rfl (fun hv => by (try simp only [gs_on hv]);rfl) (fun hv hw => by (try simp only [gs_on hv,gs_on hw]);rfl) (fun hv hw => by (try simp only [gs_on hv,gs_on hw]);rfl) ?_;refine s_pick (x:=(bif ((x_1.Names.length:Int) == 0) then true else ((x_1.Value.length:Int) == 0))) (y:=false) rfl (fun hv => by (try simp only [gs_on hv]);rfl) (fun hv => by (try simp only [gs_on hv]);rfl) ?_;refine s_mov (.bool (bif r_7 then (bif ((x_1.Names.length:Int) == 0) then true else ((x_1.Value.length:Int) == 0)) else false)) rfl<|dk<|w_ret<|?_;obtain rfl:=os hf;exact r_flat ⟨trivial,trivial⟩ rfl (.refl _)
  ·refine s_lit (s:=12) (b:=false) rfl (bf c6)<|s_off rfl rfl<|s_off rfl rfl<|s_off rfl rfl<|s_q (.bool false) rfl trivial rfl<|s_mov (.bool false) rfl<|s_off rfl rfl<|s_off rfl rfl<|s_off rfl rfl<|s_off rfl rfl<|s_off rfl rfl<|s_offs rfl<|s_offs rfl<|s_offs rfl<|s_offs rfl<|s_off rfl rfl<|s_q (.bool false) rfl trivial rfl<|s_mov (.bool false) rfl<|dk<|w_ret<|?_;obtain rfl:=os hf;exact r_flat ⟨trivial,trivial⟩ rfl (.refl _)
 ·refine s_lit (s:=7) (b:=false) rfl (bf c3)<|s_off rfl rfl<|s_off rfl rfl<|s_off rfl rfl<|s_q (.bool false) rfl trivial rfl<|s_mov (.bool false) rfl<|s_off rfl rfl<|s_off rfl rfl<|s_off rfl rfl<|s_q (.bool false) rfl trivial rfl<|s_mov (.bool false) rfl<|s_off rfl rfl<|s_off rfl rfl<|s_off rfl rfl<|s_off rfl rfl<|s_off rfl rfl<|s_offs rfl<|s_offs rfl<|s_offs rfl<|s_offs rfl<|s_off rfl rfl<|s_q (.bool false) rfl trivial rfl<|s_mov (.bool false) rfl<|dk<|w_ret<|?_;obtain rfl:=os hf;exact r_flat ⟨trivial,trivial⟩ rfl (.refl _)

/- spec.l04Column -/
def c88:ACode :=
 (.seq (.reg (tq 2 (.box 4 (.t 0)) (tm 4 (.c (.int .i64 0)) .done)))
 (.seq (.seq (.reg (tm 5 (.c (.int .i64 0)) .done))
 (.block 0 (.loop (.seq (.seq (.reg (tm 6 (.t 5) (tq 7 (.faddr 1 (.t 2)) (tq 8 (.load 1 false (.t 7)) (tq 9 (.len (.t 8)) (tq 10 (.bin .lss (.t 6) (.t 9)) .done))))))
 (.cond (.t 10) .skip
 (.exit 0)))
 (.seq (.block 1 (.seq (.reg (tq 13 (.faddr 1 (.t 2)) (tq 14 (.load 1 false (.t 13)) (tm 15 (.t 5) (tq 16 (.iaddr 8 (.t 14) (.t 15)) (tq 17 (.faddr 0 (.t 16)) (tq 18 (.load 1 false (.t 17)) (tm 19 (.t 1) (tq 20 (.bin .eql (.t 18) (.t 19)) .done)))))))))
 (.cond (.t 20) (.seq (.reg (tm 21 (.t 5) (tm 4 (.t 21) .done)))
 .ret)
 .skip)))
 (.reg (tm 11 (.t 5) (tq 12 (.bin .add (.t 11) (.c (.int .i64 1))) (tm 5 (.t 12) .done)))))))))
 (.cut (.seq (.reg (tq 4 (.mov (.c (.int .i64 (-1)))) .done))
 .ret))))
theorem fc88:fcomp Try.prog Try.f88 = some (c88.erase,[.mov (.t 4)],22):=by kernel_rfl
def spec_l04Column_L1 (name_2:Str):List GColumn → Nat → Option (Fl Int Unit)
  | [],i_14 =>
    some (.go ())
  | x_28 :: xs,i_14 =>
    if (x_28.Name == name_2) then
    some (.ret (i_14:Int))
    else
    spec_l04Column_L1 name_2 xs (i_14 + 1)

def spec_l04Column (t_1:GTable) (name_2:Str):Option Int :=
    (spec_l04Column_L1 name_2 t_1.Columns 0).bind fun q => (match q with
    | .ret r => some r
    | .go _ =>
    some (-1))
theorem w_spec_l04Column (t_1:GTable) (name_2:Str) (r:Int) (hf:spec_l04Column t_1 name_2 = some r):CallOK Try.prog 88 .flat [(encGTable t_1),(.str name_2)] (.int .i64 r):=by
 refine CallOK.of_awp mixed Try.func88 fc88 nle ?_;rw [argT_eq];unfold spec_l04Column at hf;unfold c88;refine (show awp Try.prog false 0 _ (ofL [(0,(encGTable t_1)),(1,(.str name_2))]) [] _ from ?_);refine sr<|s_do (o_box (j:=0) (c:=(.agg [(.str t_1.Name),(.lst 8 (t_1.Columns.map encGColumn)),(.lst 1 (t_1.Unique.map encI)),(.bool t_1.Root)])) rfl trivial rfl rfl)<|s_mov (.int .i64 0) rfl<|dk<|awp_seq<|sr<|s_mov (.int .i64 0) rfl<|dk<|?_
 obtain ⟨p21,hb1,hf⟩:=ob hf
 refine awp_cutx (X:={q:Unit // p21 = .go q}) (fun q => ([],[])) ?_ ?_
 ·refine awp_loop (X:={q:Nat // spec_l04Column_L1 name_2 (t_1.Columns.drop q) q = some p21}) (fun q => ([(1,(.str name_2)),(2,(.ptr 0 0 0)),(5,(.int .i64 (q.1:Int)))],[.box 4 (.agg [(.str t_1.Name),(.lst 8 (t_1.Columns.map encGColumn)),(.lst 1 (t_1.Unique.map encI)),(.bool t_1.Root)])])) (fun q => t_1.Columns.length - q.1) ⟨0,hb1⟩ ⟨[],[0],_,_,rfl,rfl,⟨.refl _,⟨.refl _,⟨.refl _,trivial⟩⟩⟩,(.refl _)⟩ ?_
  rintro ⟨i_14,hc1⟩
  have hc1:spec_l04Column_L1 name_2 (t_1.Columns.drop i_14) i_14 = some p21:=hc1
  refine (show awp Try.prog false 0 _ (ofL [(1,(.str name_2)),(2,(.ptr 0 0 0)),(5,(.int .i64 (i_14:Int)))]) [.box 4 (.agg [(.str t_1.Name),(.lst 8 (t_1.Columns.map encGColumn)),(.lst 1 (t_1.Unique.map encI)),(.bool t_1.Root)])] _ from ?_)
  rcases dropc t_1.Columns i_14 with ⟨hie24,hd27⟩ | ⟨hlt22,x_28,hx23,hd27⟩
  ·rw [hd27,spec_l04Column_L1.eq_1] at hc1
   have hq26:=dlf hie24
   refine awp_seq<|sr<|s_mov (.int .i64 (i_14:Int)) rfl<|s_q (.ptr 0 0 1) rfl trivial rfl<|s_q (.lst 8 (t_1.Columns.map encGColumn)) rfl nle rfl<|s_dof (o_len (enc:=encGColumn) rfl) fun hl29 => s_q (.bool (decide ((i_14:Int) < (t_1.Columns.length:Int)))) rfl rfl rfl<|dk<|w_condf rfl hq26<|w_exit<|k_seqx<|k_loopx<|k_blkx<|?_;obtain rfl:=os hc1;exact k_cutn ⟨_,rfl⟩ ⟨[],[],_,_,rfl,rfl,trivial,(.refl _)⟩
  ·rw [hd27,spec_l04Column_L1.eq_2] at hc1
   have hq26:=dlt hlt22
   refine awp_seq<|sr<|s_mov (.int .i64 (i_14:Int)) rfl<|s_q (.ptr 0 0 1) rfl trivial rfl<|s_q (.lst 8 (t_1.Columns.map encGColumn)) rfl nle rfl<|s_dof (o_len (enc:=encGColumn) rfl) fun hl30 => s_q (.bool (decide ((i_14:Int) < (t_1.Columns.length:Int)))) rfl rfl rfl<|dk<|w_condt rfl hq26<|w_skip<|k_seq<|awp_seq<|w_blk<|sr<|s_q (.ptr 0 0 1) rfl trivial rfl<|s_q (.lst 8 (t_1.Columns.map encGColumn)) rfl nle rfl<|s_mov (.int .i64 (i_14:Int)) rfl<|s_do (o_iaddrn (enc:=encGColumn) rfl rfl hx23)<|s_q (.iptr (encGColumn x_28) 0) rfl trivial rfl<|s_q (.str x_28.Name) rfl nle rfl<|s_mov (.str name_2) rfl<|s_q (.bool (x_28.Name == name_2)) rfl trivial rfl<|?_
   refine dk<|?_
   rcases oi hc1 with ⟨c31,hc1⟩ | ⟨c31,hc1⟩
   ·refine w_condt rfl c31<|sr<|s_mov (.int .i64 (i_14:Int)) rfl<|s_mov (.int .i64 (i_14:Int)) rfl<|dk<|w_ret<|?_;obtain rfl:=os hc1;obtain rfl:=os hf;exact r_flat ⟨trivial,trivial⟩ rfl (.refl _)
   ·refine w_condf rfl (bf c31)<|w_skip<|k_blk<|k_seq<|w_reg<|s_mov (.int .i64 (i_14:Int)) rfl<|s_q (.int .i64 (w64 ((i_14:Int) + 1))) rfl rfl rfl<|s_mov (.int .i64 (w64 ((i_14:Int) + 1))) rfl<|w_done<|?_;exact k_loopn ⟨(i_14 + 1),hc1⟩ (mul hlt22) ⟨[],[0],_,_,rfl,rfl,⟨.refl _,⟨.refl _,⟨.of_eq (congrArg (AV.int _) (w64_incr hlt22 hl30)),trivial⟩⟩⟩,(.refl _)⟩
 ·rintro ⟨_,rfl⟩
  refine sr<|s_mov (.int .i64 (-1)) rfl<|dk<|w_ret<|?_;obtain rfl:=os hf;exact r_flat ⟨trivial,trivial⟩ rfl (.refl _)

/- spec.l08Sets -/
def c47:ACode :=
 (.seq (.reg (tq 2 (.box 4 (.t 0)) (tm 4 (.c (.int .i64 0)) .done)))
 (.seq (.seq (.reg (tm 5 (.c (.int .i64 0)) .done))
 (.block 0 (.loop (.seq (.seq (.reg (tm 9 (.t 5) (tm 10 (.t 1) (tq 11 (.len (.t 10)) (tq 12 (.bin .lss (.t 9) (.t 11)) .done)))))
 (.cond (.t 12) .skip
 (.exit 0)))
 (.seq (.block 1 (.seq (.reg (tq 15 (.load 4 true (.t 2)) (tm 16 (.t 1) (tm 17 (.t 5) (tq 18 (.iaddr 3 (.t 16) (.t 17)) (tq 19 (.faddr 0 (.t 18)) (tq 20 (.load 1 false (.t 19)) (.l ⟨(some 21),none,.call 88 [(.t 15),(.t 20)]⟩ []
 (tm 6 (.t 21) .done) .non))))))))
 (.seq (.seq (.reg (tm 22 (.t 6) (tq 23 (.bin .lss (.t 22) (.c (.int .i64 0))) .done)))
 (.cond (.t 23) (.seq (.reg (tm 4 (.c (.int .i64 11)) .done))
 .ret)
 .skip))
 (.seq (.seq (.reg (tm 7 (.c (.int .i64 0)) .done))
 (.block 2 (.loop (.seq (.seq (.reg (tm 24 (.t 7) (tm 25 (.t 5) (tq 26 (.bin .lss (.t 24) (.t 25)) .done))))
 (.cond (.t 26) .skip
 (.exit 2)))
 (.seq (.block 3 (.seq (.reg (tm 29 (.t 1) (tm 30 (.t 7) (tq 31 (.iaddr 3 (.t 29) (.t 30)) (tq 32 (.faddr 0 (.t 31)) (tq 33 (.load 1 false (.t 32)) (tm 34 (.t 1) (tm 35 (.t 5) (tq 36 (.iaddr 3 (.t 34) (.t 35)) (tq 37 (.faddr 0 (.t 36)) (tq 38 (.load 1 false (.t 37)) (tq 39 (.bin .eql (.t 33) (.t 38)) .done))))))))))))
 (.cond (.t 39) (.seq (.reg (tm 4 (.c (.int .i64 8)) .done))
 .ret)
 .skip)))
 (.reg (tm 27 (.t 7) (tq 28 (.bin .add (.t 27) (.c (.int .i64 1))) (tm 7 (.t 28) .done)))))))))
 (.cut (.seq (.reg (tq 40 (.faddr 1 (.t 2)) (tq 41 (.load 1 false (.t 40)) (tm 42 (.t 6) (tq 43 (.iaddr 8 (.t 41) (.t 42)) (tq 44 (.faddr 1 (.t 43)) (tq 45 (.load 1 false (.t 44)) (tm 8 (.t 45) .done))))))))
 (.seq (.reg (tm 46 (.t 1) (tm 47 (.t 5) (tq 48 (.iaddr 3 (.t 46) (.t 47)) (tq 49 (.faddr 1 (.t 48)) (tq 50 (.load 1 false (.t 49)) (tq 51 (.len (.t 50)) (tq 52 (.bin .gtr (.t 51) (.c (.int .i64 0))) (tm 53 (.t 52) (tg 54 53 true (.mov (.t 1)) (tg 55 53 true (.mov (.t 5)) (tg 56 53 true (.iaddr 3 (.t 54) (.t 55)) (tg 57 53 true (.faddr 1 (.t 56)) (tg 58 53 true (.load 1 false (.t 57)) (tg 59 53 true (.iaddr 3 (.t 58) (.c (.int .i64 0))) (tg 60 53 true (.faddr 0 (.t 59)) (tg 61 53 true (.load 1 false (.t 60)) (tg 62 53 true (.mov (.t 8)) (tg 63 53 true (.bin .neq (.t 61) (.t 62)) (tq 64 (.pick (.t 53) (.t 63) (.c (.bool false))) (tm 65 (.t 64) (tg 66 65 false (.mov (.t 1)) (tg 67 65 false (.mov (.t 5)) (tg 68 65 false (.iaddr 3 (.t 66) (.t 67)) (tg 69 65 false (.faddr 2 (.t 68)) (tg 70 65 false (.load 1 false (.t 69)) (tg 71 65 false (.len (.t 70)) (tg 72 65 false (.bin .gtr (.t 71) (.c (.int .i64 0))) (tg 73 65 false (.mov (.t 72)) (tg 74 73 true (.mov (.t 8)) (tg 75 73 true (.bin .neq (.t 74) (.c (.int .i64 4))) (tg 76 65 false (.pick (.t 73) (.t 75) (.c (.bool false))) (tq 77 (.pick (.t 65) (.c (.bool true)) (.t 76)) .done)))))))))))))))))))))))))))))))))
 (.cut (.cond (.t 77) (.seq (.reg (tm 4 (.c (.int .i64 9)) .done))
 .ret)
 .skip)))))))))
 (.reg (tm 13 (.t 5) (tq 14 (.bin .add (.t 13) (.c (.int .i64 1))) (tm 5 (.t 14) .done)))))))))
 (.cut (.seq (.reg (tm 4 (.c (.int .i64 0)) .done))
 .ret))))
theorem fc47:fcomp Try.prog Try.f47 = some (c47.erase,[.mov (.t 4)],78):=by kernel_rfl
def spec_l08Sets_L2 (i_190:Nat) (list_2:(List GSet)) (x_292:GSet):Nat → Int → Option (Fl Int Unit)
  | 0,_ => none
  | k + 1,n_321 =>
    if (decide (n_321 < (i_190:Int))) then
    (idx list_2 n_321).bind fun x_328 =>
    if (x_328.Column == x_292.Column) then
    some (.ret 8)
    else
    spec_l08Sets_L2 i_190 list_2 x_292 k (w64 (n_321 + 1))
    else
    some (.go ())

def spec_l08Sets_L1 (t_1:GTable) (list_2:(List GSet)):List GSet → Nat → Option (Fl Int Unit)
  | [],i_190 =>
    some (.go ())
  | x_292 :: xs,i_190 =>
    (spec_l04Column t_1 x_292.Column).bind fun r_295 =>
    if (decide (r_295 < 0)) then
    some (.ret 11)
    else
    (spec_l08Sets_L2 i_190 list_2 x_292 FUEL 0).bind fun q => (match q with
    | .ret r => some (.ret r)
    | .go _ =>
    (idx t_1.Columns r_295).bind fun x_331 =>
    ((if (decide ((x_292.Value.length:Int) > 0)) then
    (idx x_292.Value 0).bind fun x_346 =>
    if (x_346.Kind != x_331.Kind) then
    some true
    else
    if (decide ((x_292.Names.length:Int) > 0)) then
    some (x_331.Kind != 4)
    else
    some false
    else
    if (decide ((x_292.Names.length:Int) > 0)) then
    some (x_331.Kind != 4)
    else
    some false:Option Bool)).bind fun s77_342 =>
    if s77_342 then
    some (.ret 9)
    else
    spec_l08Sets_L1 t_1 list_2 xs (i_190 + 1))

def spec_l08Sets (t_1:GTable) (list_2:(List GSet)):Option Int :=
    (spec_l08Sets_L1 t_1 list_2 list_2 0).bind fun q => (match q with
    | .ret r => some r
    | .go _ =>
    some 0)
theorem w_spec_l08Sets (t_1:GTable) (list_2:(List GSet)) (r:Int) (hf:spec_l08Sets t_1 list_2 = some r):CallOK Try.prog 47 .flat [(encGTable t_1),(.lst 3 (list_2.map encGSet))] (.int .i64 r):=by
 refine CallOK.of_awp mixed Try.func47 fc47 nle ?_;rw [argT_eq];unfold spec_l08Sets at hf;unfold c47;refine (show awp Try.prog false 0 _ (ofL [(0,(encGTable t_1)),(1,(.lst 3 (list_2.map encGSet)))]) [] _ from ?_);refine sr<|s_do (o_box (j:=0) (c:=(.agg [(.str t_1.Name),(.lst 8 (t_1.Columns.map encGColumn)),(.lst 1 (t_1.Unique.map encI)),(.bool t_1.Root)])) rfl trivial rfl rfl)<|s_mov (.int .i64 0) rfl<|dk<|awp_seq<|sr<|s_mov (.int .i64 0) rfl<|dk<|?_
 obtain ⟨p285,hb1,hf⟩:=ob hf
 refine awp_cutx (X:={q:Unit // p285 = .go q}) (fun q => ([],[])) ?_ ?_
 ·refine awp_loop (X:={q:Nat // spec_l08Sets_L1 t_1 list_2 (list_2.drop q) q = some p285}) (fun q => ([(1,(.lst 3 (list_2.map encGSet))),(2,(.ptr 0 0 0)),(5,(.int .i64 (q.1:Int)))],[.box 4 (.agg [(.str t_1.Name),(.lst 8 (t_1.Columns.map encGColumn)),(.lst 1 (t_1.Unique.map encI)),(.bool t_1.Root)])])) (fun q => list_2.length - q.1) ⟨0,hb1⟩ ⟨[],[0],_,_,rfl,rfl,⟨.refl _,⟨.refl _,⟨.refl _,trivial⟩⟩⟩,(.refl _)⟩ ?_
  rintro ⟨i_190,hc1⟩
  have hc1:spec_l08Sets_L1 t_1 list_2 (list_2.drop i_190) i_190 = some p285:=hc1
  refine (show awp Try.prog false 0 _ (ofL [(1,(.lst 3 (list_2.map encGSet))),(2,(.ptr 0 0 0)),(5,(.int .i64 (i_190:Int)))]) [.box 4 (.agg [(.str t_1.Name),(.lst 8 (t_1.Columns.map encGColumn)),(.lst 1 (t_1.Unique.map encI)),(.bool t_1.Root)])] _ from ?_)
  rcases dropc list_2 i_190 with ⟨hie288,hd291⟩ | ⟨hlt286,x_292,hx287,hd291⟩
  ·rw [hd291,spec_l08Sets_L1.eq_1] at hc1
   have hq290:=dlf hie288
   refine awp_seq<|sr<|s_mov (.int .i64 (i_190:Int)) rfl<|s_mov (.lst 3 (list_2.map encGSet)) rfl<|s_dof (o_len (enc:=encGSet) rfl) fun hl293 => s_q (.bool (decide ((i_190:Int) < (list_2.length:Int)))) rfl rfl rfl<|dk<|w_condf rfl hq290<|w_exit<|k_seqx<|k_loopx<|k_blkx<|?_;obtain rfl:=os hc1;exact k_cutn ⟨_,rfl⟩ ⟨[],[],_,_,rfl,rfl,trivial,(.refl _)⟩
  ·rw [hd291,spec_l08Sets_L1.eq_2] at hc1
   have hq290:=dlt hlt286
   refine awp_seq<|sr<|s_mov (.int .i64 (i_190:Int)) rfl<|s_mov (.lst 3 (list_2.map encGSet)) rfl<|s_dof (o_len (enc:=encGSet) rfl) fun hl294 => s_q (.bool (decide ((i_190:Int) < (list_2.length:Int)))) rfl rfl rfl<|dk<|w_condt rfl hq290<|w_skip<|k_seq<|awp_seq<|w_blk<|sr<|?_
   obtain ⟨r_295,er296,hc1⟩:=ob hc1
   refine s_q (.agg [(.str t_1.Name),(.lst 8 (t_1.Columns.map encGColumn)),(.lst 1 (t_1.Unique.map encI)),(.bool t_1.Root)]) rfl nle rfl<|s_mov (.lst 3 (list_2.map encGSet)) rfl<|s_mov (.int .i64 (i_190:Int)) rfl<|s_do (o_iaddrn (enc:=encGSet) rfl rfl hx287)<|s_q (.iptr (encGSet x_292) 0) rfl trivial rfl<|s_q (.str x_292.Column) rfl nle rfl<|s_dol (o_call (w_spec_l04Column _ _ _ er296) rfl (.refl _) rfl) a_same trivial<|s_mov (.int .i64 r_295) rfl<|dk<|awp_seq<|sr<|s_mov (.int .i64 r_295) rfl<|s_q (.bool (decide (r_295 < 0))) rfl rfl rfl<|dk<|?_
   rcases oi hc1 with ⟨c297,hc1⟩ | ⟨c297,hc1⟩
   ·refine w_condt rfl c297<|sr<|s_mov (.int .i64 11) rfl<|dk<|w_ret<|?_;obtain rfl:=os hc1;obtain rfl:=os hf;exact r_flat ⟨trivial,trivial⟩ rfl (.refl _)
   ·refine w_condf rfl (bf c297)<|w_skip<|k_seq<|awp_seq<|sr<|s_mov (.int .i64 0) rfl<|dk<|?_
    obtain ⟨p326,hb2,hc1⟩:=ob hc1
    refine awp_cutx (X:={q:Unit // p326 = .go q}) (fun q => ([(1,(.lst 3 (list_2.map encGSet))),(2,(.ptr 0 0 0)),(5,(.int .i64 (i_190:Int))),(6,(.int .i64 r_295))],[.box 4 (.agg [(.str t_1.Name),(.lst 8 (t_1.Columns.map encGColumn)),(.lst 1 (t_1.Unique.map encI)),(.bool t_1.Root)])])) ?_ ?_
    ·refine awp_loop (X:={q:(Nat × Int) // spec_l08Sets_L2 i_190 list_2 x_292 q.1 q.2 = some p326}) (fun q => ([(1,(.lst 3 (list_2.map encGSet))),(2,(.ptr 0 0 0)),(5,(.int .i64 (i_190:Int))),(6,(.int .i64 r_295)),(7,(.int .i64 q.1.2))],[.box 4 (.agg [(.str t_1.Name),(.lst 8 (t_1.Columns.map encGColumn)),(.lst 1 (t_1.Unique.map encI)),(.bool t_1.Root)])])) (fun q => q.1.1) ⟨(FUEL,0),hb2⟩ ⟨[],[0],_,_,rfl,rfl,⟨.refl _,⟨.refl _,⟨.refl _,⟨.refl _,⟨.refl _,trivial⟩⟩⟩⟩⟩,(.refl _)⟩ ?_
     rintro ⟨⟨k,n_321⟩,hc2⟩
     have hc2:spec_l08Sets_L2 i_190 list_2 x_292 k n_321 = some p326:=hc2
     refine (show awp Try.prog false 0 _ (ofL [(1,(.lst 3 (list_2.map encGSet))),(2,(.ptr 0 0 0)),(5,(.int .i64 (i_190:Int))),(6,(.int .i64 r_295)),(7,(.int .i64 n_321))]) [.box 4 (.agg [(.str t_1.Name),(.lst 8 (t_1.Columns.map encGColumn)),(.lst 1 (t_1.Unique.map encI)),(.bool t_1.Root)])] _ from ?_)
     rcases k with _ | k
     ·rw [spec_l08Sets_L2.eq_1] at hc2
      cases hc2
     ·rw [spec_l08Sets_L2.eq_2] at hc2;refine awp_seq<|sr<|s_mov (.int .i64 n_321) rfl<|s_mov (.int .i64 (i_190:Int)) rfl<|s_q (.bool (decide (n_321 < (i_190:Int)))) rfl rfl rfl<|dk<|?_
      rcases oi hc2 with ⟨c327,hc2⟩ | ⟨c327,hc2⟩
      ·refine w_condt rfl c327<|w_skip<|k_seq<|awp_seq<|w_blk<|sr<|?_
       obtain ⟨x_328,ex329,hc2⟩:=ob hc2
       refine s_mov (.lst 3 (list_2.map encGSet)) rfl<|s_mov (.int .i64 n_321) rfl<|s_do (o_iaddr (enc:=encGSet) rfl rfl (idx0 ex329) (idx1 ex329))<|s_q (.iptr (encGSet x_328) 0) rfl trivial rfl<|s_q (.str x_328.Column) rfl nle rfl<|s_mov (.lst 3 (list_2.map encGSet)) rfl<|s_mov (.int .i64 (i_190:Int)) rfl<|s_do (o_iaddrn (enc:=encGSet) rfl rfl hx287)<|s_q (.iptr (encGSet x_292) 0) rfl trivial rfl<|s_q (.str x_292.Column) rfl nle rfl<|s_q (.bool (x_328.Column == x_292.Column)) rfl trivial rfl<|dk<|?_
       rcases oi hc2 with ⟨c330,hc2⟩ | ⟨c330,hc2⟩
       ·refine w_condt rfl c330<|sr<|s_mov (.int .i64 8) rfl<|dk<|w_ret<|?_;obtain rfl:=os hc2;obtain rfl:=os hc1;obtain rfl:=os hf;exact r_flat ⟨trivial,trivial⟩ rfl (.refl _)
       ·refine w_condf rfl (bf c330)<|w_skip<|k_blk<|k_seq<|w_reg<|s_mov (.int .i64 n_321) rfl<|s_q (.int .i64 (w64 (n_321 + 1))) rfl rfl rfl<|s_mov (.int .i64 (w64 (n_321 + 1))) rfl<|w_done<|?_;exact k_loopn ⟨(k,w64 (n_321 + 1)),hc2⟩ (Nat.lt_succ_self _) ⟨[],[0],_,_,rfl,rfl,⟨.refl _,⟨.refl _,⟨.refl _,⟨.refl _,⟨.refl _,trivial⟩⟩⟩⟩⟩,(.refl _)⟩
      ·refine w_condf rfl (bf c327)<|w_exit<|k_seqx<|k_loopx<|k_blkx<|?_;obtain rfl:=os hc2;exact k_cutn ⟨_,rfl⟩ ⟨[],[0],_,_,rfl,rfl,⟨.refl _,⟨.refl _,⟨.refl _,⟨.refl _,trivial⟩⟩⟩⟩,(.refl _)⟩
    ·rintro ⟨_,rfl⟩
     refine sr<|?_
     obtain ⟨x_331,ex332,hc1⟩:=ob hc1
     refine s_q (.ptr 0 0 1) rfl trivial rfl<|s_q (.lst 8 (t_1.Columns.map encGColumn)) rfl nle rfl<|s_mov (.int .i64 r_295) rfl<|s_do (o_iaddr (enc:=encGColumn) rfl rfl (idx0 ex332) (idx1 ex332))<|s_q (.iptr (encGColumn x_331) 1) rfl trivial rfl<|s_q (.int .i64 x_331.Kind) rfl nle rfl<|s_mov (.int .i64 x_331.Kind) rfl<|dk<|awp_seq<|?_
     obtain ⟨s77_342,hb2,hc1⟩:=ob hc1
     refine awp_cut ([(1,(.lst 3 (list_2.map encGSet))),(2,(.ptr 0 0 0)),(5,(.int .i64 (i_190:Int))),(77,(.bool s77_342))],[.box 4 (.agg [(.str t_1.Name),(.lst 8 (t_1.Columns.map encGColumn)),(.lst 1 (t_1.Unique.map encI)),(.bool t_1.Root)])]) ?_ ?_
     ·refine w_reg<|s_mov (.lst 3 (list_2.map encGSet)) rfl<|s_mov (.int .i64 (i_190:Int)) rfl<|s_do (o_iaddrn (enc:=encGSet) rfl rfl hx287)<|s_q (.iptr (encGSet x_292) 1) rfl trivial rfl<|s_q (.lst 3 (x_292.Value.map encGAtom)) rfl nle rfl<|s_dof (o_len (enc:=encGAtom) rfl) fun hl344 => s_q (.bool (decide ((x_292.Value.length:Int) > 0))) rfl rfl rfl<|s_mov (.bool (decide ((x_292.Value.length:Int) > 0))) rfl<|?_
      rcases oi hb2 with ⟨c345,hb2⟩ | ⟨c345,hb2⟩
      ·refine s_lit (s:=53) (b:=true) rfl c345<|s_on rfl<|s_mov (.lst 3 (list_2.map encGSet)) rfl<|s_on rfl<|s_mov (.int .i64 (i_190:Int)) rfl<|s_on rfl<|s_do (o_iaddrn (enc:=encGSet) rfl rfl hx287)<|s_on rfl<|s_q (.iptr (encGSet x_292) 1) rfl trivial rfl<|s_on rfl<|s_q (.lst 3 (x_292.Value.map encGAtom)) rfl nle rfl<|s_on rfl<|?_
       obtain ⟨x_346,ex347,hb2⟩:=ob hb2
       refine s_do (o_iaddr (enc:=encGAtom) rfl rfl (idx0 ex347) (idx1 ex347))<|s_on rfl<|s_q (.iptr (encGAtom x_346) 0) rfl trivial rfl<|s_on rfl<|s_q (.int .i64 x_346.Kind) rfl nle rfl<|s_on rfl<|s_mov (.int .i64 x_331.Kind) rfl<|s_on rfl<|s_q (.bool (x_346.Kind != x_331.Kind)) rfl rfl rfl<|s_q (.bool (x_346.Kind != x_331.Kind)) rfl trivial rfl<|s_mov (.bool (x_346.Kind != x_331.Kind)) rfl<|?_
       rcases oi hb2 with ⟨c348,hb2⟩ | ⟨c348,hb2⟩
       ·refine s_lit (s:=65) (b:=true) rfl c348<|s_off rfl rfl<|s_off rfl rfl<|s_off rfl rfl<|s_off rfl rfl<|s_off rfl rfl<|s_off rfl rfl<|s_off rfl rfl<|s_off rfl rfl<|s_offs rfl<|s_offs rfl<|s_off rfl rfl<|s_q (.bool true) rfl trivial rfl<|w_done<|?_;obtain rfl:=os hb2;exact ⟨[],[0],_,_,rfl,rfl,⟨.refl _,⟨.refl _,⟨.refl _,⟨.refl _,trivial⟩⟩⟩⟩,(.refl _)⟩
       ·refine s_lit (s:=65) (b:=false) rfl (bf c348)<|s_on rfl<|s_mov (.lst 3 (list_2.map encGSet)) rfl<|s_on rfl<|s_mov (.int .i64 (i_190:Int)) rfl<|s_on rfl<|s_do (o_iaddrn (enc:=encGSet) rfl rfl hx287)<|s_on rfl<|s_q (.iptr (encGSet x_292) 2) rfl trivial rfl<|s_on rfl<|s_q (.lst 1 (x_292.Names.map AV.str)) rfl nle rfl<|s_on rfl<|s_dof (o_len (enc:=AV.str) rfl) fun hl349 => s_on rfl<|s_q (.bool (decide ((x_292.Names.length:Int) > 0))) rfl rfl rfl<|s_on rfl<|s_mov (.bool (decide ((x_292.Names.length:Int) > 0))) rfl<|?_
        rcases oi hb2 with ⟨c350,hb2⟩ | ⟨c350,hb2⟩
        ·refine s_lit (s:=73) (b:=true) rfl c350<|s_on rfl<|s_mov (.int .i64 x_331.Kind) rfl<|s_on rfl<|s_q (.bool (x_331.Kind != 4)) rfl rfl rfl<|s_on rfl<|s_q (.bool (x_331.Kind != 4)) rfl trivial rfl<|s_q (.bool (x_331.Kind != 4)) rfl trivial rfl<|w_done<|?_;obtain rfl:=os hb2;exact ⟨[],[0],_,_,rfl,rfl,⟨.refl _,⟨.refl _,⟨.refl _,⟨.refl _,trivial⟩⟩⟩⟩,(.refl _)⟩
        ·refine s_lit (s:=73) (b:=false) rfl (bf c350)<|s_off rfl rfl<|s_off rfl rfl<|s_on rfl<|s_q (.bool false) rfl trivial rfl<|s_q (.bool false) rfl trivial rfl<|w_done<|?_;obtain rfl:=os hb2;exact ⟨[],[0],_,_,rfl,rfl,⟨.refl _,⟨.refl _,⟨.refl _,⟨.refl _,trivial⟩⟩⟩⟩,(.refl _)⟩
      ·refine s_lit (s:=53) (b:=false) rfl (bf c345)<|s_off rfl rfl<|s_off rfl rfl<|s_off rfl rfl<|s_off rfl rfl<|s_off rfl rfl<|s_off rfl rfl<|s_off rfl rfl<|s_off rfl rfl<|s_off rfl rfl<|s_off rfl rfl<|s_q (.bool false) rfl trivial rfl<|s_mov (.bool false) rfl<|s_on rfl<|s_mov (.lst 3 (list_2.map encGSet)) rfl<|s_on rfl<|s_mov (.int .i64 (i_190:Int)) rfl<|s_on rfl<|s_do (o_iaddrn (enc:=encGSet) rfl rfl hx287)<|s_on rfl<|s_q (.iptr (encGSet x_292) 2) rfl trivial rfl<|s_on rfl<|s_q (.lst 1 (x_292.Names.map AV.str)) rfl nle rfl<|s_on rfl<|s_dof (o_len (enc:=AV.str) rfl) fun hl351 => s_on rfl<|s_q (.bool (decide ((x_292.Names.length:Int) > 0))) rfl rfl rfl<|?_
       refine s_on rfl<|s_mov (.bool (decide ((x_292.Names.length:Int) > 0))) rfl<|?_
       rcases oi hb2 with ⟨c352,hb2⟩ | ⟨c352,hb2⟩
       ·refine s_lit (s:=73) (b:=true) rfl c352<|s_on rfl<|s_mov (.int .i64 x_331.Kind) rfl<|s_on rfl<|s_q (.bool (x_331.Kind != 4)) rfl rfl rfl<|s_on rfl<|s_q (.bool (x_331.Kind != 4)) rfl trivial rfl<|s_q (.bool (x_331.Kind != 4)) rfl trivial rfl<|w_done<|?_;obtain rfl:=os hb2;exact ⟨[],[0],_,_,rfl,rfl,⟨.refl _,⟨.refl _,⟨.refl _,⟨.refl _,trivial⟩⟩⟩⟩,(.refl _)⟩
       ·refine s_lit (s:=73) (b:=false) rfl (bf c352)<|s_off rfl rfl<|s_off rfl rfl<|s_on rfl<|s_q (.bool false) rfl trivial rfl<|s_q (.bool false) rfl trivial rfl<|w_done<|?_;obtain rfl:=os hb2;exact ⟨[],[0],_,_,rfl,rfl,⟨.refl _,⟨.refl _,⟨.refl _,⟨.refl _,trivial⟩⟩⟩⟩,(.refl _)⟩
     ·rcases oi hc1 with ⟨c353,hc1⟩ | ⟨c353,hc1⟩
      ·refine w_condt rfl c353<|sr<|s_mov (.int .i64 9) rfl<|dk<|w_ret<|?_;obtain rfl:=os hc1;obtain rfl:=os hf;exact r_flat ⟨trivial,trivial⟩ rfl (.refl _)
      ·refine w_condf rfl (bf c353)<|w_skip<|k_blk<|k_seq<|w_reg<|s_mov (.int .i64 (i_190:Int)) rfl<|s_q (.int .i64 (w64 ((i_190:Int) + 1))) rfl rfl rfl<|s_mov (.int .i64 (w64 ((i_190:Int) + 1))) rfl<|w_done<|?_;exact k_loopn ⟨(i_190 + 1),hc1⟩ (mul hlt286) ⟨[],[0],_,_,rfl,rfl,⟨.refl _,⟨.refl _,⟨.of_eq (congrArg (AV.int _) (w64_incr hlt286 hl294)),trivial⟩⟩⟩,(.refl _)⟩
 ·rintro ⟨_,rfl⟩
  refine sr<|s_mov (.int .i64 0) rfl<|dk<|w_ret<|?_;obtain rfl:=os hf;exact r_flat ⟨trivial,trivial⟩ rfl (.refl _)

/- spec.l05OwnRow -/
def c89:ACode :=
 (.seq (.reg (tq 1 (.box 2 (.t 0)) (tq 2 (.box 2 (.c (.agg [(.int .i64 0),.nil]))) .done)))
 (.seq (.reg (tq 5 (.faddr 0 (.t 1)) (tq 6 (.load 1 false (.t 5)) (tq 7 (.bslice 1 []) (tq 8 (.build [(.int .i64 0),.nil] [(0,1,(.t 6)),(1,1,(.t 7))]) (tq 3 (.box 2 (.c (.agg [(.int .i64 0),.nil]))) (.q ⟨none,none,.store 2 (.t 3) (.t 8)⟩
 .done)))))))
 (.seq (.seq (.reg (tm 4 (.c (.int .i64 0)) .done))
 (.block 0 (.loop (.seq (.seq (.reg (tm 9 (.t 4) (tq 10 (.faddr 1 (.t 1)) (tq 11 (.load 1 false (.t 10)) (tq 12 (.len (.t 11)) (tq 13 (.bin .lss (.t 9) (.t 12)) .done))))))
 (.cond (.t 13) .skip
 (.exit 0)))
 (.seq (.block 1 (.reg (tq 16 (.faddr 1 (.t 3)) (tq 17 (.load 1 false (.t 16)) (tq 19 (.faddr 1 (.t 1)) (tq 20 (.load 1 false (.t 19)) (tm 21 (.t 4) (tq 22 (.iaddr 1 (.t 20) (.t 21)) (tq 23 (.load 1 false (.t 22)) (.l ⟨(some 18),none,.bslice 3 []⟩ [⟨(some 23),none,.load 1 false (.t 22)⟩,⟨(some 22),none,.iaddr 1 (.t 20) (.t 21)⟩,⟨(some 20),none,.load 1 false (.t 19)⟩,⟨(some 19),none,.faddr 1 (.t 1)⟩,⟨(some 17),none,.load 1 false (.t 16)⟩,⟨(some 16),none,.faddr 1 (.t 3)⟩]
 (.l ⟨(some 24),none,.append 3 32 (.t 18) (.t 23)⟩ [⟨(some 17),none,.load 1 false (.t 16)⟩,⟨(some 16),none,.faddr 1 (.t 3)⟩]
 (.l ⟨(some 25),none,.bslice 1 [(.t 24)]⟩ [⟨(some 17),none,.load 1 false (.t 16)⟩,⟨(some 16),none,.faddr 1 (.t 3)⟩]
 (.l ⟨(some 26),none,.append 1 24 (.t 17) (.t 25)⟩ []
 (tq 27 (.faddr 1 (.t 3)) (.l ⟨none,none,.store 1 (.t 27) (.t 26)⟩ []
 .done .non)) .non) .non) .non) .non))))))))))
 (.reg (tm 14 (.t 4) (tq 15 (.bin .add (.t 14) (.c (.int .i64 1))) (tm 4 (.t 15) .done)))))))))
 (.cut (.seq (.reg (tq 28 (.load 2 true (.t 3)) (.q ⟨none,none,.store 2 (.t 2) (.t 28)⟩
 .done)))
 .ret)))))
theorem fc89:fcomp Try.prog Try.f89 = some (c89.erase,[.load 2 true (.t 2)],29):=by kernel_rfl
def spec_l05OwnRow_L1 :List (List GAtom) → (List (List GAtom)) → Option (List (List GAtom))
  | [],x_17 =>
    some x_17
  | x_33 :: xs,x_17 =>
    if ([] ++ x_33).length ≤ 2 ^ 30 then
    if (x_17 ++ [[] ++ x_33]).length ≤ 2 ^ 30 then
    spec_l05OwnRow_L1 xs  (x_17 ++ [[] ++ x_33])
    else none
    else none

def spec_l05OwnRow (r_1:GRow):Option GRow :=
    (spec_l05OwnRow_L1 r_1.Cells []).bind fun x_25 =>
    some (⟨r_1.Id,x_25⟩:GRow)
theorem w_spec_l05OwnRow (r_1:GRow) (r:GRow) (hf:spec_l05OwnRow r_1 = some r):CallOK Try.prog 89 .fresh [(encGRow r_1)] (encGRow r):=by
 refine CallOK.of_awp mixed Try.func89 fc89 nle ?_;rw [argT_eq];unfold spec_l05OwnRow at hf;unfold c89;refine (show awp Try.prog true 0 _ (ofL [(0,(encGRow r_1))]) [] _ from ?_);refine sr<|s_do (o_box (j:=0) (c:=(.agg [(.int .i64 r_1.Id),(.lst 1 (r_1.Cells.map (encL 3 encGAtom)))])) rfl trivial rfl rfl)<|s_do (o_box (j:=1) (c:=(.agg [(.int .i64 0),.nil])) rfl trivial rfl rfl)<|dk<|sr<|s_q (.ptr 0 0 0) rfl trivial rfl<|s_q (.int .i64 r_1.Id) rfl nle rfl<|?_;refine s_do (o_bslice (j:=2) (as':=[]) rfl (fun _ => by decide) trivial (.refl _) rfl rfl rfl) ?_;refine s_q (.agg [(.int .i64 r_1.Id),(.own 2 0 0)]) rfl ⟨⟨rfl,nle,trivial⟩,⟨⟨rfl,nle,trivial⟩,trivial⟩⟩ rfl ?_
 refine s_do (o_box (j:=3) (c:=(.agg [(.int .i64 0),.nil])) rfl trivial rfl rfl)<|s_do0 (o_storebox (v:=(.agg [(.int .i64 r_1.Id),(.own 2 0 0)])) (y':=(.agg [(.int .i64 r_1.Id),(.own 2 0 0)])) rfl rfl rfl trivial ⟨rfl,nle⟩ ⟨⟨rfl,trivial⟩,⟨⟨rfl,trivial⟩,trivial⟩⟩ rfl)<|dk<|awp_seq<|sr<|s_mov (.int .i64 0) rfl<|dk<|?_
 obtain ⟨x_25,hb1,hf⟩:=ob hf
 refine awp_cut ([(2,(.ptr 0 0 0)),(3,(.ptr 1 0 0))],[.box 2 (.agg [(.int .i64 0),.nil]),.box 2 (.agg [(.int .i64 r_1.Id),(.own 2 0 x_25.length)]),.row 1 (x_25.map (encL 3 encGAtom))]) ?_ ?_
 ·refine awp_loop (X:={q:(Nat × (List (List GAtom))) // spec_l05OwnRow_L1 (r_1.Cells.drop q.1) q.2 = some x_25}) (fun q => ([(1,(.ptr 0 0 0)),(2,(.ptr 1 0 0)),(3,(.ptr 2 0 0)),(4,(.int .i64 (q.1.1:Int)))],[.box 2 (.agg [(.int .i64 r_1.Id),(.lst 1 (r_1.Cells.map (encL 3 encGAtom)))]),.box 2 (.agg [(.int .i64 0),.nil]),.box 2 (.agg [(.int .i64 r_1.Id),(.own 3 0 q.1.2.length)]),.row 1 (q.1.2.map (encL 3 encGAtom))])) (fun q => r_1.Cells.length - q.1.1) ⟨(0,[]),hb1⟩ ⟨[],[0,1,3,2],_,_,rfl,rfl,⟨.refl _,⟨.refl _,⟨.refl _,⟨.refl _,trivial⟩⟩⟩⟩,(.cons (.refl _) (.cons (.refl _) (.cons (.box (.agg (.cons (.refl _) (.cons (.of_eq (congrArg (AV.own _ 0) (by simp))) .nil)))) (.cons (.refl _) .nil))))⟩ ?_
  rintro ⟨⟨i_16,x_17⟩,hc1⟩
  have hc1:spec_l05OwnRow_L1 (r_1.Cells.drop i_16) x_17 = some x_25:=hc1
  refine (show awp Try.prog true 0 _ (ofL [(1,(.ptr 0 0 0)),(2,(.ptr 1 0 0)),(3,(.ptr 2 0 0)),(4,(.int .i64 (i_16:Int)))]) [.box 2 (.agg [(.int .i64 r_1.Id),(.lst 1 (r_1.Cells.map (encL 3 encGAtom)))]),.box 2 (.agg [(.int .i64 0),.nil]),.box 2 (.agg [(.int .i64 r_1.Id),(.own 3 0 x_17.length)]),.row 1 (x_17.map (encL 3 encGAtom))] _ from ?_)
  rcases dropc r_1.Cells i_16 with ⟨hie29,hd32⟩ | ⟨hlt27,x_33,hx28,hd32⟩
  ·rw [hd32,spec_l05OwnRow_L1.eq_1] at hc1
   have hq31:=dlf hie29
   refine awp_seq<|sr<|s_mov (.int .i64 (i_16:Int)) rfl<|s_q (.ptr 0 0 1) rfl trivial rfl<|s_q (.lst 1 (r_1.Cells.map (encL 3 encGAtom))) rfl nle rfl<|s_dof (o_len (enc:=(encL 3 encGAtom)) rfl) fun hl34 => s_q (.bool (decide ((i_16:Int) < (r_1.Cells.length:Int)))) rfl rfl rfl<|dk<|w_condf rfl hq31<|w_exit<|k_seqx<|k_loopx<|k_blkx<|?_;obtain rfl:=os hc1;exact ⟨[],[1,2,3],_,_,rfl,rfl,⟨.refl _,⟨.refl _,trivial⟩⟩,(.refl _)⟩
  ·rw [hd32,spec_l05OwnRow_L1.eq_2] at hc1
   have hq31:=dlt hlt27
   refine awp_seq<|sr<|s_mov (.int .i64 (i_16:Int)) rfl<|s_q (.ptr 0 0 1) rfl trivial rfl<|s_q (.lst 1 (r_1.Cells.map (encL 3 encGAtom))) rfl nle rfl<|s_dof (o_len (enc:=(encL 3 encGAtom)) rfl) fun hl35 => s_q (.bool (decide ((i_16:Int) < (r_1.Cells.length:Int)))) rfl rfl rfl<|dk<|w_condt rfl hq31<|w_skip<|k_seq<|awp_seq<|w_blk<|w_reg<|s_q (.ptr 2 0 1) rfl trivial rfl<|s_q (.own 3 0 x_17.length) rfl nle rfl<|s_q (.ptr 0 0 1) rfl trivial rfl<|s_q (.lst 1 (r_1.Cells.map (encL 3 encGAtom))) rfl nle rfl<|s_mov (.int .i64 (i_16:Int)) rfl<|s_do (o_iaddrn (enc:=(encL 3 encGAtom)) rfl rfl hx28)<|s_q (.lst 3 (x_33.map encGAtom)) rfl ⟨rfl,rfl⟩ rfl<|?_
   refine s_dol (o_bslice (j:=4) (as':=[]) rfl (fun _ => by decide) trivial (.refl _) rfl rfl rfl) (.inr ⟨⟨⟨rfl,rfl⟩,rfl⟩,⟨(ag_iaddrn (enc:=(encL 3 encGAtom)) rfl rfl hx28),⟨⟨nle,rfl⟩,⟨⟨trivial,rfl⟩,⟨⟨nle,rfl⟩,⟨⟨trivial,rfl⟩,trivial⟩⟩⟩⟩⟩⟩) trivial ?_
   obtain ⟨g36,hc1⟩:=og hc1
   refine s_dol (o_appendd (j:=5) (L:=(([] ++ x_33).map encGAtom)) (len:=([] ++ x_33).length) rfl false rfl rfl (fun _ => flm (fun _ => rfl) _) (fun _ _ _ => flm (fun _ => rfl) _) (by decide) ((by simp)) (by simp <;> omega) g36 rfl rfl) (.inr ⟨⟨nle,rfl⟩,⟨⟨trivial,rfl⟩,trivial⟩⟩) trivial ?_
   refine s_dol (o_bslice (j:=6) (as':=[(.lst 3 (([] ++ x_33).map encGAtom))]) rfl (fun _ => by decide) ⟨rfl,trivial⟩ (.cons (.of_eq (congrArg (AV.lst _) (tk (enc:=encGAtom) ([] ++ x_33)))) .nil) rfl rfl rfl) (.inr ⟨⟨nle,rfl⟩,⟨⟨trivial,rfl⟩,trivial⟩⟩) trivial ?_
   obtain ⟨g37,hc1⟩:=og hc1
   refine s_dol (o_appendd (j:=7) (L:=((x_17 ++ [[] ++ x_33]).map (encL 3 encGAtom))) (len:=(x_17 ++ [[] ++ x_33]).length) rfl true rfl rfl (fun h => Bool.noConfusion h) (fun _ _ h => (ownl (show AV.own _ _ _ = AV.lst _ _ from h)).elim) (by decide) (apoc (enc:=(encL 3 encGAtom)) x_17 [[] ++ x_33] _ (by rfl)) (by simp <;> omega) g37 rfl rfl) trivial trivial ?_
   refine s_q (.ptr 2 0 1) rfl trivial rfl<|s_dol0 (o_storebox (v:=(.own 7 0 ((x_17 ++ [[] ++ x_33]).length))) (y':=(.agg [(.int .i64 r_1.Id),(.own 7 0 ((x_17 ++ [[] ++ x_33]).length))])) rfl rfl rfl trivial ⟨rfl,nle⟩ ⟨⟨rfl,trivial⟩,trivial⟩ rfl) trivial trivial<|w_done<|k_blk<|k_seq<|w_reg<|s_mov (.int .i64 (i_16:Int)) rfl<|s_q (.int .i64 (w64 ((i_16:Int) + 1))) rfl rfl rfl<|s_mov (.int .i64 (w64 ((i_16:Int) + 1))) rfl<|w_done<|?_;exact k_loopn ⟨((i_16 + 1),x_17 ++ [[] ++ x_33]),hc1⟩ (mul hlt27) ⟨[],[0,1,2,7],_,_,rfl,rfl,⟨.refl _,⟨.refl _,⟨.refl _,⟨.of_eq (congrArg (AV.int _) (w64_incr hlt27 hl35)),trivial⟩⟩⟩⟩,(.refl _)⟩
 ·refine sr<|s_q (.agg [(.int .i64 r_1.Id),(.own 2 0 x_25.length)]) rfl nle rfl<|s_do0 (o_storebox (v:=(.agg [(.int .i64 r_1.Id),(.own 2 0 x_25.length)])) (y':=(.agg [(.int .i64 r_1.Id),(.own 2 0 x_25.length)])) rfl rfl rfl trivial ⟨rfl,nle⟩ ⟨⟨rfl,trivial⟩,⟨⟨rfl,trivial⟩,trivial⟩⟩ rfl)<|dk<|w_ret<|?_;obtain rfl:=os hf;exact r_fresh ⟨nle,trivial⟩ rfl (by decide) (.agg (.cons (.refl _) (.cons (.of_eq (congrArg (AV.lst _) (tk (enc:=(encL 3 encGAtom)) x_25))) .nil)))

/- spec.l08SetRow -/
def c48:ACode :=
 (.seq (.reg (tq 3 (.box 4 (.t 0)) (tq 4 (.box 2 (.t 1)) (tq 6 (.box 2 (.c (.agg [(.int .i64 0),.nil]))) (tm 7 (.c (.int .i64 0)) .done)))))
 (.seq (.reg (tq 11 (.load 2 true (.t 4)) (tq 12 (.call 89 [(.t 11)]) (.q ⟨none,none,.store 2 (.t 4) (.t 12)⟩
 .done))))
 (.seq (.seq (.reg (tm 8 (.c (.int .i64 0)) .done))
 (.block 0 (.loop (.seq (.seq (.reg (tm 13 (.t 8) (tm 14 (.t 2) (tq 15 (.len (.t 14)) (tq 16 (.bin .lss (.t 13) (.t 15)) .done)))))
 (.cond (.t 16) .skip
 (.exit 0)))
 (.seq (.block 1 (.seq (.reg (tq 19 (.load 4 true (.t 3)) (tm 20 (.t 2) (tm 21 (.t 8) (tq 22 (.iaddr 3 (.t 20) (.t 21)) (tq 23 (.faddr 0 (.t 22)) (tq 24 (.load 1 false (.t 23)) (.l ⟨(some 25),none,.call 88 [(.t 19),(.t 24)]⟩ []
 (tm 9 (.t 25) .done) .non))))))))
 (.seq (.seq (.reg (tq 26 (.faddr 1 (.t 3)) (tq 27 (.load 1 false (.t 26)) (tm 28 (.t 9) (tq 29 (.iaddr 8 (.t 27) (.t 28)) (tq 30 (.load 8 true (.t 29)) (tm 31 (.t 2) (tm 32 (.t 8) (tq 33 (.iaddr 3 (.t 31) (.t 32)) (tq 34 (.faddr 1 (.t 33)) (tq 35 (.load 1 false (.t 34)) (.l ⟨(some 36),none,.call 90 [(.t 30),(.t 35)]⟩ []
 (tm 10 (.t 36) .done) .non))))))))))))
 (.seq (.reg (tm 37 (.t 10) (tq 38 (.bin .neq (.t 37) (.c (.int .i64 0))) .done)))
 (.cond (.t 38) (.seq (.reg (tq 39 (.build [(.int .i64 0),.nil] []) (tm 40 (.t 10) (.q ⟨none,none,.store 2 (.t 6) (.t 39)⟩
 (tm 7 (.t 40) .done)))))
 .ret)
 .skip)))
 (.reg (tq 41 (.faddr 1 (.t 4)) (tq 42 (.load 1 false (.t 41)) (tm 43 (.t 9) (tm 45 (.t 2) (tm 46 (.t 8) (tq 47 (.iaddr 3 (.t 45) (.t 46)) (tq 48 (.faddr 1 (.t 47)) (tq 49 (.load 1 false (.t 48)) (.l ⟨(some 44),none,.bslice 3 []⟩ [⟨(some 49),none,.load 1 false (.t 48)⟩,⟨(some 48),none,.faddr 1 (.t 47)⟩,⟨(some 47),none,.iaddr 3 (.t 45) (.t 46)⟩,⟨(some 42),none,.load 1 false (.t 41)⟩,⟨(some 41),none,.faddr 1 (.t 4)⟩]
 (.l ⟨(some 50),none,.append 3 32 (.t 44) (.t 49)⟩ [⟨(some 42),none,.load 1 false (.t 41)⟩,⟨(some 41),none,.faddr 1 (.t 4)⟩]
 (tq 51 (.iaddr 1 (.t 42) (.t 43)) (.l ⟨none,none,.store 1 (.t 51) (.t 50)⟩ []
 .done .non)) .non) .non)))))))))))))
 (.reg (tm 17 (.t 8) (tq 18 (.bin .add (.t 17) (.c (.int .i64 1))) (tm 8 (.t 18) .done)))))))))
 (.cut (.seq (.reg (tq 52 (.load 2 true (.t 4)) (.q ⟨none,none,.store 2 (.t 6) (.t 52)⟩
 (tm 7 (.c (.int .i64 0)) .done))))
 .ret)))))
theorem fc48:fcomp Try.prog Try.f48 = some (c48.erase,[.load 2 true (.t 6),.mov (.t 7)],53):=by kernel_rfl
def spec_l08SetRow_L1 (t_1:GTable):List GSet → (List (List GAtom)) → Option (Fl (GRow × Int) (List (List GAtom)))
  | [],x_47 =>
    some (.go x_47)
  | x_76 :: xs,x_47 =>
    (spec_l04Column t_1 x_76.Column).bind fun r_79 =>
    (idx t_1.Columns r_79).bind fun x_81 =>
    (spec_l04Fits x_81 x_76.Value).bind fun r_83 =>
    if (r_83 != 0) then
    some (.ret ((⟨0,[]⟩:GRow),r_83))
    else
    if ([] ++ x_76.Value).length ≤ 2 ^ 30 then
    if (0:Int) ≤ r_79 ∧ r_79 < (x_47.length:Int) then
    (x_47[(0 + r_79.toNat)]?).bind fun x_88 =>
    spec_l08SetRow_L1 t_1 xs  (x_47.set (0 + r_79.toNat) ([] ++ x_76.Value))
    else none
    else none

def spec_l08SetRow (t_1:GTable) (r_2:GRow) (list_3:(List GSet)):Option (GRow × Int) :=
    (spec_l05OwnRow r_2).bind fun r_4 =>
    (spec_l08SetRow_L1 t_1 list_3 r_4.Cells).bind fun q => (match q with
    | .ret r => some r
    | .go x_68 =>
    some ((⟨r_4.Id,x_68⟩:GRow),0))
theorem w_spec_l08SetRow (t_1:GTable) (r_2:GRow) (list_3:(List GSet)) (r:(GRow × Int)) (hf:spec_l08SetRow t_1 r_2 list_3 = some r):CallOK Try.prog 48 .fresh [(encGTable t_1),(encGRow r_2),(.lst 3 (list_3.map encGSet))] (.tup [(encGRow r.1),(.int .i64 r.2)]):=by
 refine CallOK.of_awp mixed Try.func48 fc48 nle ?_;rw [argT_eq];unfold spec_l08SetRow at hf;unfold c48;refine (show awp Try.prog true 0 _ (ofL [(0,(encGTable t_1)),(1,(encGRow r_2)),(2,(.lst 3 (list_3.map encGSet)))]) [] _ from ?_);refine sr<|s_do (o_box (j:=0) (c:=(.agg [(.str t_1.Name),(.lst 8 (t_1.Columns.map encGColumn)),(.lst 1 (t_1.Unique.map encI)),(.bool t_1.Root)])) rfl trivial rfl rfl)<|s_do (o_box (j:=1) (c:=(.agg [(.int .i64 r_2.Id),(.lst 1 (r_2.Cells.map (encL 3 encGAtom)))])) rfl trivial rfl rfl)<|s_do (o_box (j:=2) (c:=(.agg [(.int .i64 0),.nil])) rfl trivial rfl rfl)<|s_mov (.int .i64 0) rfl<|dk<|sr<|?_
 obtain ⟨r_4,er5,hf⟩:=ob hf
 refine s_q (.agg [(.int .i64 r_2.Id),(.lst 1 (r_2.Cells.map (encL 3 encGAtom)))]) rfl nle rfl<|s_do (o_callf (v:=(.agg [(.int .i64 r_4.Id),(.own 3 0 r_4.Cells.length)])) (h':=[.row 1 (r_4.Cells.map (encL 3 encGAtom))]) (w_spec_l05OwnRow _ _ er5) rfl (.refl _) (by simp only [openV,openVs,List.length_map,encGRow_eq,List.nil_append,List.append_nil,List.cons_append];rfl))<|s_do0 (o_storebox (v:=(.agg [(.int .i64 r_4.Id),(.own 3 0 r_4.Cells.length)])) (y':=(.agg [(.int .i64 r_4.Id),(.own 3 0 r_4.Cells.length)])) rfl rfl rfl trivial ⟨rfl,nle⟩ ⟨⟨rfl,trivial⟩,⟨⟨rfl,trivial⟩,trivial⟩⟩ rfl)<|dk<|awp_seq<|sr<|s_mov (.int .i64 0) rfl<|dk<|?_
 obtain ⟨p69,hb1,hf⟩:=ob hf
 refine awp_cutx (X:={q:(List (List GAtom)) // p69 = .go q}) (fun q => ([(4,(.ptr 0 0 0)),(6,(.ptr 1 0 0))],[.box 2 (.agg [(.int .i64 r_4.Id),(.own 2 0 q.1.length)]),.box 2 (.agg [(.int .i64 0),.nil]),.row 1 (q.1.map (encL 3 encGAtom))])) ?_ ?_
 ·refine awp_loop (X:={q:(Nat × (List (List GAtom))) // spec_l08SetRow_L1 t_1 (list_3.drop q.1) q.2 = some p69}) (fun q => ([(2,(.lst 3 (list_3.map encGSet))),(3,(.ptr 0 0 0)),(4,(.ptr 1 0 0)),(6,(.ptr 2 0 0)),(8,(.int .i64 (q.1.1:Int)))],[.box 4 (.agg [(.str t_1.Name),(.lst 8 (t_1.Columns.map encGColumn)),(.lst 1 (t_1.Unique.map encI)),(.bool t_1.Root)]),.box 2 (.agg [(.int .i64 r_4.Id),(.own 3 0 q.1.2.length)]),.box 2 (.agg [(.int .i64 0),.nil]),.row 1 (q.1.2.map (encL 3 encGAtom))])) (fun q => list_3.length - q.1.1) ⟨(0,r_4.Cells),hb1⟩ ⟨[],[0,1,2,3],_,_,rfl,rfl,⟨.refl _,⟨.refl _,⟨.refl _,⟨.refl _,⟨.refl _,trivial⟩⟩⟩⟩⟩,(.refl _)⟩ ?_
  rintro ⟨⟨i_46,x_47⟩,hc1⟩
  have hc1:spec_l08SetRow_L1 t_1 (list_3.drop i_46) x_47 = some p69:=hc1
  refine (show awp Try.prog true 0 _ (ofL [(2,(.lst 3 (list_3.map encGSet))),(3,(.ptr 0 0 0)),(4,(.ptr 1 0 0)),(6,(.ptr 2 0 0)),(8,(.int .i64 (i_46:Int)))]) [.box 4 (.agg [(.str t_1.Name),(.lst 8 (t_1.Columns.map encGColumn)),(.lst 1 (t_1.Unique.map encI)),(.bool t_1.Root)]),.box 2 (.agg [(.int .i64 r_4.Id),(.own 3 0 x_47.length)]),.box 2 (.agg [(.int .i64 0),.nil]),.row 1 (x_47.map (encL 3 encGAtom))] _ from ?_)
  rcases dropc list_3 i_46 with ⟨hie72,hd75⟩ | ⟨hlt70,x_76,hx71,hd75⟩
  ·rw [hd75,spec_l08SetRow_L1.eq_1] at hc1
   have hq74:=dlf hie72
   refine awp_seq<|sr<|s_mov (.int .i64 (i_46:Int)) rfl<|s_mov (.lst 3 (list_3.map encGSet)) rfl<|s_dof (o_len (enc:=encGSet) rfl) fun hl77 => s_q (.bool (decide ((i_46:Int) < (list_3.length:Int)))) rfl rfl rfl<|dk<|w_condf rfl hq74<|w_exit<|k_seqx<|k_loopx<|k_blkx<|?_;obtain rfl:=os hc1;exact k_cutn ⟨_,rfl⟩ ⟨[],[1,2,3],_,_,rfl,rfl,⟨.refl _,⟨.refl _,trivial⟩⟩,(.refl _)⟩
  ·rw [hd75,spec_l08SetRow_L1.eq_2] at hc1
   have hq74:=dlt hlt70
   refine awp_seq<|sr<|s_mov (.int .i64 (i_46:Int)) rfl<|s_mov (.lst 3 (list_3.map encGSet)) rfl<|s_dof (o_len (enc:=encGSet) rfl) fun hl78 => s_q (.bool (decide ((i_46:Int) < (list_3.length:Int)))) rfl rfl rfl<|dk<|w_condt rfl hq74<|w_skip<|k_seq<|awp_seq<|w_blk<|sr<|?_
   obtain ⟨r_79,er80,hc1⟩:=ob hc1
   refine s_q (.agg [(.str t_1.Name),(.lst 8 (t_1.Columns.map encGColumn)),(.lst 1 (t_1.Unique.map encI)),(.bool t_1.Root)]) rfl nle rfl<|s_mov (.lst 3 (list_3.map encGSet)) rfl<|s_mov (.int .i64 (i_46:Int)) rfl<|s_do (o_iaddrn (enc:=encGSet) rfl rfl hx71)<|s_q (.iptr (encGSet x_76) 0) rfl trivial rfl<|s_q (.str x_76.Column) rfl nle rfl<|s_dol (o_call (w_spec_l04Column _ _ _ er80) rfl (.refl _) rfl) a_same trivial<|s_mov (.int .i64 r_79) rfl<|dk<|awp_seq<|sr<|?_
   obtain ⟨x_81,ex82,hc1⟩:=ob hc1
   obtain ⟨r_83,er84,hc1⟩:=ob hc1
   refine s_q (.ptr 0 0 1) rfl trivial rfl<|s_q (.lst 8 (t_1.Columns.map encGColumn)) rfl nle rfl<|s_mov (.int .i64 r_79) rfl<|s_do (o_iaddr (enc:=encGColumn) rfl rfl (idx0 ex82) (idx1 ex82))<|s_q (encGColumn x_81) rfl nle rfl<|s_mov (.lst 3 (list_3.map encGSet)) rfl<|s_mov (.int .i64 (i_46:Int)) rfl<|s_do (o_iaddrn (enc:=encGSet) rfl rfl hx71)<|s_q (.iptr (encGSet x_76) 1) rfl trivial rfl<|s_q (.lst 3 (x_76.Value.map encGAtom)) rfl nle rfl<|s_dol (o_call (w_spec_l04Fits _ _ _ er84) rfl (.refl _) rfl) a_same trivial<|s_mov (.int .i64 r_83) rfl<|dk<|sr<|s_mov (.int .i64 r_83) rfl<|s_q (.bool (r_83 != 0)) rfl rfl rfl<|dk<|?_
   rcases oi hc1 with ⟨c85,hc1⟩ | ⟨c85,hc1⟩
   ·refine w_condt rfl c85<|sr<|s_q (.agg [(.int .i64 0),.nil]) rfl trivial rfl<|s_mov (.int .i64 r_83) rfl<|s_do0 (o_storebox (v:=(.agg [(.int .i64 0),.nil])) (y':=(.agg [(.int .i64 0),.nil])) rfl rfl rfl trivial ⟨rfl,nle⟩ ⟨⟨rfl,trivial⟩,⟨⟨rfl,trivial⟩,trivial⟩⟩ rfl)<|s_mov (.int .i64 r_83) rfl<|dk<|w_ret<|?_;obtain rfl:=os hc1;obtain rfl:=os hf;exact r_fresh ⟨nle,⟨trivial,trivial⟩⟩ rfl (by decide) (.tup (.cons (.agg (.cons (.refl _) (.cons (.nil _) .nil))) (.cons (.refl _) .nil)))
   ·refine w_condf rfl (bf c85)<|w_skip<|k_seq<|w_reg<|?_
    obtain ⟨g86,hc1⟩:=og hc1
    obtain ⟨g87,hc1⟩:=og hc1
    obtain ⟨x_88,ex89,hc1⟩:=ob hc1
    refine s_q (.ptr 1 0 1) rfl trivial rfl<|s_q (.own 3 0 x_47.length) rfl nle rfl<|s_mov (.int .i64 r_79) rfl<|s_mov (.lst 3 (list_3.map encGSet)) rfl<|s_mov (.int .i64 (i_46:Int)) rfl<|s_do (o_iaddrn (enc:=encGSet) rfl rfl hx71)<|s_q (.iptr (encGSet x_76) 1) rfl trivial rfl<|s_q (.lst 3 (x_76.Value.map encGAtom)) rfl nle rfl<|?_;refine s_dol (o_bslice (j:=4) (as':=[]) rfl (fun _ => by decide) trivial (.refl _) rfl rfl rfl) (.inr ⟨⟨nle,rfl⟩,⟨⟨trivial,rfl⟩,⟨(ag_iaddrn (enc:=encGSet) rfl rfl hx71),⟨⟨nle,rfl⟩,⟨⟨trivial,rfl⟩,trivial⟩⟩⟩⟩⟩) trivial ?_
    refine s_dol (o_appendd (j:=5) (L:=(([] ++ x_76.Value).map encGAtom)) (len:=([] ++ x_76.Value).length) rfl false rfl rfl (fun _ => flm (fun _ => rfl) _) (fun _ _ _ => flm (fun _ => rfl) _) (by decide) ((by simp)) (by simp <;> omega) g86 rfl rfl) (.inr ⟨⟨nle,rfl⟩,⟨⟨trivial,rfl⟩,trivial⟩⟩) trivial ?_
    refine s_do (o_iaddrown rfl rfl g87.1 g87.2 rfl rfl) ?_
    refine s_dol0 (o_storerow (v':=(.lst 3 (([] ++ x_76.Value).map encGAtom))) (e':=[] ++ x_76.Value) rfl rfl ex89 rfl rfl (by first | (simp only [tk,tko,List.take_length];done) | rfl | simp) (by decide) (fun _ => by decide) ⟨rfl,rfl,rfl⟩ (.refl _) rfl) trivial trivial ?_
    refine w_done<|k_blk<|k_seq<|w_reg<|s_mov (.int .i64 (i_46:Int)) rfl<|s_q (.int .i64 (w64 ((i_46:Int) + 1))) rfl rfl rfl<|s_mov (.int .i64 (w64 ((i_46:Int) + 1))) rfl<|w_done<|?_;exact k_loopn ⟨((i_46 + 1),x_47.set (0 + r_79.toNat) ([] ++ x_76.Value)),hc1⟩ (mul hlt70) ⟨[],[0,1,2,3],_,_,rfl,rfl,⟨.refl _,⟨.refl _,⟨.refl _,⟨.refl _,⟨.of_eq (congrArg (AV.int _) (w64_incr hlt70 hl78)),trivial⟩⟩⟩⟩⟩,(.cons (.refl _) (.cons (.box (.agg (.cons (.refl _) (.cons (.of_eq (congrArg (AV.own _ 0) (by simp))) .nil)))) (.cons (.refl _) (.cons (.refl _) .nil))))⟩
 ·rintro ⟨x_68,rfl⟩
  refine sr<|s_q (.agg [(.int .i64 r_4.Id),(.own 2 0 x_68.length)]) rfl nle rfl<|s_do0 (o_storebox (v:=(.agg [(.int .i64 r_4.Id),(.own 2 0 x_68.length)])) (y':=(.agg [(.int .i64 r_4.Id),(.own 2 0 x_68.length)])) rfl rfl rfl trivial ⟨rfl,nle⟩ ⟨⟨rfl,trivial⟩,⟨⟨rfl,trivial⟩,trivial⟩⟩ rfl)<|s_mov (.int .i64 0) rfl<|dk<|w_ret<|?_;obtain rfl:=os hf;exact r_fresh ⟨nle,⟨trivial,trivial⟩⟩ rfl (by decide) (.tup (.cons (.agg (.cons (.refl _) (.cons (.of_eq (congrArg (AV.lst _) (tk (enc:=(encL 3 encGAtom)) x_68))) .nil))) (.cons (.refl _) .nil)))

end Go.R
