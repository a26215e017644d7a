/- Walks. -/
import Derived.Test.YtmeckljlaaflkaaPC2
set_option linter.all false
namespace Go.R
open Go Go.Proofs
set_option linter.unusedVariables false
set_option linter.unusedSimpArgs false
set_option maxHeartbeats 8000000
/- (impl.Table).named -/
def c196:ACode :=
 (.seq (.reg (tq 2 (.box 4 (.t 0)) (tq 4 (.box 8 (.c (.agg [(.str []),(.int .i64 0),(.int .i64 0),(.int .i64 0),(.int .i64 0),(.int .i64 0),(.str []),(.bool false)]))) (tm 5 (.c (.bool false)) .done))))
 (.seq (.reg (tq 7 (.load 4 true (.t 2)) (tm 8 (.t 1) (tq 9 (.call 183 [(.t 7),(.t 8)]) (tm 6 (.t 9) .done)))))
 (.seq (.block 0 (.seq (.reg (tm 11 (.t 6) (tq 12 (.bin .geq (.t 11) (.c (.int .i64 0))) (tm 10 (.t 12) .done))))
 (.cond (.t 10) (.seq (.reg (tq 13 (.faddr 1 (.t 2)) (tq 14 (.load 1 false (.t 13)) (tm 15 (.t 6) (tq 16 (.iaddr 8 (.t 14) (.t 15)) (tq 17 (.load 8 true (.t 16)) (.q ⟨none,none,.store 8 (.t 4) (.t 17)⟩
 (tm 5 (.c (.bool true)) .done))))))))
 .ret)
 (.seq (.reg (tm 19 (.t 1) (tq 20 (.bin .eql (.t 19) (.c (.str [95,117,117,105,100]))) (tm 18 (.t 20) .done))))
 (.cond (.t 18) (.seq (.reg (tq 21 (.build [(.str []),(.int .i64 0),(.int .i64 0),(.int .i64 0),(.int .i64 0),(.int .i64 0),(.str []),(.bool false)] [(0,1,(.c (.str [95,117,117,105,100]))),(1,1,(.c (.int .i64 4))),(3,1,(.c (.int .i64 1)))]) (.q ⟨none,none,.store 8 (.t 4) (.t 21)⟩
 (tm 5 (.c (.bool true)) .done))))
 .ret)
 .skip)))))
 (.seq (.reg (tq 22 (.build [(.str []),(.int .i64 0),(.int .i64 0),(.int .i64 0),(.int .i64 0),(.int .i64 0),(.str []),(.bool false)] []) (.q ⟨none,none,.store 8 (.t 4) (.t 22)⟩
 (tm 5 (.c (.bool false)) .done))))
 .ret))))
theorem fc196:fcomp Try.prog Try.f196 = some (c196.erase,[.load 8 true (.t 4),.mov (.t 5)],23):=by kernel_rfl
def impl_Table_named (t_1:GTable) (name_2:Str):Option (GColumn × Bool) :=
    (impl_Table_columnAt t_1 name_2).bind fun r_3 =>
    if (decide (r_3 ≥ 0)) then
    (idx t_1.Columns r_3).bind fun x_6 =>
    some (x_6,true)
    else
    if (name_2 == [95,117,117,105,100]) then
    some ((⟨[95,117,117,105,100],4,0,1,0,0,[],false⟩:GColumn),true)
    else
    some ((⟨[],0,0,0,0,0,[],false⟩:GColumn),false)
theorem w_impl_Table_named (t_1:GTable) (name_2:Str) (r:(GColumn × Bool)) (hf:impl_Table_named t_1 name_2 = some r):CallOK Try.prog 196 .flat [(encGTable t_1),(.str name_2)] (.tup [(encGColumn r.1),(.bool r.2)]):=by
 refine CallOK.of_awp mixed Try.func196 fc196 nle ?_;rw [argT_eq];unfold impl_Table_named at hf;unfold c196;refine (show awp Try.prog false 0 _ (ofL [(0,(encGTable t_1)),(1,(.str name_2))]) [] _ from ?_);refine sr<|s_do (o_box (j:=0) (c:=(.agg [(.str t_1.Name),(.lst 8 (t_1.Columns.map encGColumn)),(.lst 1 (t_1.Unique.map encI)),(.bool t_1.Root)])) rfl trivial rfl rfl)<|s_do (o_box (j:=1) (c:=(.agg [(.str []),(.int .i64 0),(.int .i64 0),(.int .i64 0),(.int .i64 0),(.int .i64 0),(.str []),(.bool false)])) rfl trivial rfl rfl)<|s_mov (.bool false) rfl<|dk<|sr<|?_
 obtain ⟨r_3,er4,hf⟩:=ob hf
 refine s_q (.agg [(.str t_1.Name),(.lst 8 (t_1.Columns.map encGColumn)),(.lst 1 (t_1.Unique.map encI)),(.bool t_1.Root)]) rfl nle rfl<|s_mov (.str name_2) rfl<|s_do (o_call (w_impl_Table_columnAt _ _ _ er4) rfl (.refl _) rfl)<|s_mov (.int .i64 r_3) rfl<|dk<|awp_seq<|w_blk<|sr<|s_mov (.int .i64 r_3) rfl<|s_q (.bool (decide (r_3 ≥ 0))) rfl rfl rfl<|s_mov (.bool (decide (r_3 ≥ 0))) rfl<|dk<|?_
 rcases oi hf with ⟨c5,hf⟩ | ⟨c5,hf⟩
 ·refine w_condt rfl c5<|sr<|?_
  obtain ⟨x_6,ex7,hf⟩:=ob hf
  refine s_q (.ptr 0 0 1) rfl trivial rfl<|s_q (.lst 8 (t_1.Columns.map encGColumn)) rfl nle rfl<|s_mov (.int .i64 r_3) rfl<|s_do (o_iaddr (enc:=encGColumn) rfl rfl (idx0 ex7) (idx1 ex7))<|s_q (encGColumn x_6) rfl nle rfl<|s_do0 (o_storebox (v:=(.agg [(.str x_6.Name),(.int .i64 x_6.Kind),(.int .i64 x_6.Min),(.int .i64 x_6.Max),(.int .i64 x_6.Low),(.int .i64 x_6.High),(.str x_6.Ref),(.bool x_6.Strong)])) (y':=(.agg [(.str x_6.Name),(.int .i64 x_6.Kind),(.int .i64 x_6.Min),(.int .i64 x_6.Max),(.int .i64 x_6.Low),(.int .i64 x_6.High),(.str x_6.Ref),(.bool x_6.Strong)])) rfl rfl rfl trivial ⟨rfl,nle⟩ ⟨⟨rfl,trivial⟩,⟨⟨rfl,trivial⟩,⟨⟨rfl,trivial⟩,⟨⟨rfl,trivial⟩,⟨⟨rfl,trivial⟩,⟨⟨rfl,trivial⟩,⟨⟨rfl,trivial⟩,⟨⟨rfl,trivial⟩,trivial⟩⟩⟩⟩⟩⟩⟩⟩ rfl)<|?_
  refine s_mov (.bool true) rfl<|dk<|w_ret<|?_;obtain rfl:=os hf;exact r_flat ⟨nle,⟨trivial,trivial⟩⟩ rfl (.refl _)
 ·refine w_condf rfl (bf c5)<|sr<|s_mov (.str name_2) rfl<|s_q (.bool (name_2 == [95,117,117,105,100])) rfl trivial rfl<|s_mov (.bool (name_2 == [95,117,117,105,100])) rfl<|dk<|?_
  rcases oi hf with ⟨c8,hf⟩ | ⟨c8,hf⟩
  ·refine w_condt rfl c8<|sr<|s_q (.agg [(.str [95,117,117,105,100]),(.int .i64 4),(.int .i64 0),(.int .i64 1),(.int .i64 0),(.int .i64 0),(.str []),(.bool false)]) rfl ⟨⟨rfl,nle,trivial⟩,⟨⟨rfl,nle,trivial⟩,⟨⟨rfl,nle,trivial⟩,trivial⟩⟩⟩ rfl<|s_do0 (o_storebox (v:=(.agg [(.str [95,117,117,105,100]),(.int .i64 4),(.int .i64 0),(.int .i64 1),(.int .i64 0),(.int .i64 0),(.str []),(.bool false)])) (y':=(.agg [(.str [95,117,117,105,100]),(.int .i64 4),(.int .i64 0),(.int .i64 1),(.int .i64 0),(.int .i64 0),(.str []),(.bool false)])) rfl rfl rfl trivial ⟨rfl,nle⟩ ⟨⟨rfl,trivial⟩,⟨⟨rfl,trivial⟩,⟨⟨rfl,trivial⟩,⟨⟨rfl,trivial⟩,⟨⟨rfl,trivial⟩,⟨⟨rfl,trivial⟩,⟨⟨rfl,trivial⟩,⟨⟨rfl,trivial⟩,trivial⟩⟩⟩⟩⟩⟩⟩⟩ rfl)<|?_
   refine s_mov (.bool true) rfl<|dk<|w_ret<|?_;obtain rfl:=os hf;exact r_flat ⟨nle,⟨trivial,trivial⟩⟩ rfl (.refl _)
  ·refine w_condf rfl (bf c8)<|w_skip<|k_blk<|k_seq<|sr<|s_q (.agg [(.str []),(.int .i64 0),(.int .i64 0),(.int .i64 0),(.int .i64 0),(.int .i64 0),(.str []),(.bool false)]) rfl trivial rfl<|s_do0 (o_storebox (v:=(.agg [(.str []),(.int .i64 0),(.int .i64 0),(.int .i64 0),(.int .i64 0),(.int .i64 0),(.str []),(.bool false)])) (y':=(.agg [(.str []),(.int .i64 0),(.int .i64 0),(.int .i64 0),(.int .i64 0),(.int .i64 0),(.str []),(.bool false)])) rfl rfl rfl trivial ⟨rfl,nle⟩ ⟨⟨rfl,trivial⟩,⟨⟨rfl,trivial⟩,⟨⟨rfl,trivial⟩,⟨⟨rfl,trivial⟩,⟨⟨rfl,trivial⟩,⟨⟨rfl,trivial⟩,⟨⟨rfl,trivial⟩,⟨⟨rfl,trivial⟩,trivial⟩⟩⟩⟩⟩⟩⟩⟩ rfl)<|s_mov (.bool false) rfl<|?_
   refine dk<|w_ret<|?_;obtain rfl:=os hf;exact r_flat ⟨nle,⟨trivial,trivial⟩⟩ rfl (.refl _)

/- impl.columnsCode -/
def c112:ACode :=
 (.seq (.reg (tq 2 (.box 4 (.t 0)) (tm 4 (.c (.int .i64 0)) .done)))
 (.seq (.seq (.reg (tm 9 (.t 1) (tq 10 (.len (.t 9)) (tm 11 (.c (.int .i64 0)) .done))))
 (.block 0 (.loop (.seq (.reg (tq 12 (.bin .lss (.t 11) (.t 10)) .done))
 (.seq (.cond (.t 12) .skip
 (.exit 0))
 (.seq (.block 1 (.seq (.reg (tq 13 (.iaddr 1 (.t 9) (.t 11)) (tq 14 (.load 1 false (.t 13)) (tm 6 (.t 14) .done))))
 (.seq (.reg (tq 16 (.load 4 true (.t 2)) (tm 17 (.t 6) (tq 18 (.call 196 [(.t 16),(.t 17)]) (tm 15 (.t 18) (tq 19 (.extract 0 (.t 15)) (tq 20 (.extract 1 (.t 15)) (tq 7 (.box 8 (.c (.agg [(.str []),(.int .i64 0),(.int .i64 0),(.int .i64 0),(.int .i64 0),(.int .i64 0),(.str []),(.bool false)]))) (.q ⟨none,none,.store 8 (.t 7) (.t 19)⟩
 (tm 8 (.t 20) .done))))))))))
 (.seq (.reg (tm 21 (.t 8) (tq 22 (.not (.t 21)) .done)))
 (.cond (.t 22) (.seq (.reg (tm 4 (.c (.int .i64 11)) .done))
 .ret)
 .skip)))))
 (.reg (tq 23 (.bin .add (.t 11) (.c (.int .i64 1))) (tm 11 (.t 23) .done)))))))))
 (.cut (.seq (.reg (tm 4 (.c (.int .i64 0)) .done))
 .ret))))
theorem fc112:fcomp Try.prog Try.f112 = some (c112.erase,[.mov (.t 4)],24):=by kernel_rfl
def impl_columnsCode_L1 (t_1:GTable):List Str → Option (Fl Int Unit)
  | [] =>
    some (.go ())
  | x_31 :: xs =>
    (impl_Table_named t_1 x_31).bind fun r_32 =>
    if (!r_32.2) then
    some (.ret 11)
    else
    impl_columnsCode_L1 t_1 xs 

def impl_columnsCode (t_1:GTable) (names_2:(List Str)):Option Int :=
    (impl_columnsCode_L1 t_1 names_2 ).bind fun q => (match q with
    | .ret r => some r
    | .go _ =>
    some 0)
theorem w_impl_columnsCode (t_1:GTable) (names_2:(List Str)) (r:Int) (hf:impl_columnsCode t_1 names_2 = some r):CallOK Try.prog 112 .flat [(encGTable t_1),(.lst 1 (names_2.map AV.str))] (.int .i64 r):=by
 refine CallOK.of_awp mixed Try.func112 fc112 nle ?_;rw [argT_eq];unfold impl_columnsCode at hf;unfold c112;refine (show awp Try.prog false 0 _ (ofL [(0,(encGTable t_1)),(1,(.lst 1 (names_2.map AV.str)))]) [] _ from ?_);refine sr<|s_do (o_box (j:=0) (c:=(.agg [(.str t_1.Name),(.lst 8 (t_1.Columns.map encGColumn)),(.lst 1 (t_1.Unique.map encI)),(.bool t_1.Root)])) rfl trivial rfl rfl)<|s_mov (.int .i64 0) rfl<|dk<|awp_seq<|sr<|s_mov (.lst 1 (names_2.map AV.str)) rfl<|s_dof (o_len (enc:=AV.str) rfl) fun hl3 => s_mov (.int .i64 0) rfl<|dk<|?_
 obtain ⟨p24,hb1,hf⟩:=ob hf
 refine awp_cutx (X:={q:Unit // p24 = .go q}) (fun q => ([],[])) ?_ ?_
 ·refine awp_loop (X:={q:Nat // impl_columnsCode_L1 t_1 (names_2.drop q)  = some p24}) (fun q => ([(2,(.ptr 0 0 0)),(9,(.lst 1 (names_2.map AV.str))),(10,(.int .i64 (names_2.length:Int))),(11,(.int .i64 (q.1:Int)))],[.box 4 (.agg [(.str t_1.Name),(.lst 8 (t_1.Columns.map encGColumn)),(.lst 1 (t_1.Unique.map encI)),(.bool t_1.Root)])])) (fun q => names_2.length - q.1) ⟨0,hb1⟩ ⟨[],[0],_,_,rfl,rfl,⟨.refl _,⟨.refl _,⟨.refl _,⟨.refl _,trivial⟩⟩⟩⟩,(.refl _)⟩ ?_
  rintro ⟨s11_17,hc1⟩
  have hc1:impl_columnsCode_L1 t_1 (names_2.drop s11_17)  = some p24:=hc1
  refine (show awp Try.prog false 0 _ (ofL [(2,(.ptr 0 0 0)),(9,(.lst 1 (names_2.map AV.str))),(10,(.int .i64 (names_2.length:Int))),(11,(.int .i64 (s11_17:Int)))]) [.box 4 (.agg [(.str t_1.Name),(.lst 8 (t_1.Columns.map encGColumn)),(.lst 1 (t_1.Unique.map encI)),(.bool t_1.Root)])] _ from ?_)
  rcases dropc names_2 s11_17 with ⟨hie27,hd30⟩ | ⟨hlt25,x_31,hx26,hd30⟩
  ·rw [hd30,impl_columnsCode_L1.eq_1] at hc1
   have hq29:=dlf hie27
   refine sr<|s_q (.bool (decide ((s11_17:Int) < (names_2.length:Int)))) rfl rfl rfl<|dk<|awp_seq<|w_condf rfl hq29<|w_exit<|k_seqx<|k_loopx<|k_blkx<|?_;obtain rfl:=os hc1;exact k_cutn ⟨_,rfl⟩ ⟨[],[],_,_,rfl,rfl,trivial,(.refl _)⟩
  ·rw [hd30,impl_columnsCode_L1.eq_2] at hc1
   have hq29:=dlt hlt25
   refine sr<|s_q (.bool (decide ((s11_17:Int) < (names_2.length:Int)))) rfl rfl rfl<|dk<|awp_seq<|w_condt rfl hq29<|w_skip<|k_seq<|awp_seq<|w_blk<|sr<|s_do (o_iaddrn (enc:=AV.str) rfl rfl hx26)<|s_q (.str x_31) rfl ⟨rfl,rfl⟩ rfl<|s_mov (.str x_31) rfl<|dk<|sr<|?_
   obtain ⟨r_32,er33,hc1⟩:=ob hc1
   refine s_q (.agg [(.str t_1.Name),(.lst 8 (t_1.Columns.map encGColumn)),(.lst 1 (t_1.Unique.map encI)),(.bool t_1.Root)]) rfl nle rfl<|s_mov (.str x_31) rfl<|s_do (o_call (w_impl_Table_named _ _ _ er33) rfl (.refl _) rfl)<|s_mov (.tup [(encGColumn r_32.1),(.bool r_32.2)]) rfl<|s_q (encGColumn r_32.1) rfl nle rfl<|s_q (.bool r_32.2) rfl nle rfl<|s_do (o_box (j:=1) (c:=(.agg [(.str []),(.int .i64 0),(.int .i64 0),(.int .i64 0),(.int .i64 0),(.int .i64 0),(.str []),(.bool false)])) rfl trivial rfl rfl)<|s_do0 (o_storebox (v:=(.agg [(.str r_32.1.Name),(.int .i64 r_32.1.Kind),(.int .i64 r_32.1.Min),(.int .i64 r_32.1.Max),(.int .i64 r_32.1.Low),(.int .i64 r_32.1.High),(.str r_32.1.Ref),(.bool r_32.1.Strong)])) (y':=(.agg [(.str r_32.1.Name),(.int .i64 r_32.1.Kind),(.int .i64 r_32.1.Min),(.int .i64 r_32.1.Max),(.int .i64 r_32.1.Low),(.int .i64 r_32.1.High),(.str r_32.1.Ref),(.bool r_32.1.Strong)])) rfl rfl rfl trivial ⟨rfl,nle⟩ ⟨⟨rfl,trivial⟩,⟨⟨rfl,trivial⟩,⟨⟨rfl,trivial⟩,⟨⟨rfl,trivial⟩,⟨⟨rfl,trivial⟩,⟨⟨rfl,trivial⟩,⟨⟨rfl,trivial⟩,⟨⟨rfl,trivial⟩,trivial⟩⟩⟩⟩⟩⟩⟩⟩ rfl)<|?_
   refine s_mov (.bool r_32.2) rfl<|dk<|sr<|s_mov (.bool r_32.2) rfl<|s_q (.bool (!r_32.2)) rfl trivial rfl<|dk<|?_
   rcases oi hc1 with ⟨c34,hc1⟩ | ⟨c34,hc1⟩
   ·refine w_condt rfl c34<|sr<|s_mov (.int .i64 11) rfl<|dk<|w_ret<|?_;obtain rfl:=os hc1;obtain rfl:=os hf;exact r_flat ⟨trivial,trivial⟩ rfl (.refl _)
   ·refine w_condf rfl (bf c34)<|w_skip<|k_blk<|k_seq<|w_reg<|s_q (.int .i64 (w64 ((s11_17:Int) + 1))) rfl rfl rfl<|s_mov (.int .i64 (w64 ((s11_17:Int) + 1))) rfl<|w_done<|?_;exact k_loopn ⟨(s11_17 + 1),hc1⟩ (mul hlt25) ⟨[],[0],_,_,rfl,rfl,⟨.refl _,⟨.refl _,⟨.refl _,⟨.of_eq (congrArg (AV.int _) (w64_incr hlt25 hl3)),trivial⟩⟩⟩⟩,(.refl _)⟩
 ·rintro ⟨_,rfl⟩
  refine sr<|s_mov (.int .i64 0) rfl<|dk<|w_ret<|?_;obtain rfl:=os hf;exact r_flat ⟨trivial,trivial⟩ rfl (.refl _)

/- (impl.Table).cell -/
def c197:ACode :=
 (.seq (.reg (tq 3 (.box 4 (.t 0)) (tq 4 (.box 2 (.t 1)) (tm 6 (.c .nil) .done))))
 (.seq (.seq (.reg (tq 8 (.load 4 true (.t 3)) (tm 9 (.t 2) (tq 10 (.call 183 [(.t 8),(.t 9)]) (tm 7 (.t 10) .done)))))
 (.seq (.reg (tm 11 (.t 7) (tq 12 (.bin .geq (.t 11) (.c (.int .i64 0))) .done)))
 (.cond (.t 12) (.seq (.reg (tq 13 (.faddr 1 (.t 4)) (tq 14 (.load 1 false (.t 13)) (tm 15 (.t 7) (tq 16 (.iaddr 1 (.t 14) (.t 15)) (tq 17 (.load 1 false (.t 16)) (tm 6 (.t 17) .done)))))))
 .ret)
 .skip)))
 (.seq (.reg (tq 18 (.faddr 0 (.t 4)) (tq 19 (.load 1 false (.t 18)) (tq 20 (.build [(.int .i64 0),(.int .i64 0),(.str [])] [(0,1,(.c (.int .i64 4))),(1,1,(.t 19))]) (tq 21 (.bslice 3 [(.t 20)]) (tm 6 (.t 21) .done))))))
 .ret)))
theorem fc197:fcomp Try.prog Try.f197 = some (c197.erase,[.mov (.t 6)],22):=by kernel_rfl
def impl_Table_cell (t_1:GTable) (r_2:GRow) (name_3:Str):Option (List GAtom) :=
    (impl_Table_columnAt t_1 name_3).bind fun r_4 =>
    if (decide (r_4 ≥ 0)) then
    (idx r_2.Cells r_4).bind fun x_7 =>
    some x_7
    else
    some [(⟨4,r_2.Id,[]⟩:GAtom)]
theorem w_impl_Table_cell (t_1:GTable) (r_2:GRow) (name_3:Str) (r:(List GAtom)) (hf:impl_Table_cell t_1 r_2 name_3 = some r):CallOK Try.prog 197 .weak [(encGTable t_1),(encGRow r_2),(.str name_3)] (.lst 3 (r.map encGAtom)):=by
 refine CallOK.of_awp mixed Try.func197 fc197 nle ?_;rw [argT_eq];unfold impl_Table_cell at hf;unfold c197;refine (show awp Try.prog false 0 _ (ofL [(0,(encGTable t_1)),(1,(encGRow r_2)),(2,(.str name_3))]) [] _ from ?_);refine sr<|s_do (o_box (j:=0) (c:=(.agg [(.str t_1.Name),(.lst 8 (t_1.Columns.map encGColumn)),(.lst 1 (t_1.Unique.map encI)),(.bool t_1.Root)])) rfl trivial rfl rfl)<|s_do (o_box (j:=1) (c:=(.agg [(.int .i64 r_2.Id),(.lst 1 (r_2.Cells.map (encL 3 encGAtom)))])) rfl trivial rfl rfl)<|s_mov .nil rfl<|dk<|awp_seq<|sr<|?_
 obtain ⟨r_4,er5,hf⟩:=ob hf
 refine s_q (.agg [(.str t_1.Name),(.lst 8 (t_1.Columns.map encGColumn)),(.lst 1 (t_1.Unique.map encI)),(.bool t_1.Root)]) rfl nle rfl<|s_mov (.str name_3) rfl<|s_do (o_call (w_impl_Table_columnAt _ _ _ er5) rfl (.refl _) rfl)<|s_mov (.int .i64 r_4) rfl<|dk<|sr<|s_mov (.int .i64 r_4) rfl<|s_q (.bool (decide (r_4 ≥ 0))) rfl rfl rfl<|dk<|?_
 rcases oi hf with ⟨c6,hf⟩ | ⟨c6,hf⟩
 ·refine w_condt rfl c6<|sr<|?_
  obtain ⟨x_7,ex8,hf⟩:=ob hf
  refine s_q (.ptr 1 0 1) rfl trivial rfl<|s_q (.lst 1 (r_2.Cells.map (encL 3 encGAtom))) rfl nle rfl<|s_mov (.int .i64 r_4) rfl<|s_do (o_iaddr (enc:=(encL 3 encGAtom)) rfl rfl (idx0 ex8) (idx1 ex8))<|s_q (.lst 3 (x_7.map encGAtom)) rfl ⟨rfl,rfl⟩ rfl<|s_mov (.lst 3 (x_7.map encGAtom)) rfl<|dk<|w_ret<|?_;obtain rfl:=os hf;exact r_weak ⟨trivial,trivial⟩ rfl (.refl _)
 ·refine w_condf rfl (bf c6)<|w_skip<|k_seq<|sr<|s_q (.ptr 1 0 0) rfl trivial rfl<|s_q (.int .i64 r_2.Id) rfl nle rfl<|s_q (.agg [(.int .i64 4),(.int .i64 r_2.Id),(.str [])]) rfl ⟨⟨rfl,nle,trivial⟩,⟨⟨rfl,nle,trivial⟩,trivial⟩⟩ rfl<|?_;refine s_do (o_bslice (j:=2) (as':=[(encGAtom (⟨4,r_2.Id,[]⟩:GAtom))]) rfl (fun _ => by decide) ⟨rfl,trivial⟩ (.refl _) rfl rfl rfl) ?_;refine s_mov (.own 2 0 1) rfl<|dk<|w_ret<|?_;obtain rfl:=os hf;exact r_weak ⟨trivial,trivial⟩ rfl (.refl _)

/- slices.Clone[[]impl.Atom,impl.Atom] -/
def c177:ACode :=
 (.seq (.reg (tm 2 (.c .nil) .done))
 (.seq (.seq (.reg (tm 3 (.t 0) (tq 4 (.isnil false (.t 3)) .done)))
 (.cond (.t 4) (.seq (.reg (tm 2 (.c .nil) .done))
 .ret)
 .skip))
 (.seq (.reg (tq 5 (.bslice 3 []) (tm 6 (.t 0) (tq 7 (.append 3 32 (.t 5) (.t 6)) (tm 2 (.t 7) .done)))))
 .ret)))
theorem fc177:fcomp Try.prog Try.f177 = some (c177.erase,[.mov (.t 2)],8):=by kernel_rfl
def slices_Clone_impl_Atom_impl_Atom (s_1:(List GAtom)):Option (List GAtom) :=
    if ([] ++ s_1).length ≤ 2 ^ 30 then
    some ([] ++ s_1)
    else none
theorem w_slices_Clone_impl_Atom_impl_Atom (s_1:(List GAtom)) (r:(List GAtom)) (hf:slices_Clone_impl_Atom_impl_Atom s_1 = some r):CallOK Try.prog 177 .fresh [(.lst 3 (s_1.map encGAtom))] (.lst 3 (r.map encGAtom)):=by
 refine CallOK.of_awp mixed Try.func177 fc177 nle ?_;rw [argT_eq];unfold slices_Clone_impl_Atom_impl_Atom at hf;unfold c177;refine (show awp Try.prog true 0 _ (ofL [(0,(.lst 3 (s_1.map encGAtom)))]) [] _ from ?_);refine sr<|s_mov .nil rfl<|dk<|awp_seq<|sr<|s_mov (.lst 3 (s_1.map encGAtom)) rfl<|s_isn (l:=s_1.map encGAtom) rfl<|?_
 intro b hb3
 rcases b with _ | _
 ·refine dk<|w_condf rfl rfl<|w_skip<|k_seq<|sr<|?_
  obtain ⟨g2,hf⟩:=og hf
  refine s_do (o_bslice (j:=0) (as':=[]) rfl (fun _ => by decide) trivial (.refl _) rfl rfl rfl) ?_;refine s_mov (.lst 3 (s_1.map encGAtom)) rfl ?_
  refine s_do (o_appendd (j:=1) (L:=(([] ++ s_1).map encGAtom)) (len:=([] ++ s_1).length) rfl false rfl rfl (fun _ => flm (fun _ => rfl) _) (fun _ _ _ => flm (fun _ => rfl) _) (by decide) ((by simp)) (by simp <;> omega) g2 rfl rfl) ?_
  refine s_mov (.own 1 0 (([] ++ s_1).length)) rfl<|dk<|w_ret<|?_;obtain rfl:=os hf;exact r_fresh ⟨trivial,trivial⟩ rfl (by decide) (.of_eq (congrArg (AV.lst _) (tk (enc:=encGAtom) ([] ++ s_1))))
 ·have he4:s_1 = []:=mapnil (hb3 rfl)
  have hE:(if ([] ++ s_1).length ≤ 2 ^ 30 then some ([] ++ s_1) else none) = (some []):=by simp [he4]
  rw [hE] at hf;refine dk<|w_condt rfl rfl<|sr<|s_mov .nil rfl<|dk<|w_ret<|?_;obtain rfl:=os hf;exact r_fresh ⟨trivial,trivial⟩ rfl (by decide) (.nil _)

/- impl.pick -/
def c113:ACode :=
 (.seq (.reg (tq 3 (.box 4 (.t 0)) (tq 4 (.box 2 (.t 1)) (tq 6 (.box 2 (.c (.agg [(.int .i64 0),.nil]))) .done))))
 (.seq (.reg (tq 10 (.faddr 0 (.t 4)) (tq 11 (.load 1 false (.t 10)) (tq 12 (.build [(.int .i64 0),.nil] [(0,1,(.t 11))]) (tq 7 (.box 2 (.c (.agg [(.int .i64 0),.nil]))) (.q ⟨none,none,.store 2 (.t 7) (.t 12)⟩
 .done))))))
 (.seq (.seq (.reg (tm 13 (.t 2) (tq 14 (.len (.t 13)) (tm 15 (.c (.int .i64 0)) .done))))
 (.block 0 (.loop (.seq (.reg (tq 16 (.bin .lss (.t 15) (.t 14)) .done))
 (.seq (.cond (.t 16) .skip
 (.exit 0))
 (.seq (.block 1 (.seq (.reg (tq 17 (.iaddr 1 (.t 13) (.t 15)) (tq 18 (.load 1 false (.t 17)) (tm 9 (.t 18) .done))))
 (.reg (tq 19 (.faddr 1 (.t 7)) (tq 20 (.load 1 false (.t 19)) (tq 21 (.load 4 true (.t 3)) (tq 22 (.load 2 true (.t 4)) (tm 23 (.t 9) (.l ⟨(some 24),none,.call 197 [(.t 21),(.t 22),(.t 23)]⟩ [⟨(some 20),none,.load 1 false (.t 19)⟩,⟨(some 19),none,.faddr 1 (.t 7)⟩]
 (.l ⟨(some 25),none,.call 177 [(.t 24)]⟩ [⟨(some 20),none,.load 1 false (.t 19)⟩,⟨(some 19),none,.faddr 1 (.t 7)⟩]
 (.l ⟨(some 26),none,.bslice 1 [(.t 25)]⟩ [⟨(some 20),none,.load 1 false (.t 19)⟩,⟨(some 19),none,.faddr 1 (.t 7)⟩]
 (.l ⟨(some 27),none,.append 1 24 (.t 20) (.t 26)⟩ []
 (tq 28 (.faddr 1 (.t 7)) (.l ⟨none,none,.store 1 (.t 28) (.t 27)⟩ []
 .done .non)) .non) .non) .non) .non)))))))))
 (.reg (tq 29 (.bin .add (.t 15) (.c (.int .i64 1))) (tm 15 (.t 29) .done)))))))))
 (.cut (.seq (.reg (tq 30 (.load 2 true (.t 7)) (.q ⟨none,none,.store 2 (.t 6) (.t 30)⟩
 .done)))
 .ret)))))
theorem fc113:fcomp Try.prog Try.f113 = some (c113.erase,[.load 2 true (.t 6)],31):=by kernel_rfl
def impl_pick_L1 (t_1:GTable) (r_2:GRow):List Str → (List (List GAtom)) → Option (List (List GAtom))
  | [],x_24 =>
    some x_24
  | x_41 :: xs,x_24 =>
    (impl_Table_cell t_1 r_2 x_41).bind fun r_42 =>
    (slices_Clone_impl_Atom_impl_Atom r_42).bind fun r_44 =>
    if (x_24 ++ [r_44]).length ≤ 2 ^ 30 then
    impl_pick_L1 t_1 r_2 xs  (x_24 ++ [r_44])
    else none

def impl_pick (t_1:GTable) (r_2:GRow) (names_3:(List Str)):Option GRow :=
    (impl_pick_L1 t_1 r_2 names_3 []).bind fun x_33 =>
    some (⟨r_2.Id,x_33⟩:GRow)
theorem w_impl_pick (t_1:GTable) (r_2:GRow) (names_3:(List Str)) (r:GRow) (hf:impl_pick t_1 r_2 names_3 = some r):CallOK Try.prog 113 .fresh [(encGTable t_1),(encGRow r_2),(.lst 1 (names_3.map AV.str))] (encGRow r):=by
 refine CallOK.of_awp mixed Try.func113 fc113 nle ?_;rw [argT_eq];unfold impl_pick at hf;unfold c113;refine (show awp Try.prog true 0 _ (ofL [(0,(encGTable t_1)),(1,(encGRow r_2)),(2,(.lst 1 (names_3.map AV.str)))]) [] _ from ?_);refine sr<|s_do (o_box (j:=0) (c:=(.agg [(.str t_1.Name),(.lst 8 (t_1.Columns.map encGColumn)),(.lst 1 (t_1.Unique.map encI)),(.bool t_1.Root)])) rfl trivial rfl rfl)<|s_do (o_box (j:=1) (c:=(.agg [(.int .i64 r_2.Id),(.lst 1 (r_2.Cells.map (encL 3 encGAtom)))])) rfl trivial rfl rfl)<|s_do (o_box (j:=2) (c:=(.agg [(.int .i64 0),.nil])) rfl trivial rfl rfl)<|dk<|sr<|s_q (.ptr 1 0 0) rfl trivial rfl<|s_q (.int .i64 r_2.Id) rfl nle rfl<|?_
 refine s_q (.agg [(.int .i64 r_2.Id),.nil]) rfl ⟨⟨rfl,nle,trivial⟩,trivial⟩ rfl<|s_do (o_box (j:=3) (c:=(.agg [(.int .i64 0),.nil])) rfl trivial rfl rfl)<|s_do0 (o_storebox (v:=(.agg [(.int .i64 r_2.Id),.nil])) (y':=(.agg [(.int .i64 r_2.Id),.nil])) rfl rfl rfl trivial ⟨rfl,nle⟩ ⟨⟨rfl,trivial⟩,⟨⟨rfl,trivial⟩,trivial⟩⟩ rfl)<|dk<|awp_seq<|sr<|s_mov (.lst 1 (names_3.map AV.str)) rfl<|s_dof (o_len (enc:=AV.str) rfl) fun hl4 => s_mov (.int .i64 0) rfl<|dk<|?_
 obtain ⟨x_33,hb1,hf⟩:=ob hf
 refine awp_cut ([(6,(.ptr 0 0 0)),(7,(.ptr 1 0 0))],[.box 2 (.agg [(.int .i64 0),.nil]),.box 2 (.agg [(.int .i64 r_2.Id),(.own 2 0 x_33.length)]),.row 1 (x_33.map (encL 3 encGAtom))]) ?_ ?_
 ·refine awp_loop (X:={q:(Nat × (List (List GAtom))) // impl_pick_L1 t_1 r_2 (names_3.drop q.1) q.2 = some x_33}) (fun q => ([(3,(.ptr 0 0 0)),(4,(.ptr 1 0 0)),(6,(.ptr 2 0 0)),(7,(.ptr 3 0 0)),(13,(.lst 1 (names_3.map AV.str))),(14,(.int .i64 (names_3.length:Int))),(15,(.int .i64 (q.1.1:Int)))],[.box 4 (.agg [(.str t_1.Name),(.lst 8 (t_1.Columns.map encGColumn)),(.lst 1 (t_1.Unique.map encI)),(.bool t_1.Root)]),.box 2 (.agg [(.int .i64 r_2.Id),(.lst 1 (r_2.Cells.map (encL 3 encGAtom)))]),.box 2 (.agg [(.int .i64 0),.nil]),.box 2 (.agg [(.int .i64 r_2.Id),(.own 4 0 q.1.2.length)]),.row 1 (q.1.2.map (encL 3 encGAtom))])) (fun q => names_3.length - q.1.1) ⟨(0,[]),hb1⟩ ⟨[.nilC 3 1 1],[0,1,2,3,4],_,_,rfl,rfl,⟨.refl _,⟨.refl _,⟨.refl _,⟨.refl _,⟨.refl _,⟨.refl _,⟨.refl _,trivial⟩⟩⟩⟩⟩⟩⟩,(.refl _)⟩ ?_
  rintro ⟨⟨s15_23,x_24⟩,hc1⟩
  have hc1:impl_pick_L1 t_1 r_2 (names_3.drop s15_23) x_24 = some x_33:=hc1
  refine (show awp Try.prog true 0 _ (ofL [(3,(.ptr 0 0 0)),(4,(.ptr 1 0 0)),(6,(.ptr 2 0 0)),(7,(.ptr 3 0 0)),(13,(.lst 1 (names_3.map AV.str))),(14,(.int .i64 (names_3.length:Int))),(15,(.int .i64 (s15_23:Int)))]) [.box 4 (.agg [(.str t_1.Name),(.lst 8 (t_1.Columns.map encGColumn)),(.lst 1 (t_1.Unique.map encI)),(.bool t_1.Root)]),.box 2 (.agg [(.int .i64 r_2.Id),(.lst 1 (r_2.Cells.map (encL 3 encGAtom)))]),.box 2 (.agg [(.int .i64 0),.nil]),.box 2 (.agg [(.int .i64 r_2.Id),(.own 4 0 x_24.length)]),.row 1 (x_24.map (encL 3 encGAtom))] _ from ?_)
  rcases dropc names_3 s15_23 with ⟨hie37,hd40⟩ | ⟨hlt35,x_41,hx36,hd40⟩
  ·rw [hd40,impl_pick_L1.eq_1] at hc1
   have hq39:=dlf hie37
   refine sr<|s_q (.bool (decide ((s15_23:Int) < (names_3.length:Int)))) rfl rfl rfl<|dk<|awp_seq<|w_condf rfl hq39<|w_exit<|k_seqx<|k_loopx<|k_blkx<|?_;obtain rfl:=os hc1;exact ⟨[],[2,3,4],_,_,rfl,rfl,⟨.refl _,⟨.refl _,trivial⟩⟩,(.refl _)⟩
  ·rw [hd40,impl_pick_L1.eq_2] at hc1
   have hq39:=dlt hlt35
   refine sr<|s_q (.bool (decide ((s15_23:Int) < (names_3.length:Int)))) rfl rfl rfl<|dk<|awp_seq<|w_condt rfl hq39<|w_skip<|k_seq<|awp_seq<|w_blk<|sr<|s_do (o_iaddrn (enc:=AV.str) rfl rfl hx36)<|s_q (.str x_41) rfl ⟨rfl,rfl⟩ rfl<|s_mov (.str x_41) rfl<|dk<|w_reg<|?_
   obtain ⟨r_42,er43,hc1⟩:=ob hc1
   obtain ⟨r_44,er45,hc1⟩:=ob hc1
   obtain ⟨g46,hc1⟩:=og hc1
   refine s_q (.ptr 3 0 1) rfl trivial rfl<|s_q (.own 4 0 x_24.length) rfl nle rfl<|s_q (.agg [(.str t_1.Name),(.lst 8 (t_1.Columns.map encGColumn)),(.lst 1 (t_1.Unique.map encI)),(.bool t_1.Root)]) rfl nle rfl<|s_q (.agg [(.int .i64 r_2.Id),(.lst 1 (r_2.Cells.map (encL 3 encGAtom)))]) rfl nle rfl<|s_mov (.str x_41) rfl<|s_dol (o_callw rfl (w_impl_Table_cell _ _ _ _ er43) rfl (.refl _) rfl rfl) a_same trivial<|s_dol (o_callf (v:=(.own 5 0 r_44.length)) (h':=[.row 3 (r_44.map encGAtom)]) (w_slices_Clone_impl_Atom_impl_Atom _ _ er45) rfl (.refl _) (by simp only [openV,openVs,List.length_map,List.nil_append,List.append_nil,List.cons_append];rfl)) (.inr ⟨⟨nle,rfl⟩,⟨⟨trivial,rfl⟩,trivial⟩⟩) trivial<|?_
   refine s_dol (o_bslice (j:=6) (as':=[(.lst 3 (r_44.map encGAtom))]) rfl (fun _ => by decide) ⟨rfl,trivial⟩ (.cons (.of_eq (congrArg (AV.lst _) (tk (enc:=encGAtom) r_44))) .nil) rfl rfl rfl) (.inr ⟨⟨nle,rfl⟩,⟨⟨trivial,rfl⟩,trivial⟩⟩) trivial ?_
   refine s_dol (o_appendd (j:=7) (L:=((x_24 ++ [r_44]).map (encL 3 encGAtom))) (len:=(x_24 ++ [r_44]).length) rfl true rfl rfl (fun h => Bool.noConfusion h) (fun _ _ h => (ownl (show AV.own _ _ _ = AV.lst _ _ from h)).elim) (by decide) (apo (enc:=(encL 3 encGAtom)) x_24 [r_44]) (by simp <;> omega) g46 rfl rfl) trivial trivial ?_
   refine s_q (.ptr 3 0 1) rfl trivial rfl<|s_dol0 (o_storebox (v:=(.own 7 0 ((x_24 ++ [r_44]).length))) (y':=(.agg [(.int .i64 r_2.Id),(.own 7 0 ((x_24 ++ [r_44]).length))])) rfl rfl rfl trivial ⟨rfl,nle⟩ ⟨⟨rfl,trivial⟩,trivial⟩ rfl) trivial trivial<|w_done<|k_blk<|k_seq<|w_reg<|s_q (.int .i64 (w64 ((s15_23:Int) + 1))) rfl rfl rfl<|s_mov (.int .i64 (w64 ((s15_23:Int) + 1))) rfl<|w_done<|?_;exact k_loopn ⟨((s15_23 + 1),x_24 ++ [r_44]),hc1⟩ (mul hlt35) ⟨[],[0,1,2,3,7],_,_,rfl,rfl,⟨.refl _,⟨.refl _,⟨.refl _,⟨.refl _,⟨.refl _,⟨.refl _,⟨.of_eq (congrArg (AV.int _) (w64_incr hlt35 hl4)),trivial⟩⟩⟩⟩⟩⟩⟩,(.refl _)⟩
 ·refine sr<|s_q (.agg [(.int .i64 r_2.Id),(.own 2 0 x_33.length)]) rfl nle rfl<|s_do0 (o_storebox (v:=(.agg [(.int .i64 r_2.Id),(.own 2 0 x_33.length)])) (y':=(.agg [(.int .i64 r_2.Id),(.own 2 0 x_33.length)])) rfl rfl rfl trivial ⟨rfl,nle⟩ ⟨⟨rfl,trivial⟩,⟨⟨rfl,trivial⟩,trivial⟩⟩ rfl)<|dk<|w_ret<|?_;obtain rfl:=os hf;exact r_fresh ⟨nle,trivial⟩ rfl (by decide) (.agg (.cons (.refl _) (.cons (.of_eq (congrArg (AV.lst _) (tk (enc:=(encL 3 encGAtom)) x_33))) .nil)))

/- impl.PickColumns -/
def c35:ACode :=
 (.seq (.reg (tq 3 (.box 4 (.t 0)) (tq 4 (.box 2 (.t 1)) (tq 6 (.box 2 (.c (.agg [(.int .i64 0),.nil]))) (tm 7 (.c (.int .i64 0)) .done)))))
 (.seq (.block 0 (.seq (.reg (tm 10 (.t 2) (tq 11 (.call 111 [(.t 10)]) (tq 12 (.not (.t 11)) (tm 9 (.t 12) .done)))))
 (.cond (.t 9) (.seq (.reg (tq 13 (.build [(.int .i64 0),.nil] []) (.q ⟨none,none,.store 2 (.t 6) (.t 13)⟩
 (tm 7 (.c (.int .i64 2)) .done))))
 .ret)
 (.seq (.reg (tq 15 (.load 4 true (.t 3)) (tq 16 (.load 2 true (.t 4)) (tq 17 (.call 34 [(.t 15),(.t 16)]) (tq 18 (.not (.t 17)) (tm 14 (.t 18) .done))))))
 (.cond (.t 14) (.seq (.reg (tq 19 (.build [(.int .i64 0),.nil] []) (.q ⟨none,none,.store 2 (.t 6) (.t 19)⟩
 (tm 7 (.c (.int .i64 1)) .done))))
 .ret)
 .skip)))))
 (.seq (.seq (.reg (tq 20 (.load 4 true (.t 3)) (tm 21 (.t 2) (tq 22 (.call 112 [(.t 20),(.t 21)]) (tm 8 (.t 22) .done)))))
 (.seq (.reg (tm 23 (.t 8) (tq 24 (.bin .neq (.t 23) (.c (.int .i64 0))) .done)))
 (.cond (.t 24) (.seq (.reg (tq 25 (.build [(.int .i64 0),.nil] []) (tm 26 (.t 8) (.q ⟨none,none,.store 2 (.t 6) (.t 25)⟩
 (tm 7 (.t 26) .done)))))
 .ret)
 .skip)))
 (.seq (.reg (tq 27 (.load 4 true (.t 3)) (tq 28 (.load 2 true (.t 4)) (tm 29 (.t 2) (tq 30 (.call 113 [(.t 27),(.t 28),(.t 29)]) (.q ⟨none,none,.store 2 (.t 6) (.t 30)⟩
 (tm 7 (.c (.int .i64 0)) .done)))))))
 .ret))))
theorem fc35:fcomp Try.prog Try.f35 = some (c35.erase,[.load 2 true (.t 6),.mov (.t 7)],31):=by kernel_rfl
def impl_PickColumns (t_1:GTable) (r_2:GRow) (names_3:(List Str)):Option (GRow × Int) :=
    (impl_isList_string names_3).bind fun r_4 =>
    if (!r_4) then
    some ((⟨0,[]⟩:GRow),2)
    else
    (impl_RowOK t_1 r_2).bind fun r_7 =>
    if (!r_7) then
    some ((⟨0,[]⟩:GRow),1)
    else
    (impl_columnsCode t_1 names_3).bind fun r_10 =>
    if (r_10 != 0) then
    some ((⟨0,[]⟩:GRow),r_10)
    else
    (impl_pick t_1 r_2 names_3).bind fun r_13 =>
    some (r_13,0)
theorem w_impl_PickColumns (t_1:GTable) (r_2:GRow) (names_3:(List Str)) (r:(GRow × Int)) (hf:impl_PickColumns t_1 r_2 names_3 = some r):CallOK Try.prog 35 .fresh [(encGTable t_1),(encGRow r_2),(.lst 1 (names_3.map AV.str))] (.tup [(encGRow r.1),(.int .i64 r.2)]):=by
 refine CallOK.of_awp mixed Try.func35 fc35 nle ?_;rw [argT_eq];unfold impl_PickColumns at hf;unfold c35;refine (show awp Try.prog true 0 _ (ofL [(0,(encGTable t_1)),(1,(encGRow r_2)),(2,(.lst 1 (names_3.map AV.str)))]) [] _ from ?_);refine sr<|s_do (o_box (j:=0) (c:=(.agg [(.str t_1.Name),(.lst 8 (t_1.Columns.map encGColumn)),(.lst 1 (t_1.Unique.map encI)),(.bool t_1.Root)])) rfl trivial rfl rfl)<|s_do (o_box (j:=1) (c:=(.agg [(.int .i64 r_2.Id),(.lst 1 (r_2.Cells.map (encL 3 encGAtom)))])) rfl trivial rfl rfl)<|s_do (o_box (j:=2) (c:=(.agg [(.int .i64 0),.nil])) rfl trivial rfl rfl)<|s_mov (.int .i64 0) rfl<|dk<|awp_seq<|w_blk<|sr<|?_
 obtain ⟨r_4,er5,hf⟩:=ob hf
 refine s_mov (.lst 1 (names_3.map AV.str)) rfl<|s_do (o_call (w_impl_isList_string _ _ er5) rfl (.refl _) rfl)<|s_q (.bool (!r_4)) rfl trivial rfl<|s_mov (.bool (!r_4)) rfl<|dk<|?_
 rcases oi hf with ⟨c6,hf⟩ | ⟨c6,hf⟩
 ·refine w_condt rfl c6<|sr<|s_q (.agg [(.int .i64 0),.nil]) rfl trivial rfl<|s_do0 (o_storebox (v:=(.agg [(.int .i64 0),.nil])) (y':=(.agg [(.int .i64 0),.nil])) rfl rfl rfl trivial ⟨rfl,nle⟩ ⟨⟨rfl,trivial⟩,⟨⟨rfl,trivial⟩,trivial⟩⟩ rfl)<|s_mov (.int .i64 2) rfl<|dk<|w_ret<|?_;obtain rfl:=os hf;exact r_fresh ⟨nle,⟨trivial,trivial⟩⟩ rfl (by decide) (.tup (.cons (.agg (.cons (.refl _) (.cons (.nil _) .nil))) (.cons (.refl _) .nil)))
 ·refine w_condf rfl (bf c6)<|sr<|?_
  obtain ⟨r_7,er8,hf⟩:=ob hf
  refine s_q (.agg [(.str t_1.Name),(.lst 8 (t_1.Columns.map encGColumn)),(.lst 1 (t_1.Unique.map encI)),(.bool t_1.Root)]) rfl nle rfl<|s_q (.agg [(.int .i64 r_2.Id),(.lst 1 (r_2.Cells.map (encL 3 encGAtom)))]) rfl nle rfl<|s_do (o_call (w_impl_RowOK _ _ _ er8) rfl (.refl _) rfl)<|s_q (.bool (!r_7)) rfl trivial rfl<|s_mov (.bool (!r_7)) rfl<|dk<|?_
  rcases oi hf with ⟨c9,hf⟩ | ⟨c9,hf⟩
  ·refine w_condt rfl c9<|sr<|s_q (.agg [(.int .i64 0),.nil]) rfl trivial rfl<|s_do0 (o_storebox (v:=(.agg [(.int .i64 0),.nil])) (y':=(.agg [(.int .i64 0),.nil])) rfl rfl rfl trivial ⟨rfl,nle⟩ ⟨⟨rfl,trivial⟩,⟨⟨rfl,trivial⟩,trivial⟩⟩ rfl)<|s_mov (.int .i64 1) rfl<|dk<|w_ret<|?_;obtain rfl:=os hf;exact r_fresh ⟨nle,⟨trivial,trivial⟩⟩ rfl (by decide) (.tup (.cons (.agg (.cons (.refl _) (.cons (.nil _) .nil))) (.cons (.refl _) .nil)))
  ·refine w_condf rfl (bf c9)<|w_skip<|k_blk<|k_seq<|awp_seq<|sr<|?_
   obtain ⟨r_10,er11,hf⟩:=ob hf
   refine s_q (.agg [(.str t_1.Name),(.lst 8 (t_1.Columns.map encGColumn)),(.lst 1 (t_1.Unique.map encI)),(.bool t_1.Root)]) rfl nle rfl<|s_mov (.lst 1 (names_3.map AV.str)) rfl<|s_do (o_call (w_impl_columnsCode _ _ _ er11) rfl (.refl _) rfl)<|s_mov (.int .i64 r_10) rfl<|dk<|sr<|s_mov (.int .i64 r_10) rfl<|s_q (.bool (r_10 != 0)) rfl rfl rfl<|dk<|?_
   rcases oi hf with ⟨c12,hf⟩ | ⟨c12,hf⟩
   ·refine w_condt rfl c12<|sr<|s_q (.agg [(.int .i64 0),.nil]) rfl trivial rfl<|s_mov (.int .i64 r_10) rfl<|s_do0 (o_storebox (v:=(.agg [(.int .i64 0),.nil])) (y':=(.agg [(.int .i64 0),.nil])) rfl rfl rfl trivial ⟨rfl,nle⟩ ⟨⟨rfl,trivial⟩,⟨⟨rfl,trivial⟩,trivial⟩⟩ rfl)<|s_mov (.int .i64 r_10) rfl<|dk<|w_ret<|?_;obtain rfl:=os hf;exact r_fresh ⟨nle,⟨trivial,trivial⟩⟩ rfl (by decide) (.tup (.cons (.agg (.cons (.refl _) (.cons (.nil _) .nil))) (.cons (.refl _) .nil)))
   ·refine w_condf rfl (bf c12)<|w_skip<|k_seq<|sr<|?_
    obtain ⟨r_13,er14,hf⟩:=ob hf
    refine s_q (.agg [(.str t_1.Name),(.lst 8 (t_1.Columns.map encGColumn)),(.lst 1 (t_1.Unique.map encI)),(.bool t_1.Root)]) rfl nle rfl<|s_q (.agg [(.int .i64 r_2.Id),(.lst 1 (r_2.Cells.map (encL 3 encGAtom)))]) rfl nle rfl<|s_mov (.lst 1 (names_3.map AV.str)) rfl<|s_do (o_callf (v:=(.agg [(.int .i64 r_13.Id),(.own 3 0 r_13.Cells.length)])) (h':=[.row 1 (r_13.Cells.map (encL 3 encGAtom))]) (w_impl_pick _ _ _ _ er14) rfl (.refl _) (by simp only [openV,openVs,List.length_map,encGRow_eq,List.nil_append,List.append_nil,List.cons_append];rfl))<|s_do0 (o_storebox (v:=(.agg [(.int .i64 r_13.Id),(.own 3 0 r_13.Cells.length)])) (y':=(.agg [(.int .i64 r_13.Id),(.own 3 0 r_13.Cells.length)])) rfl rfl rfl trivial ⟨rfl,nle⟩ ⟨⟨rfl,trivial⟩,⟨⟨rfl,trivial⟩,trivial⟩⟩ rfl)<|?_
    refine s_mov (.int .i64 0) rfl<|dk<|w_ret<|?_;obtain rfl:=os hf;exact r_fresh ⟨nle,⟨trivial,trivial⟩⟩ rfl (by decide) (.tup (.cons (.agg (.cons (.refl _) (.cons (.of_eq (congrArg (AV.lst _) (tk (enc:=(encL 3 encGAtom)) r_13.Cells))) .nil))) (.cons (.refl _) .nil)))

/- laws.eqAtom -/
def c147:ACode :=
 (.seq (.reg (tq 2 (.box 3 (.t 0)) (tq 3 (.box 3 (.t 1)) (tm 4 (.c (.bool false)) .done))))
 (.seq (.seq (.reg (tq 5 (.faddr 0 (.t 2)) (tq 6 (.load 1 false (.t 5)) (tq 7 (.faddr 0 (.t 3)) (tq 8 (.load 1 false (.t 7)) (tq 9 (.bin .neq (.t 6) (.t 8)) .done))))))
 (.cond (.t 9) (.seq (.reg (tm 4 (.c (.bool false)) .done))
 .ret)
 .skip))
 (.seq (.seq (.reg (tq 10 (.faddr 1 (.t 2)) (tq 11 (.load 1 false (.t 10)) (tq 12 (.faddr 1 (.t 3)) (tq 13 (.load 1 false (.t 12)) (tq 14 (.bin .neq (.t 11) (.t 13)) .done))))))
 (.cond (.t 14) (.seq (.reg (tm 4 (.c (.bool false)) .done))
 .ret)
 .skip))
 (.seq (.seq (.reg (tq 15 (.faddr 2 (.t 2)) (tq 16 (.load 1 false (.t 15)) (tq 17 (.faddr 2 (.t 3)) (tq 18 (.load 1 false (.t 17)) (tq 19 (.bin .neq (.t 16) (.t 18)) .done))))))
 (.cond (.t 19) (.seq (.reg (tm 4 (.c (.bool false)) .done))
 .ret)
 .skip))
 (.seq (.reg (tm 4 (.c (.bool true)) .done))
 .ret)))))
theorem fc147:fcomp Try.prog Try.f147 = some (c147.erase,[.mov (.t 4)],20):=by kernel_rfl
def laws_eqAtom (a_1:GAtom) (b_2:GAtom):Option Bool :=
    if (a_1.Kind != b_2.Kind) then
    some false
    else
    if (a_1.N != b_2.N) then
    some false
    else
    if (!(a_1.T == b_2.T)) then
    some false
    else
    some true
theorem w_laws_eqAtom (a_1:GAtom) (b_2:GAtom) (r:Bool) (hf:laws_eqAtom a_1 b_2 = some r):CallOK Try.prog 147 .flat [(encGAtom a_1),(encGAtom b_2)] (.bool r):=by
 refine CallOK.of_awp mixed Try.func147 fc147 nle ?_;rw [argT_eq];unfold laws_eqAtom at hf;unfold c147;refine (show awp Try.prog false 0 _ (ofL [(0,(encGAtom a_1)),(1,(encGAtom b_2))]) [] _ from ?_);refine sr<|s_do (o_box (j:=0) (c:=(.agg [(.int .i64 a_1.Kind),(.int .i64 a_1.N),(.str a_1.T)])) rfl trivial rfl rfl)<|s_do (o_box (j:=1) (c:=(.agg [(.int .i64 b_2.Kind),(.int .i64 b_2.N),(.str b_2.T)])) rfl trivial rfl rfl)<|s_mov (.bool false) rfl<|dk<|awp_seq<|sr<|s_q (.ptr 0 0 0) rfl trivial rfl<|s_q (.int .i64 a_1.Kind) rfl nle rfl<|s_q (.ptr 1 0 0) rfl trivial rfl<|s_q (.int .i64 b_2.Kind) rfl nle rfl<|s_q (.bool (a_1.Kind != b_2.Kind)) rfl rfl rfl<|?_
 refine dk<|?_
 rcases oi hf with ⟨c3,hf⟩ | ⟨c3,hf⟩
 ·refine w_condt rfl c3<|sr<|s_mov (.bool false) rfl<|dk<|w_ret<|?_;obtain rfl:=os hf;exact r_flat ⟨trivial,trivial⟩ rfl (.refl _)
 ·refine w_condf rfl (bf c3)<|w_skip<|k_seq<|awp_seq<|sr<|s_q (.ptr 0 0 1) rfl trivial rfl<|s_q (.int .i64 a_1.N) rfl nle rfl<|s_q (.ptr 1 0 1) rfl trivial rfl<|s_q (.int .i64 b_2.N) rfl nle rfl<|s_q (.bool (a_1.N != b_2.N)) rfl rfl rfl<|dk<|?_
  rcases oi hf with ⟨c4,hf⟩ | ⟨c4,hf⟩
  ·refine w_condt rfl c4<|sr<|s_mov (.bool false) rfl<|dk<|w_ret<|?_;obtain rfl:=os hf;exact r_flat ⟨trivial,trivial⟩ rfl (.refl _)
  ·refine w_condf rfl (bf c4)<|w_skip<|k_seq<|awp_seq<|sr<|s_q (.ptr 0 0 2) rfl trivial rfl<|s_q (.str a_1.T) rfl nle rfl<|s_q (.ptr 1 0 2) rfl trivial rfl<|s_q (.str b_2.T) rfl nle rfl<|s_q (.bool (!(a_1.T == b_2.T))) rfl trivial rfl<|dk<|?_
   rcases oi hf with ⟨c5,hf⟩ | ⟨c5,hf⟩
   ·refine w_condt rfl c5<|sr<|s_mov (.bool false) rfl<|dk<|w_ret<|?_;obtain rfl:=os hf;exact r_flat ⟨trivial,trivial⟩ rfl (.refl _)
   ·refine w_condf rfl (bf c5)<|w_skip<|k_seq<|sr<|s_mov (.bool true) rfl<|dk<|w_ret<|?_;obtain rfl:=os hf;exact r_flat ⟨trivial,trivial⟩ rfl (.refl _)

/- laws.eqAtomS -/
def c63:ACode :=
 (.seq (.reg (tm 4 (.c (.bool false)) .done))
 (.seq (.seq (.reg (tm 6 (.t 0) (tq 7 (.len (.t 6)) (tm 8 (.t 1) (tq 9 (.len (.t 8)) (tq 10 (.bin .neq (.t 7) (.t 9)) .done))))))
 (.cond (.t 10) (.seq (.reg (tm 4 (.c (.bool false)) .done))
 .ret)
 .skip))
 (.seq (.seq (.reg (tm 5 (.c (.int .i64 0)) .done))
 (.block 0 (.loop (.seq (.seq (.reg (tm 11 (.t 5) (tm 12 (.t 0) (tq 13 (.len (.t 12)) (tq 14 (.bin .lss (.t 11) (.t 13)) .done)))))
 (.cond (.t 14) .skip
 (.exit 0)))
 (.seq (.block 1 (.seq (.reg (tm 17 (.t 0) (tm 18 (.t 5) (tq 19 (.iaddr 3 (.t 17) (.t 18)) (tq 20 (.load 3 true (.t 19)) (tm 21 (.t 1) (tm 22 (.t 5) (tq 23 (.iaddr 3 (.t 21) (.t 22)) (tq 24 (.load 3 true (.t 23)) (.l ⟨(some 25),none,.call 147 [(.t 20),(.t 24)]⟩ []
 (tq 26 (.not (.t 25)) .done) .non))))))))))
 (.cond (.t 26) (.seq (.reg (tm 4 (.c (.bool false)) .done))
 .ret)
 .skip)))
 (.reg (tm 15 (.t 5) (tq 16 (.bin .add (.t 15) (.c (.int .i64 1))) (tm 5 (.t 16) .done)))))))))
 (.cut (.seq (.reg (tm 4 (.c (.bool true)) .done))
 .ret)))))
theorem fc63:fcomp Try.prog Try.f63 = some (c63.erase,[.mov (.t 4)],27):=by kernel_rfl
def laws_eqAtomS_L1 (b_2:(List GAtom)):List GAtom → Nat → Option (Fl Bool Unit)
  | [],i_25 =>
    some (.go ())
  | x_43 :: xs,i_25 =>
    (idx b_2 (i_25:Int)).bind fun x_46 =>
    (laws_eqAtom x_43 x_46).bind fun r_48 =>
    if (!r_48) then
    some (.ret false)
    else
    laws_eqAtomS_L1 b_2 xs (i_25 + 1)

def laws_eqAtomS (a_1:(List GAtom)) (b_2:(List GAtom)):Option Bool :=
    if ((a_1.length:Int) != (b_2.length:Int)) then
    some false
    else
    (laws_eqAtomS_L1 b_2 a_1 0).bind fun q => (match q with
    | .ret r => some r
    | .go _ =>
    some true)
theorem w_laws_eqAtomS (a_1:(List GAtom)) (b_2:(List GAtom)) (r:Bool) (hf:laws_eqAtomS a_1 b_2 = some r):CallOK Try.prog 63 .flat [(.lst 3 (a_1.map encGAtom)),(.lst 3 (b_2.map encGAtom))] (.bool r):=by
 refine CallOK.of_awp mixed Try.func63 fc63 nle ?_;rw [argT_eq];unfold laws_eqAtomS at hf;unfold c63;refine (show awp Try.prog false 0 _ (ofL [(0,(.lst 3 (a_1.map encGAtom))),(1,(.lst 3 (b_2.map encGAtom)))]) [] _ from ?_);refine sr<|s_mov (.bool false) rfl<|dk<|awp_seq<|sr<|s_mov (.lst 3 (a_1.map encGAtom)) rfl<|s_dof (o_len (enc:=encGAtom) rfl) fun hl3 => s_mov (.lst 3 (b_2.map encGAtom)) rfl<|s_dof (o_len (enc:=encGAtom) rfl) fun hl4 => s_q (.bool ((a_1.length:Int) != (b_2.length:Int))) rfl rfl rfl<|dk<|?_
 rcases oi hf with ⟨c5,hf⟩ | ⟨c5,hf⟩
 ·refine w_condt rfl c5<|sr<|s_mov (.bool false) rfl<|dk<|w_ret<|?_;obtain rfl:=os hf;exact r_flat ⟨trivial,trivial⟩ rfl (.refl _)
 ·refine w_condf rfl (bf c5)<|w_skip<|k_seq<|awp_seq<|sr<|s_mov (.int .i64 0) rfl<|dk<|?_
  obtain ⟨p36,hb1,hf⟩:=ob hf
  refine awp_cutx (X:={q:Unit // p36 = .go q}) (fun q => ([],[])) ?_ ?_
  ·refine awp_loop (X:={q:Nat // laws_eqAtomS_L1 b_2 (a_1.drop q) q = some p36}) (fun q => ([(0,(.lst 3 (a_1.map encGAtom))),(1,(.lst 3 (b_2.map encGAtom))),(5,(.int .i64 (q.1:Int)))],[])) (fun q => a_1.length - q.1) ⟨0,hb1⟩ ⟨[],[],_,_,rfl,rfl,⟨.refl _,⟨.refl _,⟨.refl _,trivial⟩⟩⟩,(.refl _)⟩ ?_
   rintro ⟨i_25,hc1⟩
   have hc1:laws_eqAtomS_L1 b_2 (a_1.drop i_25) i_25 = some p36:=hc1
   refine (show awp Try.prog false 0 _ (ofL [(0,(.lst 3 (a_1.map encGAtom))),(1,(.lst 3 (b_2.map encGAtom))),(5,(.int .i64 (i_25:Int)))]) [] _ from ?_)
   rcases dropc a_1 i_25 with ⟨hie39,hd42⟩ | ⟨hlt37,x_43,hx38,hd42⟩
   ·rw [hd42,laws_eqAtomS_L1.eq_1] at hc1
    have hq41:=dlf hie39
    refine awp_seq<|sr<|s_mov (.int .i64 (i_25:Int)) rfl<|s_mov (.lst 3 (a_1.map encGAtom)) rfl<|s_dof (o_len (enc:=encGAtom) rfl) fun hl44 => s_q (.bool (decide ((i_25:Int) < (a_1.length:Int)))) rfl rfl rfl<|dk<|w_condf rfl hq41<|w_exit<|k_seqx<|k_loopx<|k_blkx<|?_;obtain rfl:=os hc1;exact k_cutn ⟨_,rfl⟩ ⟨[],[],_,_,rfl,rfl,trivial,(.refl _)⟩
   ·rw [hd42,laws_eqAtomS_L1.eq_2] at hc1
    have hq41:=dlt hlt37
    refine awp_seq<|sr<|s_mov (.int .i64 (i_25:Int)) rfl<|s_mov (.lst 3 (a_1.map encGAtom)) rfl<|s_dof (o_len (enc:=encGAtom) rfl) fun hl45 => s_q (.bool (decide ((i_25:Int) < (a_1.length:Int)))) rfl rfl rfl<|dk<|w_condt rfl hq41<|w_skip<|k_seq<|awp_seq<|w_blk<|sr<|?_
    obtain ⟨x_46,ex47,hc1⟩:=ob hc1
    obtain ⟨r_48,er49,hc1⟩:=ob hc1
    refine s_mov (.lst 3 (a_1.map encGAtom)) rfl<|s_mov (.int .i64 (i_25:Int)) rfl<|s_do (o_iaddrn (enc:=encGAtom) rfl rfl hx38)<|s_q (encGAtom x_43) rfl nle rfl<|s_mov (.lst 3 (b_2.map encGAtom)) rfl<|s_mov (.int .i64 (i_25:Int)) rfl<|s_do (o_iaddr (enc:=encGAtom) rfl rfl (idx0 ex47) (idx1 ex47))<|s_q (encGAtom x_46) rfl nle rfl<|s_dol (o_call (w_laws_eqAtom _ _ _ er49) rfl (.refl _) rfl) a_same trivial<|s_q (.bool (!r_48)) rfl trivial rfl<|dk<|?_
    rcases oi hc1 with ⟨c50,hc1⟩ | ⟨c50,hc1⟩
    ·refine w_condt rfl c50<|sr<|s_mov (.bool false) rfl<|dk<|w_ret<|?_;obtain rfl:=os hc1;obtain rfl:=os hf;exact r_flat ⟨trivial,trivial⟩ rfl (.refl _)
    ·refine w_condf rfl (bf c50)<|w_skip<|k_blk<|k_seq<|w_reg<|s_mov (.int .i64 (i_25:Int)) rfl<|s_q (.int .i64 (w64 ((i_25:Int) + 1))) rfl rfl rfl<|s_mov (.int .i64 (w64 ((i_25:Int) + 1))) rfl<|w_done<|?_;exact k_loopn ⟨(i_25 + 1),hc1⟩ (mul hlt37) ⟨[],[],_,_,rfl,rfl,⟨.refl _,⟨.refl _,⟨.of_eq (congrArg (AV.int _) (w64_incr hlt37 hl45)),trivial⟩⟩⟩,(.refl _)⟩
  ·rintro ⟨_,rfl⟩
   refine sr<|s_mov (.bool true) rfl<|dk<|w_ret<|?_;obtain rfl:=os hf;exact r_flat ⟨trivial,trivial⟩ rfl (.refl _)

/- laws.eqAtomSS -/
def c122:ACode :=
 (.seq (.reg (tm 4 (.c (.bool false)) .done))
 (.seq (.seq (.reg (tm 6 (.t 0) (tq 7 (.len (.t 6)) (tm 8 (.t 1) (tq 9 (.len (.t 8)) (tq 10 (.bin .neq (.t 7) (.t 9)) .done))))))
 (.cond (.t 10) (.seq (.reg (tm 4 (.c (.bool false)) .done))
 .ret)
 .skip))
 (.seq (.seq (.reg (tm 5 (.c (.int .i64 0)) .done))
 (.block 0 (.loop (.seq (.seq (.reg (tm 11 (.t 5) (tm 12 (.t 0) (tq 13 (.len (.t 12)) (tq 14 (.bin .lss (.t 11) (.t 13)) .done)))))
 (.cond (.t 14) .skip
 (.exit 0)))
 (.seq (.block 1 (.seq (.reg (tm 17 (.t 0) (tm 18 (.t 5) (tq 19 (.iaddr 1 (.t 17) (.t 18)) (tq 20 (.load 1 false (.t 19)) (tm 21 (.t 1) (tm 22 (.t 5) (tq 23 (.iaddr 1 (.t 21) (.t 22)) (tq 24 (.load 1 false (.t 23)) (.l ⟨(some 25),none,.call 63 [(.t 20),(.t 24)]⟩ []
 (tq 26 (.not (.t 25)) .done) .non))))))))))
 (.cond (.t 26) (.seq (.reg (tm 4 (.c (.bool false)) .done))
 .ret)
 .skip)))
 (.reg (tm 15 (.t 5) (tq 16 (.bin .add (.t 15) (.c (.int .i64 1))) (tm 5 (.t 16) .done)))))))))
 (.cut (.seq (.reg (tm 4 (.c (.bool true)) .done))
 .ret)))))
theorem fc122:fcomp Try.prog Try.f122 = some (c122.erase,[.mov (.t 4)],27):=by kernel_rfl
def laws_eqAtomSS_L1 (b_2:(List (List GAtom))):List (List GAtom) → Nat → Option (Fl Bool Unit)
  | [],i_25 =>
    some (.go ())
  | x_43 :: xs,i_25 =>
    (idx b_2 (i_25:Int)).bind fun x_46 =>
    (laws_eqAtomS x_43 x_46).bind fun r_48 =>
    if (!r_48) then
    some (.ret false)
    else
    laws_eqAtomSS_L1 b_2 xs (i_25 + 1)

def laws_eqAtomSS (a_1:(List (List GAtom))) (b_2:(List (List GAtom))):Option Bool :=
    if ((a_1.length:Int) != (b_2.length:Int)) then
    some false
    else
    (laws_eqAtomSS_L1 b_2 a_1 0).bind fun q => (match q with
    | .ret r => some r
    | .go _ =>
    some true)
theorem w_laws_eqAtomSS (a_1:(List (List GAtom))) (b_2:(List (List GAtom))) (r:Bool) (hf:laws_eqAtomSS a_1 b_2 = some r):CallOK Try.prog 122 .flat [(.lst 1 (a_1.map (encL 3 encGAtom))),(.lst 1 (b_2.map (encL 3 encGAtom)))] (.bool r):=by
 refine CallOK.of_awp mixed Try.func122 fc122 nle ?_;rw [argT_eq];unfold laws_eqAtomSS at hf;unfold c122;refine (show awp Try.prog false 0 _ (ofL [(0,(.lst 1 (a_1.map (encL 3 encGAtom)))),(1,(.lst 1 (b_2.map (encL 3 encGAtom))))]) [] _ from ?_);refine sr<|s_mov (.bool false) rfl<|dk<|awp_seq<|sr<|s_mov (.lst 1 (a_1.map (encL 3 encGAtom))) rfl<|s_dof (o_len (enc:=(encL 3 encGAtom)) rfl) fun hl3 => s_mov (.lst 1 (b_2.map (encL 3 encGAtom))) rfl<|s_dof (o_len (enc:=(encL 3 encGAtom)) rfl) fun hl4 => s_q (.bool ((a_1.length:Int) != (b_2.length:Int))) rfl rfl rfl<|dk<|?_
 rcases oi hf with ⟨c5,hf⟩ | ⟨c5,hf⟩
 ·refine w_condt rfl c5<|sr<|s_mov (.bool false) rfl<|dk<|w_ret<|?_;obtain rfl:=os hf;exact r_flat ⟨trivial,trivial⟩ rfl (.refl _)
 ·refine w_condf rfl (bf c5)<|w_skip<|k_seq<|awp_seq<|sr<|s_mov (.int .i64 0) rfl<|dk<|?_
  obtain ⟨p36,hb1,hf⟩:=ob hf
  refine awp_cutx (X:={q:Unit // p36 = .go q}) (fun q => ([],[])) ?_ ?_
  ·refine awp_loop (X:={q:Nat // laws_eqAtomSS_L1 b_2 (a_1.drop q) q = some p36}) (fun q => ([(0,(.lst 1 (a_1.map (encL 3 encGAtom)))),(1,(.lst 1 (b_2.map (encL 3 encGAtom)))),(5,(.int .i64 (q.1:Int)))],[])) (fun q => a_1.length - q.1) ⟨0,hb1⟩ ⟨[],[],_,_,rfl,rfl,⟨.refl _,⟨.refl _,⟨.refl _,trivial⟩⟩⟩,(.refl _)⟩ ?_
   rintro ⟨i_25,hc1⟩
   have hc1:laws_eqAtomSS_L1 b_2 (a_1.drop i_25) i_25 = some p36:=hc1
   refine (show awp Try.prog false 0 _ (ofL [(0,(.lst 1 (a_1.map (encL 3 encGAtom)))),(1,(.lst 1 (b_2.map (encL 3 encGAtom)))),(5,(.int .i64 (i_25:Int)))]) [] _ from ?_)
   rcases dropc a_1 i_25 with ⟨hie39,hd42⟩ | ⟨hlt37,x_43,hx38,hd42⟩
   ·rw [hd42,laws_eqAtomSS_L1.eq_1] at hc1
    have hq41:=dlf hie39
    refine awp_seq<|sr<|s_mov (.int .i64 (i_25:Int)) rfl<|s_mov (.lst 1 (a_1.map (encL 3 encGAtom))) rfl<|s_dof (o_len (enc:=(encL 3 encGAtom)) rfl) fun hl44 => s_q (.bool (decide ((i_25:Int) < (a_1.length:Int)))) rfl rfl rfl<|dk<|w_condf rfl hq41<|w_exit<|k_seqx<|k_loopx<|k_blkx<|?_;obtain rfl:=os hc1;exact k_cutn ⟨_,rfl⟩ ⟨[],[],_,_,rfl,rfl,trivial,(.refl _)⟩
   ·rw [hd42,laws_eqAtomSS_L1.eq_2] at hc1
    have hq41:=dlt hlt37
    refine awp_seq<|sr<|s_mov (.int .i64 (i_25:Int)) rfl<|s_mov (.lst 1 (a_1.map (encL 3 encGAtom))) rfl<|s_dof (o_len (enc:=(encL 3 encGAtom)) rfl) fun hl45 => s_q (.bool (decide ((i_25:Int) < (a_1.length:Int)))) rfl rfl rfl<|dk<|w_condt rfl hq41<|w_skip<|k_seq<|awp_seq<|w_blk<|sr<|?_
    obtain ⟨x_46,ex47,hc1⟩:=ob hc1
    obtain ⟨r_48,er49,hc1⟩:=ob hc1
    refine s_mov (.lst 1 (a_1.map (encL 3 encGAtom))) rfl<|s_mov (.int .i64 (i_25:Int)) rfl<|s_do (o_iaddrn (enc:=(encL 3 encGAtom)) rfl rfl hx38)<|s_q (.lst 3 (x_43.map encGAtom)) rfl ⟨rfl,rfl⟩ rfl<|s_mov (.lst 1 (b_2.map (encL 3 encGAtom))) rfl<|s_mov (.int .i64 (i_25:Int)) rfl<|s_do (o_iaddr (enc:=(encL 3 encGAtom)) rfl rfl (idx0 ex47) (idx1 ex47))<|s_q (.lst 3 (x_46.map encGAtom)) rfl ⟨rfl,rfl⟩ rfl<|s_dol (o_call (w_laws_eqAtomS _ _ _ er49) rfl (.refl _) rfl) a_same trivial<|s_q (.bool (!r_48)) rfl trivial rfl<|dk<|?_
    rcases oi hc1 with ⟨c50,hc1⟩ | ⟨c50,hc1⟩
    ·refine w_condt rfl c50<|sr<|s_mov (.bool false) rfl<|dk<|w_ret<|?_;obtain rfl:=os hc1;obtain rfl:=os hf;exact r_flat ⟨trivial,trivial⟩ rfl (.refl _)
    ·refine w_condf rfl (bf c50)<|w_skip<|k_blk<|k_seq<|w_reg<|s_mov (.int .i64 (i_25:Int)) rfl<|s_q (.int .i64 (w64 ((i_25:Int) + 1))) rfl rfl rfl<|s_mov (.int .i64 (w64 ((i_25:Int) + 1))) rfl<|w_done<|?_;exact k_loopn ⟨(i_25 + 1),hc1⟩ (mul hlt37) ⟨[],[],_,_,rfl,rfl,⟨.refl _,⟨.refl _,⟨.of_eq (congrArg (AV.int _) (w64_incr hlt37 hl45)),trivial⟩⟩⟩,(.refl _)⟩
  ·rintro ⟨_,rfl⟩
   refine sr<|s_mov (.bool true) rfl<|dk<|w_ret<|?_;obtain rfl:=os hf;exact r_flat ⟨trivial,trivial⟩ rfl (.refl _)

/- laws.eqRow -/
def c43:ACode :=
 (.seq (.reg (tq 2 (.box 2 (.t 0)) (tq 3 (.box 2 (.t 1)) (tm 4 (.c (.bool false)) .done))))
 (.seq (.seq (.reg (tq 5 (.faddr 0 (.t 2)) (tq 6 (.load 1 false (.t 5)) (tq 7 (.faddr 0 (.t 3)) (tq 8 (.load 1 false (.t 7)) (tq 9 (.bin .neq (.t 6) (.t 8)) .done))))))
 (.cond (.t 9) (.seq (.reg (tm 4 (.c (.bool false)) .done))
 .ret)
 .skip))
 (.seq (.seq (.reg (tq 10 (.faddr 1 (.t 2)) (tq 11 (.load 1 false (.t 10)) (tq 12 (.faddr 1 (.t 3)) (tq 13 (.load 1 false (.t 12)) (tq 14 (.call 122 [(.t 11),(.t 13)]) (tq 15 (.not (.t 14)) .done)))))))
 (.cond (.t 15) (.seq (.reg (tm 4 (.c (.bool false)) .done))
 .ret)
 .skip))
 (.seq (.reg (tm 4 (.c (.bool true)) .done))
 .ret))))
theorem fc43:fcomp Try.prog Try.f43 = some (c43.erase,[.mov (.t 4)],16):=by kernel_rfl
def laws_eqRow (a_1:GRow) (b_2:GRow):Option Bool :=
    if (a_1.Id != b_2.Id) then
    some false
    else
    (laws_eqAtomSS a_1.Cells b_2.Cells).bind fun r_4 =>
    if (!r_4) then
    some false
    else
    some true
theorem w_laws_eqRow (a_1:GRow) (b_2:GRow) (r:Bool) (hf:laws_eqRow a_1 b_2 = some r):CallOK Try.prog 43 .flat [(encGRow a_1),(encGRow b_2)] (.bool r):=by
 refine CallOK.of_awp mixed Try.func43 fc43 nle ?_;rw [argT_eq];unfold laws_eqRow at hf;unfold c43;refine (show awp Try.prog false 0 _ (ofL [(0,(encGRow a_1)),(1,(encGRow b_2))]) [] _ from ?_);refine sr<|s_do (o_box (j:=0) (c:=(.agg [(.int .i64 a_1.Id),(.lst 1 (a_1.Cells.map (encL 3 encGAtom)))])) rfl trivial rfl rfl)<|s_do (o_box (j:=1) (c:=(.agg [(.int .i64 b_2.Id),(.lst 1 (b_2.Cells.map (encL 3 encGAtom)))])) rfl trivial rfl rfl)<|s_mov (.bool false) rfl<|dk<|awp_seq<|sr<|s_q (.ptr 0 0 0) rfl trivial rfl<|s_q (.int .i64 a_1.Id) rfl nle rfl<|s_q (.ptr 1 0 0) rfl trivial rfl<|s_q (.int .i64 b_2.Id) rfl nle rfl<|s_q (.bool (a_1.Id != b_2.Id)) rfl rfl rfl<|?_
 refine dk<|?_
 rcases oi hf with ⟨c3,hf⟩ | ⟨c3,hf⟩
 ·refine w_condt rfl c3<|sr<|s_mov (.bool false) rfl<|dk<|w_ret<|?_;obtain rfl:=os hf;exact r_flat ⟨trivial,trivial⟩ rfl (.refl _)
 ·refine w_condf rfl (bf c3)<|w_skip<|k_seq<|awp_seq<|sr<|?_
  obtain ⟨r_4,er5,hf⟩:=ob hf
  refine s_q (.ptr 0 0 1) rfl trivial rfl<|s_q (.lst 1 (a_1.Cells.map (encL 3 encGAtom))) rfl nle rfl<|s_q (.ptr 1 0 1) rfl trivial rfl<|s_q (.lst 1 (b_2.Cells.map (encL 3 encGAtom))) rfl nle rfl<|s_do (o_call (w_laws_eqAtomSS _ _ _ er5) rfl (.refl _) rfl)<|s_q (.bool (!r_4)) rfl trivial rfl<|dk<|?_
  rcases oi hf with ⟨c6,hf⟩ | ⟨c6,hf⟩
  ·refine w_condt rfl c6<|sr<|s_mov (.bool false) rfl<|dk<|w_ret<|?_;obtain rfl:=os hf;exact r_flat ⟨trivial,trivial⟩ rfl (.refl _)
  ·refine w_condf rfl (bf c6)<|w_skip<|k_seq<|sr<|s_mov (.bool true) rfl<|dk<|w_ret<|?_;obtain rfl:=os hf;exact r_flat ⟨trivial,trivial⟩ rfl (.refl _)

/- laws.eqColumn -/
def c203:ACode :=
 (.seq (.reg (tq 2 (.box 8 (.t 0)) (tq 3 (.box 8 (.t 1)) (tm 4 (.c (.bool false)) .done))))
 (.seq (.seq (.reg (tq 5 (.faddr 0 (.t 2)) (tq 6 (.load 1 false (.t 5)) (tq 7 (.faddr 0 (.t 3)) (tq 8 (.load 1 false (.t 7)) (tq 9 (.bin .neq (.t 6) (.t 8)) .done))))))
 (.cond (.t 9) (.seq (.reg (tm 4 (.c (.bool false)) .done))
 .ret)
 .skip))
 (.seq (.seq (.reg (tq 10 (.faddr 1 (.t 2)) (tq 11 (.load 1 false (.t 10)) (tq 12 (.faddr 1 (.t 3)) (tq 13 (.load 1 false (.t 12)) (tq 14 (.bin .neq (.t 11) (.t 13)) .done))))))
 (.cond (.t 14) (.seq (.reg (tm 4 (.c (.bool false)) .done))
 .ret)
 .skip))
 (.seq (.seq (.reg (tq 15 (.faddr 2 (.t 2)) (tq 16 (.load 1 false (.t 15)) (tq 17 (.faddr 2 (.t 3)) (tq 18 (.load 1 false (.t 17)) (tq 19 (.bin .neq (.t 16) (.t 18)) .done))))))
 (.cond (.t 19) (.seq (.reg (tm 4 (.c (.bool false)) .done))
 .ret)
 .skip))
 (.seq (.seq (.reg (tq 20 (.faddr 3 (.t 2)) (tq 21 (.load 1 false (.t 20)) (tq 22 (.faddr 3 (.t 3)) (tq 23 (.load 1 false (.t 22)) (tq 24 (.bin .neq (.t 21) (.t 23)) .done))))))
 (.cond (.t 24) (.seq (.reg (tm 4 (.c (.bool false)) .done))
 .ret)
 .skip))
 (.seq (.seq (.reg (tq 25 (.faddr 4 (.t 2)) (tq 26 (.load 1 false (.t 25)) (tq 27 (.faddr 4 (.t 3)) (tq 28 (.load 1 false (.t 27)) (tq 29 (.bin .neq (.t 26) (.t 28)) .done))))))
 (.cond (.t 29) (.seq (.reg (tm 4 (.c (.bool false)) .done))
 .ret)
 .skip))
 (.seq (.seq (.reg (tq 30 (.faddr 5 (.t 2)) (tq 31 (.load 1 false (.t 30)) (tq 32 (.faddr 5 (.t 3)) (tq 33 (.load 1 false (.t 32)) (tq 34 (.bin .neq (.t 31) (.t 33)) .done))))))
 (.cond (.t 34) (.seq (.reg (tm 4 (.c (.bool false)) .done))
 .ret)
 .skip))
 (.seq (.seq (.reg (tq 35 (.faddr 6 (.t 2)) (tq 36 (.load 1 false (.t 35)) (tq 37 (.faddr 6 (.t 3)) (tq 38 (.load 1 false (.t 37)) (tq 39 (.bin .neq (.t 36) (.t 38)) .done))))))
 (.cond (.t 39) (.seq (.reg (tm 4 (.c (.bool false)) .done))
 .ret)
 .skip))
 (.seq (.seq (.reg (tq 40 (.faddr 7 (.t 2)) (tq 41 (.load 1 false (.t 40)) (tq 42 (.faddr 7 (.t 3)) (tq 43 (.load 1 false (.t 42)) (tq 44 (.eqB true (.t 41) (.t 43)) .done))))))
 (.cond (.t 44) (.seq (.reg (tm 4 (.c (.bool false)) .done))
 .ret)
 .skip))
 (.seq (.reg (tm 4 (.c (.bool true)) .done))
 .ret))))))))))
theorem fc203:fcomp Try.prog Try.f203 = some (c203.erase,[.mov (.t 4)],45):=by kernel_rfl
def laws_eqColumn (a_1:GColumn) (b_2:GColumn):Option Bool :=
    if (!(a_1.Name == b_2.Name)) then
    some false
    else
    if (a_1.Kind != b_2.Kind) then
    some false
    else
    if (a_1.Min != b_2.Min) then
    some false
    else
    if (a_1.Max != b_2.Max) then
    some false
    else
    if (a_1.Low != b_2.Low) then
    some false
    else
    if (a_1.High != b_2.High) then
    some false
    else
    if (!(a_1.Ref == b_2.Ref)) then
    some false
    else
    if (!(a_1.Strong == b_2.Strong)) then
    some false
    else
    some true
theorem w_laws_eqColumn (a_1:GColumn) (b_2:GColumn) (r:Bool) (hf:laws_eqColumn a_1 b_2 = some r):CallOK Try.prog 203 .flat [(encGColumn a_1),(encGColumn b_2)] (.bool r):=by
 refine CallOK.of_awp mixed Try.func203 fc203 nle ?_;rw [argT_eq];unfold laws_eqColumn at hf;unfold c203;refine (show awp Try.prog false 0 _ (ofL [(0,(encGColumn a_1)),(1,(encGColumn b_2))]) [] _ from ?_);refine sr<|s_do (o_box (j:=0) (c:=(.agg [(.str a_1.Name),(.int .i64 a_1.Kind),(.int .i64 a_1.Min),(.int .i64 a_1.Max),(.int .i64 a_1.Low),(.int .i64 a_1.High),(.str a_1.Ref),(.bool a_1.Strong)])) rfl trivial rfl rfl)<|s_do (o_box (j:=1) (c:=(.agg [(.str b_2.Name),(.int .i64 b_2.Kind),(.int .i64 b_2.Min),(.int .i64 b_2.Max),(.int .i64 b_2.Low),(.int .i64 b_2.High),(.str b_2.Ref),(.bool b_2.Strong)])) rfl trivial rfl rfl)<|s_mov (.bool false) rfl<|dk<|awp_seq<|?_
 refine sr<|s_q (.ptr 0 0 0) rfl trivial rfl<|s_q (.str a_1.Name) rfl nle rfl<|s_q (.ptr 1 0 0) rfl trivial rfl<|s_q (.str b_2.Name) rfl nle rfl<|s_q (.bool (!(a_1.Name == b_2.Name))) rfl trivial rfl<|dk<|?_
 rcases oi hf with ⟨c3,hf⟩ | ⟨c3,hf⟩
 ·refine w_condt rfl c3<|sr<|s_mov (.bool false) rfl<|dk<|w_ret<|?_;obtain rfl:=os hf;exact r_flat ⟨trivial,trivial⟩ rfl (.refl _)
 ·refine w_condf rfl (bf c3)<|w_skip<|k_seq<|awp_seq<|sr<|s_q (.ptr 0 0 1) rfl trivial rfl<|s_q (.int .i64 a_1.Kind) rfl nle rfl<|s_q (.ptr 1 0 1) rfl trivial rfl<|s_q (.int .i64 b_2.Kind) rfl nle rfl<|s_q (.bool (a_1.Kind != b_2.Kind)) rfl rfl rfl<|dk<|?_
  rcases oi hf with ⟨c4,hf⟩ | ⟨c4,hf⟩
  ·refine w_condt rfl c4<|sr<|s_mov (.bool false) rfl<|dk<|w_ret<|?_;obtain rfl:=os hf;exact r_flat ⟨trivial,trivial⟩ rfl (.refl _)
  ·refine w_condf rfl (bf c4)<|w_skip<|k_seq<|awp_seq<|sr<|s_q (.ptr 0 0 2) rfl trivial rfl<|s_q (.int .i64 a_1.Min) rfl nle rfl<|s_q (.ptr 1 0 2) rfl trivial rfl<|s_q (.int .i64 b_2.Min) rfl nle rfl<|s_q (.bool (a_1.Min != b_2.Min)) rfl rfl rfl<|dk<|?_
   rcases oi hf with ⟨c5,hf⟩ | ⟨c5,hf⟩
   ·refine w_condt rfl c5<|sr<|s_mov (.bool false) rfl<|dk<|w_ret<|?_;obtain rfl:=os hf;exact r_flat ⟨trivial,trivial⟩ rfl (.refl _)
   ·refine w_condf rfl (bf c5)<|w_skip<|k_seq<|awp_seq<|sr<|s_q (.ptr 0 0 3) rfl trivial rfl<|s_q (.int .i64 a_1.Max) rfl nle rfl<|s_q (.ptr 1 0 3) rfl trivial rfl<|s_q (.int .i64 b_2.Max) rfl nle rfl<|s_q (.bool (a_1.Max != b_2.Max)) rfl rfl rfl<|dk<|?_
    rcases oi hf with ⟨c6,hf⟩ | ⟨c6,hf⟩
    ·refine w_condt rfl c6<|sr<|s_mov (.bool false) rfl<|dk<|w_ret<|?_;obtain rfl:=os hf;exact r_flat ⟨trivial,trivial⟩ rfl (.refl _)
    ·refine w_condf rfl (bf c6)<|w_skip<|k_seq<|awp_seq<|sr<|s_q (.ptr 0 0 4) rfl trivial rfl<|s_q (.int .i64 a_1.Low) rfl nle rfl<|s_q (.ptr 1 0 4) rfl trivial rfl<|s_q (.int .i64 b_2.Low) rfl nle rfl<|s_q (.bool (a_1.Low != b_2.Low)) rfl rfl rfl<|dk<|?_
     rcases oi hf with ⟨c7,hf⟩ | ⟨c7,hf⟩
     ·refine w_condt rfl c7<|sr<|s_mov (.bool false) rfl<|dk<|w_ret<|?_;obtain rfl:=os hf;exact r_flat ⟨trivial,trivial⟩ rfl (.refl _)
     ·refine w_condf rfl (bf c7)<|w_skip<|k_seq<|awp_seq<|sr<|s_q (.ptr 0 0 5) rfl trivial rfl<|s_q (.int .i64 a_1.High) rfl nle rfl<|s_q (.ptr 1 0 5) rfl trivial rfl<|s_q (.int .i64 b_2.High) rfl nle rfl<|s_q (.bool (a_1.High != b_2.High)) rfl rfl rfl<|dk<|?_
      rcases oi hf with ⟨c8,hf⟩ | ⟨c8,hf⟩
      ·refine w_condt rfl c8<|sr<|s_mov (.bool false) rfl<|dk<|w_ret<|?_;obtain rfl:=os hf;exact r_flat ⟨trivial,trivial⟩ rfl (.refl _)
      ·refine w_condf rfl (bf c8)<|w_skip<|k_seq<|awp_seq<|sr<|s_q (.ptr 0 0 6) rfl trivial rfl<|s_q (.str a_1.Ref) rfl nle rfl<|s_q (.ptr 1 0 6) rfl trivial rfl<|s_q (.str b_2.Ref) rfl nle rfl<|s_q (.bool (!(a_1.Ref == b_2.Ref))) rfl trivial rfl<|dk<|?_
       rcases oi hf with ⟨c9,hf⟩ | ⟨c9,hf⟩
       ·refine w_condt rfl c9<|sr<|s_mov (.bool false) rfl<|dk<|w_ret<|?_;obtain rfl:=os hf;exact r_flat ⟨trivial,trivial⟩ rfl (.refl _)
       ·refine w_condf rfl (bf c9)<|w_skip<|k_seq<|awp_seq<|sr<|s_q (.ptr 0 0 7) rfl trivial rfl<|s_q (.bool a_1.Strong) rfl nle rfl<|s_q (.ptr 1 0 7) rfl trivial rfl<|s_q (.bool b_2.Strong) rfl nle rfl<|s_q (.bool (!(a_1.Strong == b_2.Strong))) rfl trivial rfl<|dk<|?_
        rcases oi hf with ⟨c10,hf⟩ | ⟨c10,hf⟩
        ·refine w_condt rfl c10<|sr<|s_mov (.bool false) rfl<|dk<|w_ret<|?_;obtain rfl:=os hf;exact r_flat ⟨trivial,trivial⟩ rfl (.refl _)
        ·refine w_condf rfl (bf c10)<|w_skip<|k_seq<|sr<|s_mov (.bool true) rfl<|dk<|w_ret<|?_;obtain rfl:=os hf;exact r_flat ⟨trivial,trivial⟩ rfl (.refl _)

/- laws.eqColumnS -/
def c123:ACode :=
 (.seq (.reg (tm 4 (.c (.bool false)) .done))
 (.seq (.seq (.reg (tm 6 (.t 0) (tq 7 (.len (.t 6)) (tm 8 (.t 1) (tq 9 (.len (.t 8)) (tq 10 (.bin .neq (.t 7) (.t 9)) .done))))))
 (.cond (.t 10) (.seq (.reg (tm 4 (.c (.bool false)) .done))
 .ret)
 .skip))
 (.seq (.seq (.reg (tm 5 (.c (.int .i64 0)) .done))
 (.block 0 (.loop (.seq (.seq (.reg (tm 11 (.t 5) (tm 12 (.t 0) (tq 13 (.len (.t 12)) (tq 14 (.bin .lss (.t 11) (.t 13)) .done)))))
 (.cond (.t 14) .skip
 (.exit 0)))
 (.seq (.block 1 (.seq (.reg (tm 17 (.t 0) (tm 18 (.t 5) (tq 19 (.iaddr 8 (.t 17) (.t 18)) (tq 20 (.load 8 true (.t 19)) (tm 21 (.t 1) (tm 22 (.t 5) (tq 23 (.iaddr 8 (.t 21) (.t 22)) (tq 24 (.load 8 true (.t 23)) (.l ⟨(some 25),none,.call 203 [(.t 20),(.t 24)]⟩ []
 (tq 26 (.not (.t 25)) .done) .non))))))))))
 (.cond (.t 26) (.seq (.reg (tm 4 (.c (.bool false)) .done))
 .ret)
 .skip)))
 (.reg (tm 15 (.t 5) (tq 16 (.bin .add (.t 15) (.c (.int .i64 1))) (tm 5 (.t 16) .done)))))))))
 (.cut (.seq (.reg (tm 4 (.c (.bool true)) .done))
 .ret)))))
theorem fc123:fcomp Try.prog Try.f123 = some (c123.erase,[.mov (.t 4)],27):=by kernel_rfl
def laws_eqColumnS_L1 (b_2:(List GColumn)):List GColumn → Nat → Option (Fl Bool Unit)
  | [],i_25 =>
    some (.go ())
  | x_43 :: xs,i_25 =>
    (idx b_2 (i_25:Int)).bind fun x_46 =>
    (laws_eqColumn x_43 x_46).bind fun r_48 =>
    if (!r_48) then
    some (.ret false)
    else
    laws_eqColumnS_L1 b_2 xs (i_25 + 1)

def laws_eqColumnS (a_1:(List GColumn)) (b_2:(List GColumn)):Option Bool :=
    if ((a_1.length:Int) != (b_2.length:Int)) then
    some false
    else
    (laws_eqColumnS_L1 b_2 a_1 0).bind fun q => (match q with
    | .ret r => some r
    | .go _ =>
    some true)
theorem w_laws_eqColumnS (a_1:(List GColumn)) (b_2:(List GColumn)) (r:Bool) (hf:laws_eqColumnS a_1 b_2 = some r):CallOK Try.prog 123 .flat [(.lst 8 (a_1.map encGColumn)),(.lst 8 (b_2.map encGColumn))] (.bool r):=by
 refine CallOK.of_awp mixed Try.func123 fc123 nle ?_;rw [argT_eq];unfold laws_eqColumnS at hf;unfold c123;refine (show awp Try.prog false 0 _ (ofL [(0,(.lst 8 (a_1.map encGColumn))),(1,(.lst 8 (b_2.map encGColumn)))]) [] _ from ?_);refine sr<|s_mov (.bool false) rfl<|dk<|awp_seq<|sr<|s_mov (.lst 8 (a_1.map encGColumn)) rfl<|s_dof (o_len (enc:=encGColumn) rfl) fun hl3 => s_mov (.lst 8 (b_2.map encGColumn)) rfl<|s_dof (o_len (enc:=encGColumn) rfl) fun hl4 => s_q (.bool ((a_1.length:Int) != (b_2.length:Int))) rfl rfl rfl<|dk<|?_
 rcases oi hf with ⟨c5,hf⟩ | ⟨c5,hf⟩
 ·refine w_condt rfl c5<|sr<|s_mov (.bool false) rfl<|dk<|w_ret<|?_;obtain rfl:=os hf;exact r_flat ⟨trivial,trivial⟩ rfl (.refl _)
 ·refine w_condf rfl (bf c5)<|w_skip<|k_seq<|awp_seq<|sr<|s_mov (.int .i64 0) rfl<|dk<|?_
  obtain ⟨p36,hb1,hf⟩:=ob hf
  refine awp_cutx (X:={q:Unit // p36 = .go q}) (fun q => ([],[])) ?_ ?_
  ·refine awp_loop (X:={q:Nat // laws_eqColumnS_L1 b_2 (a_1.drop q) q = some p36}) (fun q => ([(0,(.lst 8 (a_1.map encGColumn))),(1,(.lst 8 (b_2.map encGColumn))),(5,(.int .i64 (q.1:Int)))],[])) (fun q => a_1.length - q.1) ⟨0,hb1⟩ ⟨[],[],_,_,rfl,rfl,⟨.refl _,⟨.refl _,⟨.refl _,trivial⟩⟩⟩,(.refl _)⟩ ?_
   rintro ⟨i_25,hc1⟩
   have hc1:laws_eqColumnS_L1 b_2 (a_1.drop i_25) i_25 = some p36:=hc1
   refine (show awp Try.prog false 0 _ (ofL [(0,(.lst 8 (a_1.map encGColumn))),(1,(.lst 8 (b_2.map encGColumn))),(5,(.int .i64 (i_25:Int)))]) [] _ from ?_)
   rcases dropc a_1 i_25 with ⟨hie39,hd42⟩ | ⟨hlt37,x_43,hx38,hd42⟩
   ·rw [hd42,laws_eqColumnS_L1.eq_1] at hc1
    have hq41:=dlf hie39
    refine awp_seq<|sr<|s_mov (.int .i64 (i_25:Int)) rfl<|s_mov (.lst 8 (a_1.map encGColumn)) rfl<|s_dof (o_len (enc:=encGColumn) rfl) fun hl44 => s_q (.bool (decide ((i_25:Int) < (a_1.length:Int)))) rfl rfl rfl<|dk<|w_condf rfl hq41<|w_exit<|k_seqx<|k_loopx<|k_blkx<|?_;obtain rfl:=os hc1;exact k_cutn ⟨_,rfl⟩ ⟨[],[],_,_,rfl,rfl,trivial,(.refl _)⟩
   ·rw [hd42,laws_eqColumnS_L1.eq_2] at hc1
    have hq41:=dlt hlt37
    refine awp_seq<|sr<|s_mov (.int .i64 (i_25:Int)) rfl<|s_mov (.lst 8 (a_1.map encGColumn)) rfl<|s_dof (o_len (enc:=encGColumn) rfl) fun hl45 => s_q (.bool (decide ((i_25:Int) < (a_1.length:Int)))) rfl rfl rfl<|dk<|w_condt rfl hq41<|w_skip<|k_seq<|awp_seq<|w_blk<|sr<|?_
    obtain ⟨x_46,ex47,hc1⟩:=ob hc1
    obtain ⟨r_48,er49,hc1⟩:=ob hc1
    refine s_mov (.lst 8 (a_1.map encGColumn)) rfl<|s_mov (.int .i64 (i_25:Int)) rfl<|s_do (o_iaddrn (enc:=encGColumn) rfl rfl hx38)<|s_q (encGColumn x_43) rfl nle rfl<|s_mov (.lst 8 (b_2.map encGColumn)) rfl<|s_mov (.int .i64 (i_25:Int)) rfl<|s_do (o_iaddr (enc:=encGColumn) rfl rfl (idx0 ex47) (idx1 ex47))<|s_q (encGColumn x_46) rfl nle rfl<|s_dol (o_call (w_laws_eqColumn _ _ _ er49) rfl (.refl _) rfl) a_same trivial<|s_q (.bool (!r_48)) rfl trivial rfl<|dk<|?_
    rcases oi hc1 with ⟨c50,hc1⟩ | ⟨c50,hc1⟩
    ·refine w_condt rfl c50<|sr<|s_mov (.bool false) rfl<|dk<|w_ret<|?_;obtain rfl:=os hc1;obtain rfl:=os hf;exact r_flat ⟨trivial,trivial⟩ rfl (.refl _)
    ·refine w_condf rfl (bf c50)<|w_skip<|k_blk<|k_seq<|w_reg<|s_mov (.int .i64 (i_25:Int)) rfl<|s_q (.int .i64 (w64 ((i_25:Int) + 1))) rfl rfl rfl<|s_mov (.int .i64 (w64 ((i_25:Int) + 1))) rfl<|w_done<|?_;exact k_loopn ⟨(i_25 + 1),hc1⟩ (mul hlt37) ⟨[],[],_,_,rfl,rfl,⟨.refl _,⟨.refl _,⟨.of_eq (congrArg (AV.int _) (w64_incr hlt37 hl45)),trivial⟩⟩⟩,(.refl _)⟩
  ·rintro ⟨_,rfl⟩
   refine sr<|s_mov (.bool true) rfl<|dk<|w_ret<|?_;obtain rfl:=os hf;exact r_flat ⟨trivial,trivial⟩ rfl (.refl _)

/- laws.eqIntS -/
def c124:ACode :=
 (.seq (.reg (tm 4 (.c (.bool false)) .done))
 (.seq (.seq (.reg (tm 6 (.t 0) (tq 7 (.len (.t 6)) (tm 8 (.t 1) (tq 9 (.len (.t 8)) (tq 10 (.bin .neq (.t 7) (.t 9)) .done))))))
 (.cond (.t 10) (.seq (.reg (tm 4 (.c (.bool false)) .done))
 .ret)
 .skip))
 (.seq (.seq (.reg (tm 5 (.c (.int .i64 0)) .done))
 (.block 0 (.loop (.seq (.seq (.reg (tm 11 (.t 5) (tm 12 (.t 0) (tq 13 (.len (.t 12)) (tq 14 (.bin .lss (.t 11) (.t 13)) .done)))))
 (.cond (.t 14) .skip
 (.exit 0)))
 (.seq (.block 1 (.seq (.reg (tm 17 (.t 0) (tm 18 (.t 5) (tq 19 (.iaddr 1 (.t 17) (.t 18)) (tq 20 (.load 1 false (.t 19)) (tm 21 (.t 1) (tm 22 (.t 5) (tq 23 (.iaddr 1 (.t 21) (.t 22)) (tq 24 (.load 1 false (.t 23)) (tq 25 (.bin .neq (.t 20) (.t 24)) .done))))))))))
 (.cond (.t 25) (.seq (.reg (tm 4 (.c (.bool false)) .done))
 .ret)
 .skip)))
 (.reg (tm 15 (.t 5) (tq 16 (.bin .add (.t 15) (.c (.int .i64 1))) (tm 5 (.t 16) .done)))))))))
 (.cut (.seq (.reg (tm 4 (.c (.bool true)) .done))
 .ret)))))
theorem fc124:fcomp Try.prog Try.f124 = some (c124.erase,[.mov (.t 4)],26):=by kernel_rfl
def laws_eqIntS_L1 (b_2:(List Int)):List Int → Nat → Option (Fl Bool Unit)
  | [],i_21 =>
    some (.go ())
  | x_37 :: xs,i_21 =>
    (idx b_2 (i_21:Int)).bind fun x_40 =>
    if (x_37 != x_40) then
    some (.ret false)
    else
    laws_eqIntS_L1 b_2 xs (i_21 + 1)

def laws_eqIntS (a_1:(List Int)) (b_2:(List Int)):Option Bool :=
    if ((a_1.length:Int) != (b_2.length:Int)) then
    some false
    else
    (laws_eqIntS_L1 b_2 a_1 0).bind fun q => (match q with
    | .ret r => some r
    | .go _ =>
    some true)
theorem w_laws_eqIntS (a_1:(List Int)) (b_2:(List Int)) (r:Bool) (hf:laws_eqIntS a_1 b_2 = some r):CallOK Try.prog 124 .flat [(.lst 1 (a_1.map encI)),(.lst 1 (b_2.map encI))] (.bool r):=by
 refine CallOK.of_awp mixed Try.func124 fc124 nle ?_;rw [argT_eq];unfold laws_eqIntS at hf;unfold c124;refine (show awp Try.prog false 0 _ (ofL [(0,(.lst 1 (a_1.map encI))),(1,(.lst 1 (b_2.map encI)))]) [] _ from ?_);refine sr<|s_mov (.bool false) rfl<|dk<|awp_seq<|sr<|s_mov (.lst 1 (a_1.map encI)) rfl<|s_dof (o_len (enc:=encI) rfl) fun hl3 => s_mov (.lst 1 (b_2.map encI)) rfl<|s_dof (o_len (enc:=encI) rfl) fun hl4 => s_q (.bool ((a_1.length:Int) != (b_2.length:Int))) rfl rfl rfl<|dk<|?_
 rcases oi hf with ⟨c5,hf⟩ | ⟨c5,hf⟩
 ·refine w_condt rfl c5<|sr<|s_mov (.bool false) rfl<|dk<|w_ret<|?_;obtain rfl:=os hf;exact r_flat ⟨trivial,trivial⟩ rfl (.refl _)
 ·refine w_condf rfl (bf c5)<|w_skip<|k_seq<|awp_seq<|sr<|s_mov (.int .i64 0) rfl<|dk<|?_
  obtain ⟨p30,hb1,hf⟩:=ob hf
  refine awp_cutx (X:={q:Unit // p30 = .go q}) (fun q => ([],[])) ?_ ?_
  ·refine awp_loop (X:={q:Nat // laws_eqIntS_L1 b_2 (a_1.drop q) q = some p30}) (fun q => ([(0,(.lst 1 (a_1.map encI))),(1,(.lst 1 (b_2.map encI))),(5,(.int .i64 (q.1:Int)))],[])) (fun q => a_1.length - q.1) ⟨0,hb1⟩ ⟨[],[],_,_,rfl,rfl,⟨.refl _,⟨.refl _,⟨.refl _,trivial⟩⟩⟩,(.refl _)⟩ ?_
   rintro ⟨i_21,hc1⟩
   have hc1:laws_eqIntS_L1 b_2 (a_1.drop i_21) i_21 = some p30:=hc1
   refine (show awp Try.prog false 0 _ (ofL [(0,(.lst 1 (a_1.map encI))),(1,(.lst 1 (b_2.map encI))),(5,(.int .i64 (i_21:Int)))]) [] _ from ?_)
   rcases dropc a_1 i_21 with ⟨hie33,hd36⟩ | ⟨hlt31,x_37,hx32,hd36⟩
   ·rw [hd36,laws_eqIntS_L1.eq_1] at hc1
    have hq35:=dlf hie33
    refine awp_seq<|sr<|s_mov (.int .i64 (i_21:Int)) rfl<|s_mov (.lst 1 (a_1.map encI)) rfl<|s_dof (o_len (enc:=encI) rfl) fun hl38 => s_q (.bool (decide ((i_21:Int) < (a_1.length:Int)))) rfl rfl rfl<|dk<|w_condf rfl hq35<|w_exit<|k_seqx<|k_loopx<|k_blkx<|?_;obtain rfl:=os hc1;exact k_cutn ⟨_,rfl⟩ ⟨[],[],_,_,rfl,rfl,trivial,(.refl _)⟩
   ·rw [hd36,laws_eqIntS_L1.eq_2] at hc1
    have hq35:=dlt hlt31
    refine awp_seq<|sr<|s_mov (.int .i64 (i_21:Int)) rfl<|s_mov (.lst 1 (a_1.map encI)) rfl<|s_dof (o_len (enc:=encI) rfl) fun hl39 => s_q (.bool (decide ((i_21:Int) < (a_1.length:Int)))) rfl rfl rfl<|dk<|w_condt rfl hq35<|w_skip<|k_seq<|awp_seq<|w_blk<|sr<|?_
    obtain ⟨x_40,ex41,hc1⟩:=ob hc1
    refine s_mov (.lst 1 (a_1.map encI)) rfl<|s_mov (.int .i64 (i_21:Int)) rfl<|s_do (o_iaddrn (enc:=encI) rfl rfl hx32)<|s_q (.int .i64 x_37) rfl ⟨rfl,rfl⟩ rfl<|s_mov (.lst 1 (b_2.map encI)) rfl<|s_mov (.int .i64 (i_21:Int)) rfl<|s_do (o_iaddr (enc:=encI) rfl rfl (idx0 ex41) (idx1 ex41))<|s_q (.int .i64 x_40) rfl ⟨rfl,rfl⟩ rfl<|s_q (.bool (x_37 != x_40)) rfl rfl rfl<|dk<|?_
    rcases oi hc1 with ⟨c42,hc1⟩ | ⟨c42,hc1⟩
    ·refine w_condt rfl c42<|sr<|s_mov (.bool false) rfl<|dk<|w_ret<|?_;obtain rfl:=os hc1;obtain rfl:=os hf;exact r_flat ⟨trivial,trivial⟩ rfl (.refl _)
    ·refine w_condf rfl (bf c42)<|w_skip<|k_blk<|k_seq<|w_reg<|s_mov (.int .i64 (i_21:Int)) rfl<|s_q (.int .i64 (w64 ((i_21:Int) + 1))) rfl rfl rfl<|s_mov (.int .i64 (w64 ((i_21:Int) + 1))) rfl<|w_done<|?_;exact k_loopn ⟨(i_21 + 1),hc1⟩ (mul hlt31) ⟨[],[],_,_,rfl,rfl,⟨.refl _,⟨.refl _,⟨.of_eq (congrArg (AV.int _) (w64_incr hlt31 hl39)),trivial⟩⟩⟩,(.refl _)⟩
  ·rintro ⟨_,rfl⟩
   refine sr<|s_mov (.bool true) rfl<|dk<|w_ret<|?_;obtain rfl:=os hf;exact r_flat ⟨trivial,trivial⟩ rfl (.refl _)

/- laws.eqTable -/
def c44:ACode :=
 (.seq (.reg (tq 2 (.box 4 (.t 0)) (tq 3 (.box 4 (.t 1)) (tm 4 (.c (.bool false)) .done))))
 (.seq (.seq (.reg (tq 5 (.faddr 0 (.t 2)) (tq 6 (.load 1 false (.t 5)) (tq 7 (.faddr 0 (.t 3)) (tq 8 (.load 1 false (.t 7)) (tq 9 (.bin .neq (.t 6) (.t 8)) .done))))))
 (.cond (.t 9) (.seq (.reg (tm 4 (.c (.bool false)) .done))
 .ret)
 .skip))
 (.seq (.seq (.reg (tq 10 (.faddr 1 (.t 2)) (tq 11 (.load 1 false (.t 10)) (tq 12 (.faddr 1 (.t 3)) (tq 13 (.load 1 false (.t 12)) (tq 14 (.call 123 [(.t 11),(.t 13)]) (tq 15 (.not (.t 14)) .done)))))))
 (.cond (.t 15) (.seq (.reg (tm 4 (.c (.bool false)) .done))
 .ret)
 .skip))
 (.seq (.seq (.reg (tq 16 (.faddr 2 (.t 2)) (tq 17 (.load 1 false (.t 16)) (tq 18 (.faddr 2 (.t 3)) (tq 19 (.load 1 false (.t 18)) (tq 20 (.call 124 [(.t 17),(.t 19)]) (tq 21 (.not (.t 20)) .done)))))))
 (.cond (.t 21) (.seq (.reg (tm 4 (.c (.bool false)) .done))
 .ret)
 .skip))
 (.seq (.seq (.reg (tq 22 (.faddr 3 (.t 2)) (tq 23 (.load 1 false (.t 22)) (tq 24 (.faddr 3 (.t 3)) (tq 25 (.load 1 false (.t 24)) (tq 26 (.eqB true (.t 23) (.t 25)) .done))))))
 (.cond (.t 26) (.seq (.reg (tm 4 (.c (.bool false)) .done))
 .ret)
 .skip))
 (.seq (.reg (tm 4 (.c (.bool true)) .done))
 .ret))))))
theorem fc44:fcomp Try.prog Try.f44 = some (c44.erase,[.mov (.t 4)],27):=by kernel_rfl
def laws_eqTable (a_1:GTable) (b_2:GTable):Option Bool :=
    if (!(a_1.Name == b_2.Name)) then
    some false
    else
    (laws_eqColumnS a_1.Columns b_2.Columns).bind fun r_4 =>
    if (!r_4) then
    some false
    else
    (laws_eqIntS a_1.Unique b_2.Unique).bind fun r_7 =>
    if (!r_7) then
    some false
    else
    if (!(a_1.Root == b_2.Root)) then
    some false
    else
    some true
theorem w_laws_eqTable (a_1:GTable) (b_2:GTable) (r:Bool) (hf:laws_eqTable a_1 b_2 = some r):CallOK Try.prog 44 .flat [(encGTable a_1),(encGTable b_2)] (.bool r):=by
 refine CallOK.of_awp mixed Try.func44 fc44 nle ?_;rw [argT_eq];unfold laws_eqTable at hf;unfold c44;refine (show awp Try.prog false 0 _ (ofL [(0,(encGTable a_1)),(1,(encGTable b_2))]) [] _ from ?_);refine sr<|s_do (o_box (j:=0) (c:=(.agg [(.str a_1.Name),(.lst 8 (a_1.Columns.map encGColumn)),(.lst 1 (a_1.Unique.map encI)),(.bool a_1.Root)])) rfl trivial rfl rfl)<|s_do (o_box (j:=1) (c:=(.agg [(.str b_2.Name),(.lst 8 (b_2.Columns.map encGColumn)),(.lst 1 (b_2.Unique.map encI)),(.bool b_2.Root)])) rfl trivial rfl rfl)<|s_mov (.bool false) rfl<|dk<|awp_seq<|sr<|s_q (.ptr 0 0 0) rfl trivial rfl<|s_q (.str a_1.Name) rfl nle rfl<|s_q (.ptr 1 0 0) rfl trivial rfl<|?_
 refine s_q (.str b_2.Name) rfl nle rfl<|s_q (.bool (!(a_1.Name == b_2.Name))) rfl trivial rfl<|dk<|?_
 rcases oi hf with ⟨c3,hf⟩ | ⟨c3,hf⟩
 ·refine w_condt rfl c3<|sr<|s_mov (.bool false) rfl<|dk<|w_ret<|?_;obtain rfl:=os hf;exact r_flat ⟨trivial,trivial⟩ rfl (.refl _)
 ·refine w_condf rfl (bf c3)<|w_skip<|k_seq<|awp_seq<|sr<|?_
  obtain ⟨r_4,er5,hf⟩:=ob hf
  refine s_q (.ptr 0 0 1) rfl trivial rfl<|s_q (.lst 8 (a_1.Columns.map encGColumn)) rfl nle rfl<|s_q (.ptr 1 0 1) rfl trivial rfl<|s_q (.lst 8 (b_2.Columns.map encGColumn)) rfl nle rfl<|s_do (o_call (w_laws_eqColumnS _ _ _ er5) rfl (.refl _) rfl)<|s_q (.bool (!r_4)) rfl trivial rfl<|dk<|?_
  rcases oi hf with ⟨c6,hf⟩ | ⟨c6,hf⟩
  ·refine w_condt rfl c6<|sr<|s_mov (.bool false) rfl<|dk<|w_ret<|?_;obtain rfl:=os hf;exact r_flat ⟨trivial,trivial⟩ rfl (.refl _)
  ·refine w_condf rfl (bf c6)<|w_skip<|k_seq<|awp_seq<|sr<|?_
   obtain ⟨r_7,er8,hf⟩:=ob hf
   refine s_q (.ptr 0 0 2) rfl trivial rfl<|s_q (.lst 1 (a_1.Unique.map encI)) rfl nle rfl<|s_q (.ptr 1 0 2) rfl trivial rfl<|s_q (.lst 1 (b_2.Unique.map encI)) rfl nle rfl<|s_do (o_call (w_laws_eqIntS _ _ _ er8) rfl (.refl _) rfl)<|s_q (.bool (!r_7)) rfl trivial rfl<|dk<|?_
   rcases oi hf with ⟨c9,hf⟩ | ⟨c9,hf⟩
   ·refine w_condt rfl c9<|sr<|s_mov (.bool false) rfl<|dk<|w_ret<|?_;obtain rfl:=os hf;exact r_flat ⟨trivial,trivial⟩ rfl (.refl _)
   ·refine w_condf rfl (bf c9)<|w_skip<|k_seq<|awp_seq<|sr<|s_q (.ptr 0 0 3) rfl trivial rfl<|s_q (.bool a_1.Root) rfl nle rfl<|s_q (.ptr 1 0 3) rfl trivial rfl<|s_q (.bool b_2.Root) rfl nle rfl<|s_q (.bool (!(a_1.Root == b_2.Root))) rfl trivial rfl<|dk<|?_
    rcases oi hf with ⟨c10,hf⟩ | ⟨c10,hf⟩
    ·refine w_condt rfl c10<|sr<|s_mov (.bool false) rfl<|dk<|w_ret<|?_;obtain rfl:=os hf;exact r_flat ⟨trivial,trivial⟩ rfl (.refl _)
    ·refine w_condf rfl (bf c10)<|w_skip<|k_seq<|sr<|s_mov (.bool true) rfl<|dk<|w_ret<|?_;obtain rfl:=os hf;exact r_flat ⟨trivial,trivial⟩ rfl (.refl _)

/- laws.eqStringS -/
def c45:ACode :=
 (.seq (.reg (tm 4 (.c (.bool false)) .done))
 (.seq (.seq (.reg (tm 6 (.t 0) (tq 7 (.len (.t 6)) (tm 8 (.t 1) (tq 9 (.len (.t 8)) (tq 10 (.bin .neq (.t 7) (.t 9)) .done))))))
 (.cond (.t 10) (.seq (.reg (tm 4 (.c (.bool false)) .done))
 .ret)
 .skip))
 (.seq (.seq (.reg (tm 5 (.c (.int .i64 0)) .done))
 (.block 0 (.loop (.seq (.seq (.reg (tm 11 (.t 5) (tm 12 (.t 0) (tq 13 (.len (.t 12)) (tq 14 (.bin .lss (.t 11) (.t 13)) .done)))))
 (.cond (.t 14) .skip
 (.exit 0)))
 (.seq (.block 1 (.seq (.reg (tm 17 (.t 0) (tm 18 (.t 5) (tq 19 (.iaddr 1 (.t 17) (.t 18)) (tq 20 (.load 1 false (.t 19)) (tm 21 (.t 1) (tm 22 (.t 5) (tq 23 (.iaddr 1 (.t 21) (.t 22)) (tq 24 (.load 1 false (.t 23)) (tq 25 (.bin .neq (.t 20) (.t 24)) .done))))))))))
 (.cond (.t 25) (.seq (.reg (tm 4 (.c (.bool false)) .done))
 .ret)
 .skip)))
 (.reg (tm 15 (.t 5) (tq 16 (.bin .add (.t 15) (.c (.int .i64 1))) (tm 5 (.t 16) .done)))))))))
 (.cut (.seq (.reg (tm 4 (.c (.bool true)) .done))
 .ret)))))
theorem fc45:fcomp Try.prog Try.f45 = some (c45.erase,[.mov (.t 4)],26):=by kernel_rfl
def laws_eqStringS_L1 (b_2:(List Str)):List Str → Nat → Option (Fl Bool Unit)
  | [],i_21 =>
    some (.go ())
  | x_37 :: xs,i_21 =>
    (idx b_2 (i_21:Int)).bind fun x_40 =>
    if (!(x_37 == x_40)) then
    some (.ret false)
    else
    laws_eqStringS_L1 b_2 xs (i_21 + 1)

def laws_eqStringS (a_1:(List Str)) (b_2:(List Str)):Option Bool :=
    if ((a_1.length:Int) != (b_2.length:Int)) then
    some false
    else
    (laws_eqStringS_L1 b_2 a_1 0).bind fun q => (match q with
    | .ret r => some r
    | .go _ =>
    some true)
theorem w_laws_eqStringS (a_1:(List Str)) (b_2:(List Str)) (r:Bool) (hf:laws_eqStringS a_1 b_2 = some r):CallOK Try.prog 45 .flat [(.lst 1 (a_1.map AV.str)),(.lst 1 (b_2.map AV.str))] (.bool r):=by
 refine CallOK.of_awp mixed Try.func45 fc45 nle ?_;rw [argT_eq];unfold laws_eqStringS at hf;unfold c45;refine (show awp Try.prog false 0 _ (ofL [(0,(.lst 1 (a_1.map AV.str))),(1,(.lst 1 (b_2.map AV.str)))]) [] _ from ?_);refine sr<|s_mov (.bool false) rfl<|dk<|awp_seq<|sr<|s_mov (.lst 1 (a_1.map AV.str)) rfl<|s_dof (o_len (enc:=AV.str) rfl) fun hl3 => s_mov (.lst 1 (b_2.map AV.str)) rfl<|s_dof (o_len (enc:=AV.str) rfl) fun hl4 => s_q (.bool ((a_1.length:Int) != (b_2.length:Int))) rfl rfl rfl<|dk<|?_
 rcases oi hf with ⟨c5,hf⟩ | ⟨c5,hf⟩
 ·refine w_condt rfl c5<|sr<|s_mov (.bool false) rfl<|dk<|w_ret<|?_;obtain rfl:=os hf;exact r_flat ⟨trivial,trivial⟩ rfl (.refl _)
 ·refine w_condf rfl (bf c5)<|w_skip<|k_seq<|awp_seq<|sr<|s_mov (.int .i64 0) rfl<|dk<|?_
  obtain ⟨p30,hb1,hf⟩:=ob hf
  refine awp_cutx (X:={q:Unit // p30 = .go q}) (fun q => ([],[])) ?_ ?_
  ·refine awp_loop (X:={q:Nat // laws_eqStringS_L1 b_2 (a_1.drop q) q = some p30}) (fun q => ([(0,(.lst 1 (a_1.map AV.str))),(1,(.lst 1 (b_2.map AV.str))),(5,(.int .i64 (q.1:Int)))],[])) (fun q => a_1.length - q.1) ⟨0,hb1⟩ ⟨[],[],_,_,rfl,rfl,⟨.refl _,⟨.refl _,⟨.refl _,trivial⟩⟩⟩,(.refl _)⟩ ?_
   rintro ⟨i_21,hc1⟩
   have hc1:laws_eqStringS_L1 b_2 (a_1.drop i_21) i_21 = some p30:=hc1
   refine (show awp Try.prog false 0 _ (ofL [(0,(.lst 1 (a_1.map AV.str))),(1,(.lst 1 (b_2.map AV.str))),(5,(.int .i64 (i_21:Int)))]) [] _ from ?_)
   rcases dropc a_1 i_21 with ⟨hie33,hd36⟩ | ⟨hlt31,x_37,hx32,hd36⟩
   ·rw [hd36,laws_eqStringS_L1.eq_1] at hc1
    have hq35:=dlf hie33
    refine awp_seq<|sr<|s_mov (.int .i64 (i_21:Int)) rfl<|s_mov (.lst 1 (a_1.map AV.str)) rfl<|s_dof (o_len (enc:=AV.str) rfl) fun hl38 => s_q (.bool (decide ((i_21:Int) < (a_1.length:Int)))) rfl rfl rfl<|dk<|w_condf rfl hq35<|w_exit<|k_seqx<|k_loopx<|k_blkx<|?_;obtain rfl:=os hc1;exact k_cutn ⟨_,rfl⟩ ⟨[],[],_,_,rfl,rfl,trivial,(.refl _)⟩
   ·rw [hd36,laws_eqStringS_L1.eq_2] at hc1
    have hq35:=dlt hlt31
    refine awp_seq<|sr<|s_mov (.int .i64 (i_21:Int)) rfl<|s_mov (.lst 1 (a_1.map AV.str)) rfl<|s_dof (o_len (enc:=AV.str) rfl) fun hl39 => s_q (.bool (decide ((i_21:Int) < (a_1.length:Int)))) rfl rfl rfl<|dk<|w_condt rfl hq35<|w_skip<|k_seq<|awp_seq<|w_blk<|sr<|?_
    obtain ⟨x_40,ex41,hc1⟩:=ob hc1
    refine s_mov (.lst 1 (a_1.map AV.str)) rfl<|s_mov (.int .i64 (i_21:Int)) rfl<|s_do (o_iaddrn (enc:=AV.str) rfl rfl hx32)<|s_q (.str x_37) rfl ⟨rfl,rfl⟩ rfl<|s_mov (.lst 1 (b_2.map AV.str)) rfl<|s_mov (.int .i64 (i_21:Int)) rfl<|s_do (o_iaddr (enc:=AV.str) rfl rfl (idx0 ex41) (idx1 ex41))<|s_q (.str x_40) rfl ⟨rfl,rfl⟩ rfl<|s_q (.bool (!(x_37 == x_40))) rfl trivial rfl<|dk<|?_
    rcases oi hc1 with ⟨c42,hc1⟩ | ⟨c42,hc1⟩
    ·refine w_condt rfl c42<|sr<|s_mov (.bool false) rfl<|dk<|w_ret<|?_;obtain rfl:=os hc1;obtain rfl:=os hf;exact r_flat ⟨trivial,trivial⟩ rfl (.refl _)
    ·refine w_condf rfl (bf c42)<|w_skip<|k_blk<|k_seq<|w_reg<|s_mov (.int .i64 (i_21:Int)) rfl<|s_q (.int .i64 (w64 ((i_21:Int) + 1))) rfl rfl rfl<|s_mov (.int .i64 (w64 ((i_21:Int) + 1))) rfl<|w_done<|?_;exact k_loopn ⟨(i_21 + 1),hc1⟩ (mul hlt31) ⟨[],[],_,_,rfl,rfl,⟨.refl _,⟨.refl _,⟨.of_eq (congrArg (AV.int _) (w64_incr hlt31 hl39)),trivial⟩⟩⟩,(.refl _)⟩
  ·rintro ⟨_,rfl⟩
   refine sr<|s_mov (.bool true) rfl<|dk<|w_ret<|?_;obtain rfl:=os hf;exact r_flat ⟨trivial,trivial⟩ rfl (.refl _)

/- laws.markText -/
def c128:ACode :=
 (.seq (.reg (tm 2 (.c (.str [])) .done))
 (.seq (.seq (.reg (tm 4 (.t 0) (tq 5 (.bin .leq (.t 4) (.c (.int .i64 0))) .done)))
 (.cond (.t 5) (.seq (.reg (tm 2 (.c (.str [109,48])) .done))
 .ret)
 .skip))
 (.seq (.reg (tm 3 (.c (.str [])) .done))
 (.seq (.block 0 (.loop (.seq (.seq (.reg (tm 6 (.t 0) (tq 7 (.bin .gtr (.t 6) (.c (.int .i64 0))) .done)))
 (.cond (.t 7) .skip
 (.exit 0)))
 (.block 1 (.seq (.reg (tm 8 (.t 0) (tq 9 (.bin .rem (.t 8) (.c (.int .i64 10))) (tq 10 (.bin .add (.c (.int .i64 48)) (.t 9)) (tq 11 (.convI .u8 (.t 10)) (tq 12 (.bslice 1 [(.t 11)]) (tq 13 (.convBS (.t 12)) (tm 14 (.t 3) (tq 15 (.bin .add (.t 13) (.t 14)) (tm 3 (.t 15) .done))))))))))
 (.reg (tm 16 (.t 0) (tq 17 (.bin .quo (.t 16) (.c (.int .i64 10))) (tm 0 (.t 17) .done)))))))))
 (.cut (.seq (.reg (tm 18 (.t 3) (tq 19 (.bin .add (.c (.str [109])) (.t 18)) (tm 2 (.t 19) .done))))
 .ret))))))
theorem fc128:fcomp Try.prog Try.f128 = some (c128.erase,[.mov (.t 2)],20):=by kernel_rfl
def laws_markText_L1 :Nat → Int → Str → Option Str
  | 0,_,_ => none
  | k + 1,k_9,out_10 =>
    if (decide (k_9 > 0)) then
    if (bstr [IntKind.u8.wrap (w64 (48 + (k_9.tmod 10)))]).length + out_10.length ≤ maxLen then
    laws_markText_L1 k (w64 (k_9.tdiv 10)) ((bstr [IntKind.u8.wrap (w64 (48 + (k_9.tmod 10)))]) ++ out_10)
    else none
    else
    some out_10

def laws_markText (k_1:Int):Option Str :=
    if (decide (k_1 ≤ 0)) then
    some [109,48]
    else
    (laws_markText_L1 FUEL k_1 []).bind fun out_13 =>
    if [109].length + out_13.length ≤ maxLen then
    some ([109] ++ out_13)
    else none
theorem w_laws_markText (k_1:Int) (r:Str) (hf:laws_markText k_1 = some r):CallOK Try.prog 128 .flat [(.int .i64 k_1)] (.str r):=by
 refine CallOK.of_awp mixed Try.func128 fc128 nle ?_;rw [argT_eq];unfold laws_markText at hf;unfold c128;refine (show awp Try.prog false 0 _ (ofL [(0,(.int .i64 k_1))]) [] _ from ?_);refine sr<|s_mov (.str []) rfl<|dk<|awp_seq<|sr<|s_mov (.int .i64 k_1) rfl<|s_q (.bool (decide (k_1 ≤ 0))) rfl rfl rfl<|dk<|?_
 rcases oi hf with ⟨c2,hf⟩ | ⟨c2,hf⟩
 ·refine w_condt rfl c2<|sr<|s_mov (.str [109,48]) rfl<|dk<|w_ret<|?_;obtain rfl:=os hf;exact r_flat ⟨trivial,trivial⟩ rfl (.refl _)
 ·refine w_condf rfl (bf c2)<|w_skip<|k_seq<|sr<|s_mov (.str []) rfl<|dk<|awp_seq<|?_
  obtain ⟨out_13,hb1,hf⟩:=ob hf
  refine awp_cut ([(3,(.str out_13))],[]) ?_ ?_
  ·refine awp_loop (X:={q:(Nat × Int × Str) // laws_markText_L1 q.1 q.2.1 q.2.2 = some out_13}) (fun q => ([(0,(.int .i64 q.1.2.1)),(3,(.str q.1.2.2))],[])) (fun q => q.1.1) ⟨(FUEL,k_1,[]),hb1⟩ ⟨[],[],_,_,rfl,rfl,⟨.refl _,⟨.refl _,trivial⟩⟩,(.refl _)⟩ ?_
   rintro ⟨⟨k,k_9,out_10⟩,hc1⟩
   have hc1:laws_markText_L1 k k_9 out_10 = some out_13:=hc1
   refine (show awp Try.prog false 0 _ (ofL [(0,(.int .i64 k_9)),(3,(.str out_10))]) [] _ from ?_)
   rcases k with _ | k
   ·rw [laws_markText_L1.eq_1] at hc1
    cases hc1
   ·rw [laws_markText_L1.eq_2] at hc1;refine awp_seq<|sr<|s_mov (.int .i64 k_9) rfl<|s_q (.bool (decide (k_9 > 0))) rfl rfl rfl<|dk<|?_
    rcases oi hc1 with ⟨c15,hc1⟩ | ⟨c15,hc1⟩
    ·refine w_condt rfl c15<|w_skip<|k_seq<|w_blk<|sr<|?_
     obtain ⟨g16,hc1⟩:=og hc1
     refine s_mov (.int .i64 k_9) rfl<|s_q (.int .i64 (k_9.tmod 10)) rfl ⟨rfl,by decide⟩ rfl<|s_q (.int .i64 (w64 (48 + (k_9.tmod 10)))) rfl rfl rfl<|s_q (.int .u8 (IntKind.u8.wrap (w64 (48 + (k_9.tmod 10))))) rfl trivial rfl<|?_;refine s_do (o_bslice (j:=0) (as':=[(.int .u8 (IntKind.u8.wrap (w64 (48 + (k_9.tmod 10)))))]) rfl (fun _ => by decide) ⟨rfl,trivial⟩ (.refl _) rfl rfl rfl) ?_;refine s_do (o_convbso (l:=[IntKind.u8.wrap (w64 (48 + (k_9.tmod 10)))]) rfl rfl (by simp))<|s_mov (.str out_10) rfl<|s_q (.str ((bstr [IntKind.u8.wrap (w64 (48 + (k_9.tmod 10)))]) ++ out_10)) rfl g16 rfl<|s_mov (.str ((bstr [IntKind.u8.wrap (w64 (48 + (k_9.tmod 10)))]) ++ out_10)) rfl<|dk<|w_reg<|s_mov (.int .i64 k_9) rfl<|?_
     refine s_q (.int .i64 (w64 (k_9.tdiv 10))) rfl ⟨rfl,by decide⟩ rfl<|s_mov (.int .i64 (w64 (k_9.tdiv 10))) rfl<|w_done<|k_blk<|?_;exact k_loopn ⟨(k,w64 (k_9.tdiv 10),(bstr [IntKind.u8.wrap (w64 (48 + (k_9.tmod 10)))]) ++ out_10),hc1⟩ (Nat.lt_succ_self _) ⟨[],[],_,_,rfl,rfl,⟨.refl _,⟨.refl _,trivial⟩⟩,(.refl _)⟩
    ·refine w_condf rfl (bf c15)<|w_exit<|k_seqx<|k_loopx<|k_blkx<|?_;obtain rfl:=os hc1;exact ⟨[],[],_,_,rfl,rfl,⟨.refl _,trivial⟩,(.refl _)⟩
  ·refine sr<|?_
   obtain ⟨g17,hf⟩:=og hf
   refine s_mov (.str out_13) rfl<|s_q (.str ([109] ++ out_13)) rfl g17 rfl<|s_mov (.str ([109] ++ out_13)) rfl<|dk<|w_ret<|?_;obtain rfl:=os hf;exact r_flat ⟨trivial,trivial⟩ rfl (.refl _)

/- laws.markColumnS -/
def c125_h0:ACode :=
 (.seq (.reg (tm 4 (.c (.int .i64 0)) .done))
 (.seq (.seq (.reg (tm 5 (.c (.int .i64 0)) .done))
 (.block 0 (.loop (.seq (.seq (.reg (tm 6 (.t 5) (tm 7 (.t 0) (tq 8 (.len (.t 7)) (tq 9 (.bin .lss (.t 6) (.t 8)) .done)))))
 (.cond (.t 9) .skip
 (.exit 0)))
 (.seq (.block 1 (.seq (.reg (tm 12 (.t 0) (tm 13 (.t 5) (tm 14 (.t 1) (tq 15 (.call 128 [(.t 14)]) (tq 16 (.iaddr 8 (.t 12) (.t 13)) (tq 17 (.faddr 0 (.t 16)) (.q ⟨none,none,.store 1 (.t 17) (.t 15)⟩
 .done))))))))
 (.seq (.reg (tm 18 (.t 1) (tq 19 (.bin .add (.t 18) (.c (.int .i64 1))) (tm 1 (.t 19) .done))))
 (.seq (.reg (tm 20 (.t 0) (tm 21 (.t 5) (tm 22 (.t 1) (tq 23 (.iaddr 8 (.t 20) (.t 21)) (tq 24 (.faddr 1 (.t 23)) (.q ⟨none,none,.store 1 (.t 24) (.t 22)⟩
 .done)))))))
 (.seq (.reg (tm 25 (.t 1) (tq 26 (.bin .add (.t 25) (.c (.int .i64 1))) (tm 1 (.t 26) .done))))
 (.seq (.reg (tm 27 (.t 0) (tm 28 (.t 5) (tm 29 (.t 1) (tq 30 (.iaddr 8 (.t 27) (.t 28)) (tq 31 (.faddr 2 (.t 30)) (.q ⟨none,none,.store 1 (.t 31) (.t 29)⟩
 .done)))))))
 (.seq (.reg (tm 32 (.t 1) (tq 33 (.bin .add (.t 32) (.c (.int .i64 1))) (tm 1 (.t 33) .done))))
 (.seq (.reg (tm 34 (.t 0) (tm 35 (.t 5) (tm 36 (.t 1) (tq 37 (.iaddr 8 (.t 34) (.t 35)) (tq 38 (.faddr 3 (.t 37)) (.q ⟨none,none,.store 1 (.t 38) (.t 36)⟩
 .done)))))))
 (.seq (.reg (tm 39 (.t 1) (tq 40 (.bin .add (.t 39) (.c (.int .i64 1))) (tm 1 (.t 40) .done))))
 (.seq (.reg (tm 41 (.t 0) (tm 42 (.t 5) (tm 43 (.t 1) (tq 44 (.iaddr 8 (.t 41) (.t 42)) (tq 45 (.faddr 4 (.t 44)) (.q ⟨none,none,.store 1 (.t 45) (.t 43)⟩
 .done)))))))
 (.seq (.reg (tm 46 (.t 1) (tq 47 (.bin .add (.t 46) (.c (.int .i64 1))) (tm 1 (.t 47) .done))))
 (.seq (.reg (tm 48 (.t 0) (tm 49 (.t 5) (tm 50 (.t 1) (tq 51 (.iaddr 8 (.t 48) (.t 49)) (tq 52 (.faddr 5 (.t 51)) (.q ⟨none,none,.store 1 (.t 52) (.t 50)⟩
 .done)))))))
 (.seq (.reg (tm 53 (.t 1) (tq 54 (.bin .add (.t 53) (.c (.int .i64 1))) (tm 1 (.t 54) .done))))
 (.seq (.reg (tm 55 (.t 0) (tm 56 (.t 5) (tm 57 (.t 1) (tq 58 (.call 128 [(.t 57)]) (tq 59 (.iaddr 8 (.t 55) (.t 56)) (tq 60 (.faddr 6 (.t 59)) (.q ⟨none,none,.store 1 (.t 60) (.t 58)⟩
 .done))))))))
 (.seq (.reg (tm 61 (.t 1) (tq 62 (.bin .add (.t 61) (.c (.int .i64 1))) (tm 1 (.t 62) .done))))
 (.seq (.reg (tm 63 (.t 0) (tm 64 (.t 5) (tm 65 (.t 1) (tq 66 (.bin .rem (.t 65) (.c (.int .i64 3))) (tq 67 (.bin .eql (.t 66) (.c (.int .i64 0))) (tq 68 (.iaddr 8 (.t 63) (.t 64)) (tq 69 (.faddr 7 (.t 68)) (.q ⟨none,none,.store 1 (.t 69) (.t 67)⟩
 .done)))))))))
 (.reg (tm 70 (.t 1) (tq 71 (.bin .add (.t 70) (.c (.int .i64 1))) (tm 1 (.t 71) .done))))))))))))))))))))
 (.reg (tm 10 (.t 5) (tq 11 (.bin .add (.t 10) (.c (.int .i64 1))) (tm 5 (.t 11) .done)))))))))
 (.cut (.seq (.reg (tm 72 (.t 1) (tm 4 (.t 72) .done)))
 .ret))))
theorem fc125_h0:fcomp Try.prog Try.f125 = some (c125_h0.erase,[.mov (.t 4)],73):=by kernel_rfl
def laws_markColumnS_L1 :Nat → Int → Int → (List GColumn) → Option (Int × (List GColumn))
  | 0,_,_,_ => none
  | k + 1,k_93,i_94,a_95 =>
    if (decide (i_94 < (a_95.length:Int))) then
    (laws_markText k_93).bind fun r_117 =>
    if 0 ≤ i_94 ∧ i_94 < (a_95.length:Int) then
    (a_95[(0 + i_94.toNat)]?).bind fun x_120 =>
    if 0 ≤ i_94 ∧ i_94 < (a_95.length:Int) then
    if 0 ≤ i_94 ∧ i_94 < (a_95.length:Int) then
    if 0 ≤ i_94 ∧ i_94 < (a_95.length:Int) then
    if 0 ≤ i_94 ∧ i_94 < (a_95.length:Int) then
    if 0 ≤ i_94 ∧ i_94 < (a_95.length:Int) then
    (laws_markText (w64 ((w64 ((w64 ((w64 ((w64 ((w64 (k_93 + 1)) + 1)) + 1)) + 1)) + 1)) + 1))).bind fun r_127 =>
    if 0 ≤ i_94 ∧ i_94 < (a_95.length:Int) then
    if 0 ≤ i_94 ∧ i_94 < (a_95.length:Int) then
    laws_markColumnS_L1 k (w64 ((w64 ((w64 ((w64 ((w64 ((w64 ((w64 ((w64 (k_93 + 1)) + 1)) + 1)) + 1)) + 1)) + 1)) + 1)) + 1)) (w64 (i_94 + 1)) ((((((((a_95.set (0 + i_94.toNat) (⟨r_117,x_120.Kind,x_120.Min,x_120.Max,x_120.Low,x_120.High,x_120.Ref,x_120.Strong⟩:GColumn)).set (0 + i_94.toNat) (⟨r_117,w64 (k_93 + 1),x_120.Min,x_120.Max,x_120.Low,x_120.High,x_120.Ref,x_120.Strong⟩:GColumn)).set (0 + i_94.toNat) (⟨r_117,w64 (k_93 + 1),w64 ((w64 (k_93 + 1)) + 1),x_120.Max,x_120.Low,x_120.High,x_120.Ref,x_120.Strong⟩:GColumn)).set (0 + i_94.toNat) (⟨r_117,w64 (k_93 + 1),w64 ((w64 (k_93 + 1)) + 1),w64 ((w64 ((w64 (k_93 + 1)) + 1)) + 1),x_120.Low,x_120.High,x_120.Ref,x_120.Strong⟩:GColumn)).set (0 + i_94.toNat) (⟨r_117,w64 (k_93 + 1),w64 ((w64 (k_93 + 1)) + 1),w64 ((w64 ((w64 (k_93 + 1)) + 1)) + 1),w64 ((w64 ((w64 ((w64 (k_93 + 1)) + 1)) + 1)) + 1),x_120.High,x_120.Ref,x_120.Strong⟩:GColumn)).set (0 + i_94.toNat) (⟨r_117,w64 (k_93 + 1),w64 ((w64 (k_93 + 1)) + 1),w64 ((w64 ((w64 (k_93 + 1)) + 1)) + 1),w64 ((w64 ((w64 ((w64 (k_93 + 1)) + 1)) + 1)) + 1),w64 ((w64 ((w64 ((w64 ((w64 (k_93 + 1)) + 1)) + 1)) + 1)) + 1),x_120.Ref,x_120.Strong⟩:GColumn)).set (0 + i_94.toNat) (⟨r_117,w64 (k_93 + 1),w64 ((w64 (k_93 + 1)) + 1),w64 ((w64 ((w64 (k_93 + 1)) + 1)) + 1),w64 ((w64 ((w64 ((w64 (k_93 + 1)) + 1)) + 1)) + 1),w64 ((w64 ((w64 ((w64 ((w64 (k_93 + 1)) + 1)) + 1)) + 1)) + 1),r_127,x_120.Strong⟩:GColumn)).set (0 + i_94.toNat) (⟨r_117,w64 (k_93 + 1),w64 ((w64 (k_93 + 1)) + 1),w64 ((w64 ((w64 (k_93 + 1)) + 1)) + 1),w64 ((w64 ((w64 ((w64 (k_93 + 1)) + 1)) + 1)) + 1),w64 ((w64 ((w64 ((w64 ((w64 (k_93 + 1)) + 1)) + 1)) + 1)) + 1),r_127,((w64 ((w64 ((w64 ((w64 ((w64 ((w64 ((w64 (k_93 + 1)) + 1)) + 1)) + 1)) + 1)) + 1)) + 1)).tmod 3 == 0)⟩:GColumn))
    else none
    else none
    else none
    else none
    else none
    else none
    else none
    else none
    else
    some (k_93,a_95)

def laws_markColumnS (a_1:(List GColumn)) (k_2:Int):Option (Int × (List GColumn)) :=
    (laws_markColumnS_L1 FUEL k_2 0 a_1).bind fun p114 =>
    (match p114 with
    | (k_112,l_113) =>
    some (k_112,l_113))
theorem w_laws_markColumnS (a_1:(List GColumn)) (k_2:Int) (r:(Int × (List GColumn))) (hf:laws_markColumnS a_1 k_2 = some r):CallHeap Try.prog ⟨true,true⟩ 125 [(.own 0 0 a_1.length),(.int .i64 k_2)] [.row 8 (a_1.map encGColumn)] (.int .i64 r.1) [.row 8 (r.2.map encGColumn)]:=by
 refine CallHeap.of_awp mixed Try.func125 fc125_h0 nle ?_;rw [argT_eq];unfold laws_markColumnS at hf;unfold c125_h0;refine (show awp Try.prog ⟨true,true⟩ 1 _ (ofL [(0,(.own 0 0 a_1.length)),(1,(.int .i64 k_2))]) [.row 8 (a_1.map encGColumn)] _ from ?_);refine sr<|s_mov (.int .i64 0) rfl<|dk<|awp_seq<|sr<|s_mov (.int .i64 0) rfl<|dk<|?_
 obtain ⟨p114,hb1,hf⟩:=ob hf
 refine awp_cut ([(1,(.int .i64 p114.1))],[.row 8 (p114.2.map encGColumn)]) ?_ ?_
 ·refine awp_loop (X:={q:(Nat × Int × Int × (List GColumn)) // laws_markColumnS_L1 q.1 q.2.1 q.2.2.1 q.2.2.2 = some p114}) (fun q => ([(0,(.own 0 0 q.1.2.2.2.length)),(1,(.int .i64 q.1.2.1)),(5,(.int .i64 q.1.2.2.1))],[.row 8 (q.1.2.2.2.map encGColumn)])) (fun q => q.1.1) ⟨(FUEL,k_2,0,a_1),hb1⟩ ⟨[],[0],_,_,rfl,rfl,⟨.refl _,⟨.refl _,⟨.refl _,trivial⟩⟩⟩,(.refl _)⟩ ?_
  rintro ⟨⟨k,k_93,i_94,a_95⟩,hc1⟩
  have hc1:laws_markColumnS_L1 k k_93 i_94 a_95 = some p114:=hc1
  refine (show awp Try.prog ⟨true,true⟩ 1 _ (ofL [(0,(.own 0 0 a_95.length)),(1,(.int .i64 k_93)),(5,(.int .i64 i_94))]) [.row 8 (a_95.map encGColumn)] _ from ?_)
  rcases k with _ | k
  ·rw [laws_markColumnS_L1.eq_1] at hc1
   cases hc1
  ·rw [laws_markColumnS_L1.eq_2] at hc1;refine awp_seq<|sr<|s_mov (.int .i64 i_94) rfl<|s_mov (.own 0 0 a_95.length) rfl<|s_dof (o_lenown rfl rfl) fun hl115 => s_q (.bool (decide (i_94 < (a_95.length:Int)))) rfl (.of rfl trivial) rfl<|dk<|?_
   rcases oi hc1 with ⟨c116,hc1⟩ | ⟨c116,hc1⟩
   ·refine w_condt rfl c116<|w_skip<|k_seq<|awp_seq<|w_blk<|sr<|?_
    obtain ⟨r_117,er118,hc1⟩:=ob hc1
    obtain ⟨g119,hc1⟩:=og hc1
    obtain ⟨x_120,ex121,hc1⟩:=ob hc1
    refine s_mov (.own 0 0 a_95.length) rfl<|s_mov (.int .i64 i_94) rfl<|s_mov (.int .i64 k_93) rfl<|s_do (o_call (w_laws_markText _ _ er118) rfl (.refl _) rfl)<|s_do (o_iaddrown rfl rfl g119.1 g119.2 rfl rfl)<|s_q (.ptr 0 (0 + i_94.toNat) 0) rfl (.of trivial trivial) rfl<|?_;refine s_do0 (o_storerow (v':=(.str r_117)) (e':=(⟨r_117,x_120.Kind,x_120.Min,x_120.Max,x_120.Low,x_120.High,x_120.Ref,x_120.Strong⟩:GColumn)) rfl rfl ex121 rfl rfl rfl (by decide) (fun _ => by decide) ⟨rfl,nle⟩ (.refl _) rfl) ?_;refine dk<|sr<|s_mov (.int .i64 k_93) rfl<|s_q (.int .i64 (w64 (k_93 + 1))) rfl (.of rfl trivial) rfl<|s_mov (.int .i64 (w64 (k_93 + 1))) rfl<|dk<|?_
    refine sr<|?_
    obtain ⟨g122,hc1⟩:=og hc1
    refine s_mov (.own 0 0 a_95.length) rfl<|s_mov (.int .i64 i_94) rfl<|s_mov (.int .i64 (w64 (k_93 + 1))) rfl<|s_do (o_iaddrown rfl rfl g122.1 g122.2 rfl rfl)<|s_q (.ptr 0 (0 + i_94.toNat) 1) rfl (.of trivial trivial) rfl<|?_;refine s_do0 (o_storerow (v':=(.int .i64 (w64 (k_93 + 1)))) (e':=(⟨r_117,w64 (k_93 + 1),x_120.Min,x_120.Max,x_120.Low,x_120.High,x_120.Ref,x_120.Strong⟩:GColumn)) rfl rfl (setget ex121) rfl rfl rfl (by decide) (fun _ => by decide) ⟨rfl,nle⟩ (.refl _) rfl) ?_;refine dk<|sr<|s_mov (.int .i64 (w64 (k_93 + 1))) rfl<|s_q (.int .i64 (w64 ((w64 (k_93 + 1)) + 1))) rfl (.of rfl trivial) rfl<|s_mov (.int .i64 (w64 ((w64 (k_93 + 1)) + 1))) rfl<|w_done<|?_
    refine k_seq<|sr<|?_
    obtain ⟨g123,hc1⟩:=og hc1
    refine s_mov (.own 0 0 a_95.length) rfl<|s_mov (.int .i64 i_94) rfl<|s_mov (.int .i64 (w64 ((w64 (k_93 + 1)) + 1))) rfl<|s_do (o_iaddrown rfl rfl g123.1 g123.2 rfl rfl)<|s_q (.ptr 0 (0 + i_94.toNat) 2) rfl (.of trivial trivial) rfl<|?_;refine s_do0 (o_storerow (v':=(.int .i64 (w64 ((w64 (k_93 + 1)) + 1)))) (e':=(⟨r_117,w64 (k_93 + 1),w64 ((w64 (k_93 + 1)) + 1),x_120.Max,x_120.Low,x_120.High,x_120.Ref,x_120.Strong⟩:GColumn)) rfl rfl (setget (setget ex121)) rfl rfl rfl (by decide) (fun _ => by decide) ⟨rfl,nle⟩ (.refl _) rfl) ?_;refine dk<|sr<|s_mov (.int .i64 (w64 ((w64 (k_93 + 1)) + 1))) rfl<|s_q (.int .i64 (w64 ((w64 ((w64 (k_93 + 1)) + 1)) + 1))) rfl (.of rfl trivial) rfl<|?_
    refine s_mov (.int .i64 (w64 ((w64 ((w64 (k_93 + 1)) + 1)) + 1))) rfl<|dk<|sr<|?_
    obtain ⟨g124,hc1⟩:=og hc1
    refine s_mov (.own 0 0 a_95.length) rfl<|s_mov (.int .i64 i_94) rfl<|s_mov (.int .i64 (w64 ((w64 ((w64 (k_93 + 1)) + 1)) + 1))) rfl<|s_do (o_iaddrown rfl rfl g124.1 g124.2 rfl rfl)<|s_q (.ptr 0 (0 + i_94.toNat) 3) rfl (.of trivial trivial) rfl<|?_;refine s_do0 (o_storerow (v':=(.int .i64 (w64 ((w64 ((w64 (k_93 + 1)) + 1)) + 1)))) (e':=(⟨r_117,w64 (k_93 + 1),w64 ((w64 (k_93 + 1)) + 1),w64 ((w64 ((w64 (k_93 + 1)) + 1)) + 1),x_120.Low,x_120.High,x_120.Ref,x_120.Strong⟩:GColumn)) rfl rfl (setget (setget (setget ex121))) rfl rfl rfl (by decide) (fun _ => by decide) ⟨rfl,nle⟩ (.refl _) rfl) ?_;refine dk<|sr<|s_mov (.int .i64 (w64 ((w64 ((w64 (k_93 + 1)) + 1)) + 1))) rfl<|?_
    refine s_q (.int .i64 (w64 ((w64 ((w64 ((w64 (k_93 + 1)) + 1)) + 1)) + 1))) rfl (.of rfl trivial) rfl<|s_mov (.int .i64 (w64 ((w64 ((w64 ((w64 (k_93 + 1)) + 1)) + 1)) + 1))) rfl<|dk<|sr<|?_
    obtain ⟨g125,hc1⟩:=og hc1
    refine s_mov (.own 0 0 a_95.length) rfl<|s_mov (.int .i64 i_94) rfl<|s_mov (.int .i64 (w64 ((w64 ((w64 ((w64 (k_93 + 1)) + 1)) + 1)) + 1))) rfl<|s_do (o_iaddrown rfl rfl g125.1 g125.2 rfl rfl)<|s_q (.ptr 0 (0 + i_94.toNat) 4) rfl (.of trivial trivial) rfl<|?_;refine s_do0 (o_storerow (v':=(.int .i64 (w64 ((w64 ((w64 ((w64 (k_93 + 1)) + 1)) + 1)) + 1)))) (e':=(⟨r_117,w64 (k_93 + 1),w64 ((w64 (k_93 + 1)) + 1),w64 ((w64 ((w64 (k_93 + 1)) + 1)) + 1),w64 ((w64 ((w64 ((w64 (k_93 + 1)) + 1)) + 1)) + 1),x_120.High,x_120.Ref,x_120.Strong⟩:GColumn)) rfl rfl (setget (setget (setget (setget ex121)))) rfl rfl rfl (by decide) (fun _ => by decide) ⟨rfl,nle⟩ (.refl _) rfl) ?_;refine dk<|awp_seq<|?_
    refine w_reg<|s_mov (.int .i64 (w64 ((w64 ((w64 ((w64 (k_93 + 1)) + 1)) + 1)) + 1))) rfl<|s_q (.int .i64 (w64 ((w64 ((w64 ((w64 ((w64 (k_93 + 1)) + 1)) + 1)) + 1)) + 1))) rfl (.of rfl trivial) rfl<|s_mov (.int .i64 (w64 ((w64 ((w64 ((w64 ((w64 (k_93 + 1)) + 1)) + 1)) + 1)) + 1))) rfl<|dk<|sr<|?_
    obtain ⟨g126,hc1⟩:=og hc1
    refine s_mov (.own 0 0 a_95.length) rfl<|s_mov (.int .i64 i_94) rfl<|s_mov (.int .i64 (w64 ((w64 ((w64 ((w64 ((w64 (k_93 + 1)) + 1)) + 1)) + 1)) + 1))) rfl<|s_do (o_iaddrown rfl rfl g126.1 g126.2 rfl rfl)<|s_q (.ptr 0 (0 + i_94.toNat) 5) rfl (.of trivial trivial) rfl<|?_;refine s_do0 (o_storerow (v':=(.int .i64 (w64 ((w64 ((w64 ((w64 ((w64 (k_93 + 1)) + 1)) + 1)) + 1)) + 1)))) (e':=(⟨r_117,w64 (k_93 + 1),w64 ((w64 (k_93 + 1)) + 1),w64 ((w64 ((w64 (k_93 + 1)) + 1)) + 1),w64 ((w64 ((w64 ((w64 (k_93 + 1)) + 1)) + 1)) + 1),w64 ((w64 ((w64 ((w64 ((w64 (k_93 + 1)) + 1)) + 1)) + 1)) + 1),x_120.Ref,x_120.Strong⟩:GColumn)) rfl rfl (setget (setget (setget (setget (setget ex121))))) rfl rfl rfl (by decide) (fun _ => by decide) ⟨rfl,nle⟩ (.refl _) rfl) ?_
    refine dk<|sr<|s_mov (.int .i64 (w64 ((w64 ((w64 ((w64 ((w64 (k_93 + 1)) + 1)) + 1)) + 1)) + 1))) rfl<|s_q (.int .i64 (w64 ((w64 ((w64 ((w64 ((w64 ((w64 (k_93 + 1)) + 1)) + 1)) + 1)) + 1)) + 1))) rfl (.of rfl trivial) rfl<|s_mov (.int .i64 (w64 ((w64 ((w64 ((w64 ((w64 ((w64 (k_93 + 1)) + 1)) + 1)) + 1)) + 1)) + 1))) rfl<|dk<|sr<|?_
    obtain ⟨r_127,er128,hc1⟩:=ob hc1
    obtain ⟨g129,hc1⟩:=og hc1
    refine s_mov (.own 0 0 a_95.length) rfl<|s_mov (.int .i64 i_94) rfl<|s_mov (.int .i64 (w64 ((w64 ((w64 ((w64 ((w64 ((w64 (k_93 + 1)) + 1)) + 1)) + 1)) + 1)) + 1))) rfl<|s_do (o_call (w_laws_markText _ _ er128) rfl (.refl _) rfl)<|s_do (o_iaddrown rfl rfl g129.1 g129.2 rfl rfl)<|s_q (.ptr 0 (0 + i_94.toNat) 6) rfl (.of trivial trivial) rfl<|?_;refine s_do0 (o_storerow (v':=(.str r_127)) (e':=(⟨r_117,w64 (k_93 + 1),w64 ((w64 (k_93 + 1)) + 1),w64 ((w64 ((w64 (k_93 + 1)) + 1)) + 1),w64 ((w64 ((w64 ((w64 (k_93 + 1)) + 1)) + 1)) + 1),w64 ((w64 ((w64 ((w64 ((w64 (k_93 + 1)) + 1)) + 1)) + 1)) + 1),r_127,x_120.Strong⟩:GColumn)) rfl rfl (setget (setget (setget (setget (setget (setget ex121)))))) rfl rfl rfl (by decide) (fun _ => by decide) ⟨rfl,nle⟩ (.refl _) rfl) ?_
    refine dk<|sr<|s_mov (.int .i64 (w64 ((w64 ((w64 ((w64 ((w64 ((w64 (k_93 + 1)) + 1)) + 1)) + 1)) + 1)) + 1))) rfl<|s_q (.int .i64 (w64 ((w64 ((w64 ((w64 ((w64 ((w64 ((w64 (k_93 + 1)) + 1)) + 1)) + 1)) + 1)) + 1)) + 1))) rfl (.of rfl trivial) rfl<|s_mov (.int .i64 (w64 ((w64 ((w64 ((w64 ((w64 ((w64 ((w64 (k_93 + 1)) + 1)) + 1)) + 1)) + 1)) + 1)) + 1))) rfl<|dk<|sr<|?_
    obtain ⟨g130,hc1⟩:=og hc1
    refine s_mov (.own 0 0 a_95.length) rfl<|s_mov (.int .i64 i_94) rfl<|s_mov (.int .i64 (w64 ((w64 ((w64 ((w64 ((w64 ((w64 ((w64 (k_93 + 1)) + 1)) + 1)) + 1)) + 1)) + 1)) + 1))) rfl<|s_q (.int .i64 ((w64 ((w64 ((w64 ((w64 ((w64 ((w64 ((w64 (k_93 + 1)) + 1)) + 1)) + 1)) + 1)) + 1)) + 1)).tmod 3)) rfl (.of ⟨rfl,by decide⟩ trivial) rfl<|s_q (.bool ((w64 ((w64 ((w64 ((w64 ((w64 ((w64 ((w64 (k_93 + 1)) + 1)) + 1)) + 1)) + 1)) + 1)) + 1)).tmod 3 == 0)) rfl (.of rfl trivial) rfl<|s_do (o_iaddrown rfl rfl g130.1 g130.2 rfl rfl)<|s_q (.ptr 0 (0 + i_94.toNat) 7) rfl (.of trivial trivial) rfl<|?_;refine s_do0 (o_storerow (v':=(.bool ((w64 ((w64 ((w64 ((w64 ((w64 ((w64 ((w64 (k_93 + 1)) + 1)) + 1)) + 1)) + 1)) + 1)) + 1)).tmod 3 == 0))) (e':=(⟨r_117,w64 (k_93 + 1),w64 ((w64 (k_93 + 1)) + 1),w64 ((w64 ((w64 (k_93 + 1)) + 1)) + 1),w64 ((w64 ((w64 ((w64 (k_93 + 1)) + 1)) + 1)) + 1),w64 ((w64 ((w64 ((w64 ((w64 (k_93 + 1)) + 1)) + 1)) + 1)) + 1),r_127,((w64 ((w64 ((w64 ((w64 ((w64 ((w64 ((w64 (k_93 + 1)) + 1)) + 1)) + 1)) + 1)) + 1)) + 1)).tmod 3 == 0)⟩:GColumn)) rfl rfl (setget (setget (setget (setget (setget (setget (setget ex121))))))) rfl rfl rfl (by decide) (fun _ => by decide) ⟨rfl,nle⟩ (.refl _) rfl) ?_
    refine dk<|w_reg<|s_mov (.int .i64 (w64 ((w64 ((w64 ((w64 ((w64 ((w64 ((w64 (k_93 + 1)) + 1)) + 1)) + 1)) + 1)) + 1)) + 1))) rfl<|s_q (.int .i64 (w64 ((w64 ((w64 ((w64 ((w64 ((w64 ((w64 ((w64 (k_93 + 1)) + 1)) + 1)) + 1)) + 1)) + 1)) + 1)) + 1))) rfl (.of rfl trivial) rfl<|s_mov (.int .i64 (w64 ((w64 ((w64 ((w64 ((w64 ((w64 ((w64 ((w64 (k_93 + 1)) + 1)) + 1)) + 1)) + 1)) + 1)) + 1)) + 1))) rfl<|w_done<|k_blk<|k_seq<|w_reg<|s_mov (.int .i64 i_94) rfl<|s_q (.int .i64 (w64 (i_94 + 1))) rfl (.of rfl trivial) rfl<|s_mov (.int .i64 (w64 (i_94 + 1))) rfl<|w_done<|?_;exact k_loopn ⟨(k,w64 ((w64 ((w64 ((w64 ((w64 ((w64 ((w64 ((w64 (k_93 + 1)) + 1)) + 1)) + 1)) + 1)) + 1)) + 1)) + 1),w64 (i_94 + 1),(((((((a_95.set (0 + i_94.toNat) (⟨r_117,x_120.Kind,x_120.Min,x_120.Max,x_120.Low,x_120.High,x_120.Ref,x_120.Strong⟩:GColumn)).set (0 + i_94.toNat) (⟨r_117,w64 (k_93 + 1),x_120.Min,x_120.Max,x_120.Low,x_120.High,x_120.Ref,x_120.Strong⟩:GColumn)).set (0 + i_94.toNat) (⟨r_117,w64 (k_93 + 1),w64 ((w64 (k_93 + 1)) + 1),x_120.Max,x_120.Low,x_120.High,x_120.Ref,x_120.Strong⟩:GColumn)).set (0 + i_94.toNat) (⟨r_117,w64 (k_93 + 1),w64 ((w64 (k_93 + 1)) + 1),w64 ((w64 ((w64 (k_93 + 1)) + 1)) + 1),x_120.Low,x_120.High,x_120.Ref,x_120.Strong⟩:GColumn)).set (0 + i_94.toNat) (⟨r_117,w64 (k_93 + 1),w64 ((w64 (k_93 + 1)) + 1),w64 ((w64 ((w64 (k_93 + 1)) + 1)) + 1),w64 ((w64 ((w64 ((w64 (k_93 + 1)) + 1)) + 1)) + 1),x_120.High,x_120.Ref,x_120.Strong⟩:GColumn)).set (0 + i_94.toNat) (⟨r_117,w64 (k_93 + 1),w64 ((w64 (k_93 + 1)) + 1),w64 ((w64 ((w64 (k_93 + 1)) + 1)) + 1),w64 ((w64 ((w64 ((w64 (k_93 + 1)) + 1)) + 1)) + 1),w64 ((w64 ((w64 ((w64 ((w64 (k_93 + 1)) + 1)) + 1)) + 1)) + 1),x_120.Ref,x_120.Strong⟩:GColumn)).set (0 + i_94.toNat) (⟨r_117,w64 (k_93 + 1),w64 ((w64 (k_93 + 1)) + 1),w64 ((w64 ((w64 (k_93 + 1)) + 1)) + 1),w64 ((w64 ((w64 ((w64 (k_93 + 1)) + 1)) + 1)) + 1),w64 ((w64 ((w64 ((w64 ((w64 (k_93 + 1)) + 1)) + 1)) + 1)) + 1),r_127,x_120.Strong⟩:GColumn)).set (0 + i_94.toNat) (⟨r_117,w64 (k_93 + 1),w64 ((w64 (k_93 + 1)) + 1),w64 ((w64 ((w64 (k_93 + 1)) + 1)) + 1),w64 ((w64 ((w64 ((w64 (k_93 + 1)) + 1)) + 1)) + 1),w64 ((w64 ((w64 ((w64 ((w64 (k_93 + 1)) + 1)) + 1)) + 1)) + 1),r_127,((w64 ((w64 ((w64 ((w64 ((w64 ((w64 ((w64 (k_93 + 1)) + 1)) + 1)) + 1)) + 1)) + 1)) + 1)).tmod 3 == 0)⟩:GColumn)),hc1⟩ (Nat.lt_succ_self _) ⟨[],[0],_,_,rfl,rfl,⟨.of_eq (congrArg (AV.own _ 0) (by simp)),⟨.refl _,⟨.refl _,trivial⟩⟩⟩,(.refl _)⟩
   ·refine w_condf rfl (bf c116)<|w_exit<|k_seqx<|k_loopx<|k_blkx<|?_;obtain rfl:=os hc1;exact ⟨[],[0],_,_,rfl,rfl,⟨.refl _,trivial⟩,(.refl _)⟩
 ·obtain ⟨k_112,l_113⟩:=p114
  refine sr<|s_mov (.int .i64 k_112) rfl<|s_mov (.int .i64 k_112) rfl<|dk<|w_ret<|?_;obtain rfl:=os hf;exact r_heap [] [0] rfl ⟨.of trivial trivial,trivial⟩ rfl (.refl _) (.refl _)

/- laws.markIntS -/
def c126_h0:ACode :=
 (.seq (.reg (tm 4 (.c (.int .i64 0)) .done))
 (.seq (.seq (.reg (tm 5 (.c (.int .i64 0)) .done))
 (.block 0 (.loop (.seq (.seq (.reg (tm 6 (.t 5) (tm 7 (.t 0) (tq 8 (.len (.t 7)) (tq 9 (.bin .lss (.t 6) (.t 8)) .done)))))
 (.cond (.t 9) .skip
 (.exit 0)))
 (.seq (.block 1 (.seq (.reg (tm 12 (.t 0) (tm 13 (.t 5) (tm 14 (.t 1) (tq 15 (.iaddr 1 (.t 12) (.t 13)) (.q ⟨none,none,.store 1 (.t 15) (.t 14)⟩
 .done))))))
 (.reg (tm 16 (.t 1) (tq 17 (.bin .add (.t 16) (.c (.int .i64 1))) (tm 1 (.t 17) .done))))))
 (.reg (tm 10 (.t 5) (tq 11 (.bin .add (.t 10) (.c (.int .i64 1))) (tm 5 (.t 11) .done)))))))))
 (.cut (.seq (.reg (tm 18 (.t 1) (tm 4 (.t 18) .done)))
 .ret))))
theorem fc126_h0:fcomp Try.prog Try.f126 = some (c126_h0.erase,[.mov (.t 4)],19):=by kernel_rfl
def laws_markIntS_L1 :Nat → Int → Int → (List Int) → Option (Int × (List Int))
  | 0,_,_,_ => none
  | k + 1,k_38,i_39,a_40 =>
    if (decide (i_39 < (a_40.length:Int))) then
    if 0 ≤ i_39 ∧ i_39 < (a_40.length:Int) then
    (a_40[(0 + i_39.toNat)]?).bind fun x_52 =>
    laws_markIntS_L1 k (w64 (k_38 + 1)) (w64 (i_39 + 1)) (a_40.set (0 + i_39.toNat) k_38)
    else none
    else
    some (k_38,a_40)

def laws_markIntS (a_1:(List Int)) (k_2:Int):Option (Int × (List Int)) :=
    (laws_markIntS_L1 FUEL k_2 0 a_1).bind fun p48 =>
    (match p48 with
    | (k_46,l_47) =>
    some (k_46,l_47))
theorem w_laws_markIntS (a_1:(List Int)) (k_2:Int) (r:(Int × (List Int))) (hf:laws_markIntS a_1 k_2 = some r):CallHeap Try.prog ⟨true,true⟩ 126 [(.own 0 0 a_1.length),(.int .i64 k_2)] [.row 1 (a_1.map encI)] (.int .i64 r.1) [.row 1 (r.2.map encI)]:=by
 refine CallHeap.of_awp mixed Try.func126 fc126_h0 nle ?_;rw [argT_eq];unfold laws_markIntS at hf;unfold c126_h0;refine (show awp Try.prog ⟨true,true⟩ 1 _ (ofL [(0,(.own 0 0 a_1.length)),(1,(.int .i64 k_2))]) [.row 1 (a_1.map encI)] _ from ?_);refine sr<|s_mov (.int .i64 0) rfl<|dk<|awp_seq<|sr<|s_mov (.int .i64 0) rfl<|dk<|?_
 obtain ⟨p48,hb1,hf⟩:=ob hf
 refine awp_cut ([(1,(.int .i64 p48.1))],[.row 1 (p48.2.map encI)]) ?_ ?_
 ·refine awp_loop (X:={q:(Nat × Int × Int × (List Int)) // laws_markIntS_L1 q.1 q.2.1 q.2.2.1 q.2.2.2 = some p48}) (fun q => ([(0,(.own 0 0 q.1.2.2.2.length)),(1,(.int .i64 q.1.2.1)),(5,(.int .i64 q.1.2.2.1))],[.row 1 (q.1.2.2.2.map encI)])) (fun q => q.1.1) ⟨(FUEL,k_2,0,a_1),hb1⟩ ⟨[],[0],_,_,rfl,rfl,⟨.refl _,⟨.refl _,⟨.refl _,trivial⟩⟩⟩,(.refl _)⟩ ?_
  rintro ⟨⟨k,k_38,i_39,a_40⟩,hc1⟩
  have hc1:laws_markIntS_L1 k k_38 i_39 a_40 = some p48:=hc1
  refine (show awp Try.prog ⟨true,true⟩ 1 _ (ofL [(0,(.own 0 0 a_40.length)),(1,(.int .i64 k_38)),(5,(.int .i64 i_39))]) [.row 1 (a_40.map encI)] _ from ?_)
  rcases k with _ | k
  ·rw [laws_markIntS_L1.eq_1] at hc1
   cases hc1
  ·rw [laws_markIntS_L1.eq_2] at hc1;refine awp_seq<|sr<|s_mov (.int .i64 i_39) rfl<|s_mov (.own 0 0 a_40.length) rfl<|s_dof (o_lenown rfl rfl) fun hl49 => s_q (.bool (decide (i_39 < (a_40.length:Int)))) rfl (.of rfl trivial) rfl<|dk<|?_
   rcases oi hc1 with ⟨c50,hc1⟩ | ⟨c50,hc1⟩
   ·refine w_condt rfl c50<|w_skip<|k_seq<|awp_seq<|w_blk<|sr<|?_
    obtain ⟨g51,hc1⟩:=og hc1
    obtain ⟨x_52,ex53,hc1⟩:=ob hc1
    refine s_mov (.own 0 0 a_40.length) rfl<|s_mov (.int .i64 i_39) rfl<|s_mov (.int .i64 k_38) rfl<|s_do (o_iaddrown rfl rfl g51.1 g51.2 rfl rfl)<|?_;refine s_do0 (o_storerow (v':=(.int .i64 k_38)) (e':=k_38) rfl rfl ex53 rfl rfl rfl (by decide) (fun _ => by decide) ⟨rfl,rfl,rfl⟩ (.refl _) rfl) ?_;refine dk<|w_reg<|s_mov (.int .i64 k_38) rfl<|s_q (.int .i64 (w64 (k_38 + 1))) rfl (.of rfl trivial) rfl<|s_mov (.int .i64 (w64 (k_38 + 1))) rfl<|w_done<|k_blk<|k_seq<|w_reg<|s_mov (.int .i64 i_39) rfl<|s_q (.int .i64 (w64 (i_39 + 1))) rfl (.of rfl trivial) rfl<|s_mov (.int .i64 (w64 (i_39 + 1))) rfl<|w_done<|?_;exact k_loopn ⟨(k,w64 (k_38 + 1),w64 (i_39 + 1),a_40.set (0 + i_39.toNat) k_38),hc1⟩ (Nat.lt_succ_self _) ⟨[],[0],_,_,rfl,rfl,⟨.of_eq (congrArg (AV.own _ 0) (by simp)),⟨.refl _,⟨.refl _,trivial⟩⟩⟩,(.refl _)⟩
   ·refine w_condf rfl (bf c50)<|w_exit<|k_seqx<|k_loopx<|k_blkx<|?_;obtain rfl:=os hc1;exact ⟨[],[0],_,_,rfl,rfl,⟨.refl _,trivial⟩,(.refl _)⟩
 ·obtain ⟨k_46,l_47⟩:=p48
  refine sr<|s_mov (.int .i64 k_46) rfl<|s_mov (.int .i64 k_46) rfl<|dk<|w_ret<|?_;obtain rfl:=os hf;exact r_heap [] [0] rfl ⟨.of trivial trivial,trivial⟩ rfl (.refl _) (.refl _)

/- laws.markTable -/
def c46_h0:ACode :=
 (.seq (.reg (tq 2 (.box 4 (.t 0)) (tm 4 (.c (.int .i64 0)) .done)))
 (.seq (.reg (tq 5 (.faddr 1 (.t 2)) (tq 6 (.load 1 false (.t 5)) (tm 7 (.t 1) (tq 8 (.call 125 [(.t 6),(.t 7)]) (tm 1 (.t 8) .done))))))
 (.seq (.reg (tq 9 (.faddr 2 (.t 2)) (tq 10 (.load 1 false (.t 9)) (tm 11 (.t 1) (tq 12 (.call 126 [(.t 10),(.t 11)]) (tm 1 (.t 12) .done))))))
 (.seq (.reg (tm 13 (.t 1) (tm 4 (.t 13) .done)))
 .ret))))
theorem fc46_h0:fcomp Try.prog Try.f46 = some (c46_h0.erase,[.mov (.t 4)],14):=by kernel_rfl
def laws_markTable (a_1:GTable) (k_2:Int):Option (Int × GTable) :=
    (laws_markColumnS a_1.Columns k_2).bind fun r_3 =>
    (laws_markIntS a_1.Unique r_3.1).bind fun r_6 =>
    some (r_6.1,(⟨a_1.Name,r_3.2,r_6.2,a_1.Root⟩:GTable))
theorem w_laws_markTable (a_1:GTable) (k_2:Int) (r:(Int × GTable)) (hf:laws_markTable a_1 k_2 = some r):CallHeap Try.prog ⟨true,true⟩ 46 [(.agg [(.str a_1.Name),(.own 0 0 a_1.Columns.length),(.own 1 0 a_1.Unique.length),(.bool a_1.Root)]),(.int .i64 k_2)] [.row 8 (a_1.Columns.map encGColumn),.row 1 (a_1.Unique.map encI)] (.int .i64 r.1) [.row 8 (r.2.Columns.map encGColumn),.row 1 (r.2.Unique.map encI)]:=by
 refine CallHeap.of_awp mixed Try.func46 fc46_h0 nle ?_;rw [argT_eq];unfold laws_markTable at hf;unfold c46_h0;refine (show awp Try.prog ⟨true,true⟩ 2 _ (ofL [(0,(.agg [(.str a_1.Name),(.own 0 0 a_1.Columns.length),(.own 1 0 a_1.Unique.length),(.bool a_1.Root)])),(1,(.int .i64 k_2))]) [.row 8 (a_1.Columns.map encGColumn),.row 1 (a_1.Unique.map encI)] _ from ?_);refine sr<|s_do (o_box (j:=2) (c:=(.agg [(.str a_1.Name),(.own 0 0 a_1.Columns.length),(.own 1 0 a_1.Unique.length),(.bool a_1.Root)])) rfl trivial rfl rfl)<|s_mov (.int .i64 0) rfl<|dk<|sr<|?_
 obtain ⟨r_3,er4,hf⟩:=ob hf
 refine s_q (.ptr 2 0 1) rfl (.of trivial trivial) rfl<|s_q (.own 0 0 a_1.Columns.length) rfl (.of nle trivial) rfl<|s_mov (.int .i64 k_2) rfl<|?_;refine s_dof (o_callhs (v:=(.int .i64 r_3.1)) (h2:=[.row 8 (r_3.2.map encGColumn),.row 1 (a_1.Unique.map encI),.box 4 (.agg [(.str a_1.Name),(.own 0 0 a_1.Columns.length),(.own 1 0 a_1.Unique.length),(.bool a_1.Root)])]) [] [0] (fun _ => rfl) (w_laws_markColumnS _ _ _ er4) rfl (.refl _) (.refl _) rfl rfl) fun hl5 => ?_;refine s_mov (.int .i64 r_3.1) rfl<|dk<|sr<|?_
 obtain ⟨r_6,er7,hf⟩:=ob hf
 refine s_q (.ptr 2 0 2) rfl (.of trivial trivial) rfl<|s_q (.own 1 0 a_1.Unique.length) rfl (.of nle trivial) rfl<|s_mov (.int .i64 r_3.1) rfl<|?_;refine s_dof (o_callhs (v:=(.int .i64 r_6.1)) (h2:=[.row 8 (r_3.2.map encGColumn),.row 1 (r_6.2.map encI),.box 4 (.agg [(.str a_1.Name),(.own 0 0 a_1.Columns.length),(.own 1 0 a_1.Unique.length),(.bool a_1.Root)])]) [] [1] (fun _ => rfl) (w_laws_markIntS _ _ _ er7) rfl (.refl _) (.refl _) rfl rfl) fun hl8 => ?_;refine s_mov (.int .i64 r_6.1) rfl<|dk<|sr<|s_mov (.int .i64 r_6.1) rfl<|s_mov (.int .i64 r_6.1) rfl<|dk<|w_ret<|?_;obtain rfl:=os hf;exact r_heap [] [0,1] rfl ⟨.of trivial trivial,trivial⟩ rfl (.refl _) (.refl _)

/- laws.markAtomS -/
def c66_h0:ACode :=
 (.seq (.reg (tm 4 (.c (.int .i64 0)) .done))
 (.seq (.seq (.reg (tm 5 (.c (.int .i64 0)) .done))
 (.block 0 (.loop (.seq (.seq (.reg (tm 6 (.t 5) (tm 7 (.t 0) (tq 8 (.len (.t 7)) (tq 9 (.bin .lss (.t 6) (.t 8)) .done)))))
 (.cond (.t 9) .skip
 (.exit 0)))
 (.seq (.block 1 (.seq (.reg (tm 12 (.t 0) (tm 13 (.t 5) (tm 14 (.t 1) (tq 15 (.iaddr 3 (.t 12) (.t 13)) (tq 16 (.faddr 0 (.t 15)) (.q ⟨none,none,.store 1 (.t 16) (.t 14)⟩
 .done)))))))
 (.seq (.reg (tm 17 (.t 1) (tq 18 (.bin .add (.t 17) (.c (.int .i64 1))) (tm 1 (.t 18) .done))))
 (.seq (.reg (tm 19 (.t 0) (tm 20 (.t 5) (tm 21 (.t 1) (tq 22 (.iaddr 3 (.t 19) (.t 20)) (tq 23 (.faddr 1 (.t 22)) (.q ⟨none,none,.store 1 (.t 23) (.t 21)⟩
 .done)))))))
 (.seq (.reg (tm 24 (.t 1) (tq 25 (.bin .add (.t 24) (.c (.int .i64 1))) (tm 1 (.t 25) .done))))
 (.seq (.reg (tm 26 (.t 0) (tm 27 (.t 5) (tm 28 (.t 1) (tq 29 (.call 128 [(.t 28)]) (tq 30 (.iaddr 3 (.t 26) (.t 27)) (tq 31 (.faddr 2 (.t 30)) (.q ⟨none,none,.store 1 (.t 31) (.t 29)⟩
 .done))))))))
 (.reg (tm 32 (.t 1) (tq 33 (.bin .add (.t 32) (.c (.int .i64 1))) (tm 1 (.t 33) .done))))))))))
 (.reg (tm 10 (.t 5) (tq 11 (.bin .add (.t 10) (.c (.int .i64 1))) (tm 5 (.t 11) .done)))))))))
 (.cut (.seq (.reg (tm 34 (.t 1) (tm 4 (.t 34) .done)))
 .ret))))
theorem fc66_h0:fcomp Try.prog Try.f66 = some (c66_h0.erase,[.mov (.t 4)],35):=by kernel_rfl
def laws_markAtomS_L1 :Nat → Int → Int → (List GAtom) → Option (Int × (List GAtom))
  | 0,_,_,_ => none
  | k + 1,k_58,i_59,a_60 =>
    if (decide (i_59 < (a_60.length:Int))) then
    if 0 ≤ i_59 ∧ i_59 < (a_60.length:Int) then
    (a_60[(0 + i_59.toNat)]?).bind fun x_76 =>
    if 0 ≤ i_59 ∧ i_59 < (a_60.length:Int) then
    (laws_markText (w64 ((w64 (k_58 + 1)) + 1))).bind fun r_79 =>
    if 0 ≤ i_59 ∧ i_59 < (a_60.length:Int) then
    laws_markAtomS_L1 k (w64 ((w64 ((w64 (k_58 + 1)) + 1)) + 1)) (w64 (i_59 + 1)) (((a_60.set (0 + i_59.toNat) (⟨k_58,x_76.N,x_76.T⟩:GAtom)).set (0 + i_59.toNat) (⟨k_58,w64 (k_58 + 1),x_76.T⟩:GAtom)).set (0 + i_59.toNat) (⟨k_58,w64 (k_58 + 1),r_79⟩:GAtom))
    else none
    else none
    else none
    else
    some (k_58,a_60)

def laws_markAtomS (a_1:(List GAtom)) (k_2:Int):Option (Int × (List GAtom)) :=
    (laws_markAtomS_L1 FUEL k_2 0 a_1).bind fun p72 =>
    (match p72 with
    | (k_70,l_71) =>
    some (k_70,l_71))
theorem w_laws_markAtomS (a_1:(List GAtom)) (k_2:Int) (r:(Int × (List GAtom))) (hf:laws_markAtomS a_1 k_2 = some r):CallHeap Try.prog ⟨true,true⟩ 66 [(.own 0 0 a_1.length),(.int .i64 k_2)] [.row 3 (a_1.map encGAtom)] (.int .i64 r.1) [.row 3 (r.2.map encGAtom)]:=by
 refine CallHeap.of_awp mixed Try.func66 fc66_h0 nle ?_;rw [argT_eq];unfold laws_markAtomS at hf;unfold c66_h0;refine (show awp Try.prog ⟨true,true⟩ 1 _ (ofL [(0,(.own 0 0 a_1.length)),(1,(.int .i64 k_2))]) [.row 3 (a_1.map encGAtom)] _ from ?_);refine sr<|s_mov (.int .i64 0) rfl<|dk<|awp_seq<|sr<|s_mov (.int .i64 0) rfl<|dk<|?_
 obtain ⟨p72,hb1,hf⟩:=ob hf
 refine awp_cut ([(1,(.int .i64 p72.1))],[.row 3 (p72.2.map encGAtom)]) ?_ ?_
 ·refine awp_loop (X:={q:(Nat × Int × Int × (List GAtom)) // laws_markAtomS_L1 q.1 q.2.1 q.2.2.1 q.2.2.2 = some p72}) (fun q => ([(0,(.own 0 0 q.1.2.2.2.length)),(1,(.int .i64 q.1.2.1)),(5,(.int .i64 q.1.2.2.1))],[.row 3 (q.1.2.2.2.map encGAtom)])) (fun q => q.1.1) ⟨(FUEL,k_2,0,a_1),hb1⟩ ⟨[],[0],_,_,rfl,rfl,⟨.refl _,⟨.refl _,⟨.refl _,trivial⟩⟩⟩,(.refl _)⟩ ?_
  rintro ⟨⟨k,k_58,i_59,a_60⟩,hc1⟩
  have hc1:laws_markAtomS_L1 k k_58 i_59 a_60 = some p72:=hc1
  refine (show awp Try.prog ⟨true,true⟩ 1 _ (ofL [(0,(.own 0 0 a_60.length)),(1,(.int .i64 k_58)),(5,(.int .i64 i_59))]) [.row 3 (a_60.map encGAtom)] _ from ?_)
  rcases k with _ | k
  ·rw [laws_markAtomS_L1.eq_1] at hc1
   cases hc1
  ·rw [laws_markAtomS_L1.eq_2] at hc1;refine awp_seq<|sr<|s_mov (.int .i64 i_59) rfl<|s_mov (.own 0 0 a_60.length) rfl<|s_dof (o_lenown rfl rfl) fun hl73 => s_q (.bool (decide (i_59 < (a_60.length:Int)))) rfl (.of rfl trivial) rfl<|dk<|?_
   rcases oi hc1 with ⟨c74,hc1⟩ | ⟨c74,hc1⟩
   ·refine w_condt rfl c74<|w_skip<|k_seq<|awp_seq<|w_blk<|sr<|?_
    obtain ⟨g75,hc1⟩:=og hc1
    obtain ⟨x_76,ex77,hc1⟩:=ob hc1
    refine s_mov (.own 0 0 a_60.length) rfl<|s_mov (.int .i64 i_59) rfl<|s_mov (.int .i64 k_58) rfl<|s_do (o_iaddrown rfl rfl g75.1 g75.2 rfl rfl)<|s_q (.ptr 0 (0 + i_59.toNat) 0) rfl (.of trivial trivial) rfl<|?_;refine s_do0 (o_storerow (v':=(.int .i64 k_58)) (e':=(⟨k_58,x_76.N,x_76.T⟩:GAtom)) rfl rfl ex77 rfl rfl rfl (by decide) (fun _ => by decide) ⟨rfl,nle⟩ (.refl _) rfl) ?_;refine dk<|sr<|s_mov (.int .i64 k_58) rfl<|s_q (.int .i64 (w64 (k_58 + 1))) rfl (.of rfl trivial) rfl<|s_mov (.int .i64 (w64 (k_58 + 1))) rfl<|dk<|sr<|?_
    obtain ⟨g78,hc1⟩:=og hc1
    refine s_mov (.own 0 0 a_60.length) rfl<|s_mov (.int .i64 i_59) rfl<|s_mov (.int .i64 (w64 (k_58 + 1))) rfl<|s_do (o_iaddrown rfl rfl g78.1 g78.2 rfl rfl)<|s_q (.ptr 0 (0 + i_59.toNat) 1) rfl (.of trivial trivial) rfl<|?_;refine s_do0 (o_storerow (v':=(.int .i64 (w64 (k_58 + 1)))) (e':=(⟨k_58,w64 (k_58 + 1),x_76.T⟩:GAtom)) rfl rfl (setget ex77) rfl rfl rfl (by decide) (fun _ => by decide) ⟨rfl,nle⟩ (.refl _) rfl) ?_;refine dk<|sr<|s_mov (.int .i64 (w64 (k_58 + 1))) rfl<|s_q (.int .i64 (w64 ((w64 (k_58 + 1)) + 1))) rfl (.of rfl trivial) rfl<|s_mov (.int .i64 (w64 ((w64 (k_58 + 1)) + 1))) rfl<|dk<|sr<|?_
    obtain ⟨r_79,er80,hc1⟩:=ob hc1
    obtain ⟨g81,hc1⟩:=og hc1
    refine s_mov (.own 0 0 a_60.length) rfl<|s_mov (.int .i64 i_59) rfl<|s_mov (.int .i64 (w64 ((w64 (k_58 + 1)) + 1))) rfl<|s_do (o_call (w_laws_markText _ _ er80) rfl (.refl _) rfl)<|s_do (o_iaddrown rfl rfl g81.1 g81.2 rfl rfl)<|s_q (.ptr 0 (0 + i_59.toNat) 2) rfl (.of trivial trivial) rfl<|?_;refine s_do0 (o_storerow (v':=(.str r_79)) (e':=(⟨k_58,w64 (k_58 + 1),r_79⟩:GAtom)) rfl rfl (setget (setget ex77)) rfl rfl rfl (by decide) (fun _ => by decide) ⟨rfl,nle⟩ (.refl _) rfl) ?_;refine dk<|w_reg<|s_mov (.int .i64 (w64 ((w64 (k_58 + 1)) + 1))) rfl<|s_q (.int .i64 (w64 ((w64 ((w64 (k_58 + 1)) + 1)) + 1))) rfl (.of rfl trivial) rfl<|s_mov (.int .i64 (w64 ((w64 ((w64 (k_58 + 1)) + 1)) + 1))) rfl<|?_
    refine w_done<|k_blk<|k_seq<|w_reg<|s_mov (.int .i64 i_59) rfl<|s_q (.int .i64 (w64 (i_59 + 1))) rfl (.of rfl trivial) rfl<|s_mov (.int .i64 (w64 (i_59 + 1))) rfl<|w_done<|?_;exact k_loopn ⟨(k,w64 ((w64 ((w64 (k_58 + 1)) + 1)) + 1),w64 (i_59 + 1),((a_60.set (0 + i_59.toNat) (⟨k_58,x_76.N,x_76.T⟩:GAtom)).set (0 + i_59.toNat) (⟨k_58,w64 (k_58 + 1),x_76.T⟩:GAtom)).set (0 + i_59.toNat) (⟨k_58,w64 (k_58 + 1),r_79⟩:GAtom)),hc1⟩ (Nat.lt_succ_self _) ⟨[],[0],_,_,rfl,rfl,⟨.of_eq (congrArg (AV.own _ 0) (by simp)),⟨.refl _,⟨.refl _,trivial⟩⟩⟩,(.refl _)⟩
   ·refine w_condf rfl (bf c74)<|w_exit<|k_seqx<|k_loopx<|k_blkx<|?_;obtain rfl:=os hc1;exact ⟨[],[0],_,_,rfl,rfl,⟨.refl _,trivial⟩,(.refl _)⟩
 ·obtain ⟨k_70,l_71⟩:=p72
  refine sr<|s_mov (.int .i64 k_70) rfl<|s_mov (.int .i64 k_70) rfl<|dk<|w_ret<|?_;obtain rfl:=os hf;exact r_heap [] [0] rfl ⟨.of trivial trivial,trivial⟩ rfl (.refl _) (.refl _)

/- laws.markAtomSS -/
def c127_h0:ACode :=
 (.seq (.reg (tm 4 (.c (.int .i64 0)) .done))
 (.seq (.seq (.reg (tm 5 (.c (.int .i64 0)) .done))
 (.block 0 (.loop (.seq (.seq (.reg (tm 6 (.t 5) (tm 7 (.t 0) (tq 8 (.len (.t 7)) (tq 9 (.bin .lss (.t 6) (.t 8)) .done)))))
 (.cond (.t 9) .skip
 (.exit 0)))
 (.seq (.block 1 (.rev (.reg (tm 12 (.t 0) (tm 13 (.t 5) (tq 14 (.iaddr 1 (.t 12) (.t 13)) (tq 15 (.load 1 false (.t 14)) (tm 16 (.t 1) (tq 17 (.call 66 [(.t 15),(.t 16)]) (tm 1 (.t 17) .done))))))))))
 (.reg (tm 10 (.t 5) (tq 11 (.bin .add (.t 10) (.c (.int .i64 1))) (tm 5 (.t 11) .done)))))))))
 (.cut (.seq (.reg (tm 18 (.t 1) (tm 4 (.t 18) .done)))
 .ret))))
theorem fc127_h0:fcomp Try.prog Try.f127 = some (c127_h0.erase,[.mov (.t 4)],19):=by kernel_rfl
def laws_markAtomSS_L1 :Nat → Int → Int → (List (List GAtom)) → Option (Int × (List (List GAtom)))
  | 0,_,_,_ => none
  | k + 1,k_58,i_59,a_60 =>
    if (decide (i_59 < (a_60.length:Int))) then
    ((a_60[(0 + i_59.toNat)]?)).bind fun x_76 =>
    if 0 ≤ i_59 ∧ i_59 < (a_60.length:Int) then
    (laws_markAtomS x_76 k_58).bind fun r_80 =>
    laws_markAtomSS_L1 k r_80.1 (w64 (i_59 + 1)) (a_60.set (0 + i_59.toNat) r_80.2)
    else none
    else
    some (k_58,a_60)

def laws_markAtomSS (a_1:(List (List GAtom))) (k_2:Int):Option (Int × (List (List GAtom))) :=
    (laws_markAtomSS_L1 FUEL k_2 0 a_1).bind fun p72 =>
    (match p72 with
    | (k_70,l_71) =>
    some (k_70,l_71))
theorem w_laws_markAtomSS (a_1:(List (List GAtom))) (k_2:Int) (r:(Int × (List (List GAtom)))) (hf:laws_markAtomSS a_1 k_2 = some r):CallHeap Try.prog ⟨true,true⟩ 127 [(.own 0 0 a_1.length),(.int .i64 k_2)] [.row 1 (a_1.map (encL 3 encGAtom))] (.int .i64 r.1) [.row 1 (r.2.map (encL 3 encGAtom))]:=by
 refine CallHeap.of_awp mixed Try.func127 fc127_h0 nle ?_;rw [argT_eq];unfold laws_markAtomSS at hf;unfold c127_h0;refine (show awp Try.prog ⟨true,true⟩ 1 _ (ofL [(0,(.own 0 0 a_1.length)),(1,(.int .i64 k_2))]) [.row 1 (a_1.map (encL 3 encGAtom))] _ from ?_);refine sr<|s_mov (.int .i64 0) rfl<|dk<|awp_seq<|sr<|s_mov (.int .i64 0) rfl<|dk<|?_
 obtain ⟨p72,hb1,hf⟩:=ob hf
 refine awp_cut ([(1,(.int .i64 p72.1))],[.row 1 (p72.2.map (encL 3 encGAtom))]) ?_ ?_
 ·refine awp_loop (X:={q:(Nat × Int × Int × (List (List GAtom))) // laws_markAtomSS_L1 q.1 q.2.1 q.2.2.1 q.2.2.2 = some p72}) (fun q => ([(0,(.own 0 0 q.1.2.2.2.length)),(1,(.int .i64 q.1.2.1)),(5,(.int .i64 q.1.2.2.1))],[.row 1 (q.1.2.2.2.map (encL 3 encGAtom))])) (fun q => q.1.1) ⟨(FUEL,k_2,0,a_1),hb1⟩ ⟨[],[0],_,_,rfl,rfl,⟨.refl _,⟨.refl _,⟨.refl _,trivial⟩⟩⟩,(.refl _)⟩ ?_
  rintro ⟨⟨k,k_58,i_59,a_60⟩,hc1⟩
  have hc1:laws_markAtomSS_L1 k k_58 i_59 a_60 = some p72:=hc1
  refine (show awp Try.prog ⟨true,true⟩ 1 _ (ofL [(0,(.own 0 0 a_60.length)),(1,(.int .i64 k_58)),(5,(.int .i64 i_59))]) [.row 1 (a_60.map (encL 3 encGAtom))] _ from ?_)
  rcases k with _ | k
  ·rw [laws_markAtomSS_L1.eq_1] at hc1
   cases hc1
  ·rw [laws_markAtomSS_L1.eq_2] at hc1;refine awp_seq<|sr<|s_mov (.int .i64 i_59) rfl<|s_mov (.own 0 0 a_60.length) rfl<|s_dof (o_lenown rfl rfl) fun hl73 => s_q (.bool (decide (i_59 < (a_60.length:Int)))) rfl (.of rfl trivial) rfl<|dk<|?_
   rcases oi hc1 with ⟨c74,hc1⟩ | ⟨c74,hc1⟩
   ·refine w_condt rfl c74<|w_skip<|k_seq<|awp_seq<|w_blk<|?_
    obtain ⟨x_76,ex77,hc1⟩:=ob hc1
    refine w_rev (o:=0) (f:=0) (l':=x_76) (enc':=encGAtom) (el:=(.lst 3 (x_76.map encGAtom))) rfl ex77 rfl rfl fun v_78 => ?_;refine w_reg ?_
    obtain ⟨g79,hc1⟩:=og hc1
    obtain ⟨r_80,er81,hc1⟩:=ob hc1
    refine s_mov (.own 0 0 a_60.length) rfl<|s_mov (.int .i64 i_59) rfl<|s_do (o_iaddrown rfl rfl g79.1 g79.2 rfl rfl)<|s_do (o_loadhdr rfl rfl (getset ex77) ⟨rfl,rfl⟩ rfl)<|s_mov (.int .i64 k_58) rfl<|s_do (o_callm (o:=0) (l:=a_60) (enc:=(encL 3 encGAtom)) (enc':=encGAtom) (l'':=r_80.2) (y:=r_80.2) (j:=0) (el:=(.hdr v_78 3 (x_76.map encGAtom))) rfl rfl (w_laws_markAtomS _ _ _ er81) rfl rfl ex77 rfl (by decide) rfl)<|s_mov (.int .i64 r_80.1) rfl<|w_done<|k_blk<|k_seq<|w_reg<|s_mov (.int .i64 i_59) rfl<|s_q (.int .i64 (w64 (i_59 + 1))) rfl (.of rfl trivial) rfl<|s_mov (.int .i64 (w64 (i_59 + 1))) rfl<|w_done<|?_;exact k_loopn ⟨(k,r_80.1,w64 (i_59 + 1),a_60.set (0 + i_59.toNat) r_80.2),hc1⟩ (Nat.lt_succ_self _) ⟨[],[0],_,_,rfl,rfl,⟨.of_eq (congrArg (AV.own _ 0) (by simp)),⟨.refl _,⟨.refl _,trivial⟩⟩⟩,(.refl _)⟩
   ·refine w_condf rfl (bf c74)<|w_exit<|k_seqx<|k_loopx<|k_blkx<|?_;obtain rfl:=os hc1;exact ⟨[],[0],_,_,rfl,rfl,⟨.refl _,trivial⟩,(.refl _)⟩
 ·obtain ⟨k_70,l_71⟩:=p72
  refine sr<|s_mov (.int .i64 k_70) rfl<|s_mov (.int .i64 k_70) rfl<|dk<|w_ret<|?_;obtain rfl:=os hf;exact r_heap [] [0] rfl ⟨.of trivial trivial,trivial⟩ rfl (.refl _) (.refl _)

/- laws.markRow -/
def c47_h0:ACode :=
 (.seq (.reg (tq 2 (.box 2 (.t 0)) (tm 4 (.c (.int .i64 0)) .done)))
 (.seq (.reg (tq 5 (.faddr 1 (.t 2)) (tq 6 (.load 1 false (.t 5)) (tm 7 (.t 1) (tq 8 (.call 127 [(.t 6),(.t 7)]) (tm 1 (.t 8) .done))))))
 (.seq (.reg (tm 9 (.t 1) (tm 4 (.t 9) .done)))
 .ret)))
theorem fc47_h0:fcomp Try.prog Try.f47 = some (c47_h0.erase,[.mov (.t 4)],10):=by kernel_rfl
def laws_markRow (a_1:GRow) (k_2:Int):Option (Int × GRow) :=
    (laws_markAtomSS a_1.Cells k_2).bind fun r_3 =>
    some (r_3.1,(⟨a_1.Id,r_3.2⟩:GRow))
theorem w_laws_markRow (a_1:GRow) (k_2:Int) (r:(Int × GRow)) (hf:laws_markRow a_1 k_2 = some r):CallHeap Try.prog ⟨true,true⟩ 47 [(.agg [(.int .i64 a_1.Id),(.own 0 0 a_1.Cells.length)]),(.int .i64 k_2)] [.row 1 (a_1.Cells.map (encL 3 encGAtom))] (.int .i64 r.1) [.row 1 (r.2.Cells.map (encL 3 encGAtom))]:=by
 refine CallHeap.of_awp mixed Try.func47 fc47_h0 nle ?_;rw [argT_eq];unfold laws_markRow at hf;unfold c47_h0;refine (show awp Try.prog ⟨true,true⟩ 1 _ (ofL [(0,(.agg [(.int .i64 a_1.Id),(.own 0 0 a_1.Cells.length)])),(1,(.int .i64 k_2))]) [.row 1 (a_1.Cells.map (encL 3 encGAtom))] _ from ?_);refine sr<|s_do (o_box (j:=1) (c:=(.agg [(.int .i64 a_1.Id),(.own 0 0 a_1.Cells.length)])) rfl trivial rfl rfl)<|s_mov (.int .i64 0) rfl<|dk<|sr<|?_
 obtain ⟨r_3,er4,hf⟩:=ob hf
 refine s_q (.ptr 1 0 1) rfl (.of trivial trivial) rfl<|s_q (.own 0 0 a_1.Cells.length) rfl (.of nle trivial) rfl<|s_mov (.int .i64 k_2) rfl<|?_;refine s_dof (o_callhs (v:=(.int .i64 r_3.1)) (h2:=[.row 1 (r_3.2.map (encL 3 encGAtom)),.box 2 (.agg [(.int .i64 a_1.Id),(.own 0 0 a_1.Cells.length)])]) [] [0] (fun _ => rfl) (w_laws_markAtomSS _ _ _ er4) rfl (.refl _) (.refl _) rfl rfl) fun hl5 => ?_;refine s_mov (.int .i64 r_3.1) rfl<|dk<|sr<|s_mov (.int .i64 r_3.1) rfl<|s_mov (.int .i64 r_3.1) rfl<|dk<|w_ret<|?_;obtain rfl:=os hf;exact r_heap [] [0] rfl ⟨.of trivial trivial,trivial⟩ rfl (.refl _) (.refl _)

/- laws.markStringS -/
def c48_h0:ACode :=
 (.seq (.reg (tm 4 (.c (.int .i64 0)) .done))
 (.seq (.seq (.reg (tm 5 (.c (.int .i64 0)) .done))
 (.block 0 (.loop (.seq (.seq (.reg (tm 6 (.t 5) (tm 7 (.t 0) (tq 8 (.len (.t 7)) (tq 9 (.bin .lss (.t 6) (.t 8)) .done)))))
 (.cond (.t 9) .skip
 (.exit 0)))
 (.seq (.block 1 (.seq (.reg (tm 12 (.t 0) (tm 13 (.t 5) (tm 14 (.t 1) (tq 15 (.call 128 [(.t 14)]) (tq 16 (.iaddr 1 (.t 12) (.t 13)) (.q ⟨none,none,.store 1 (.t 16) (.t 15)⟩
 .done)))))))
 (.reg (tm 17 (.t 1) (tq 18 (.bin .add (.t 17) (.c (.int .i64 1))) (tm 1 (.t 18) .done))))))
 (.reg (tm 10 (.t 5) (tq 11 (.bin .add (.t 10) (.c (.int .i64 1))) (tm 5 (.t 11) .done)))))))))
 (.cut (.seq (.reg (tm 19 (.t 1) (tm 4 (.t 19) .done)))
 .ret))))
theorem fc48_h0:fcomp Try.prog Try.f48 = some (c48_h0.erase,[.mov (.t 4)],20):=by kernel_rfl
def laws_markStringS_L1 :Nat → Int → Int → (List Str) → Option (Int × (List Str))
  | 0,_,_,_ => none
  | k + 1,k_48,i_49,a_50 =>
    if (decide (i_49 < (a_50.length:Int))) then
    (laws_markText k_48).bind fun r_63 =>
    if 0 ≤ i_49 ∧ i_49 < (a_50.length:Int) then
    (a_50[(0 + i_49.toNat)]?).bind fun x_66 =>
    laws_markStringS_L1 k (w64 (k_48 + 1)) (w64 (i_49 + 1)) (a_50.set (0 + i_49.toNat) r_63)
    else none
    else
    some (k_48,a_50)

def laws_markStringS (a_1:(List Str)) (k_2:Int):Option (Int × (List Str)) :=
    (laws_markStringS_L1 FUEL k_2 0 a_1).bind fun p60 =>
    (match p60 with
    | (k_58,l_59) =>
    some (k_58,l_59))
theorem w_laws_markStringS (a_1:(List Str)) (k_2:Int) (r:(Int × (List Str))) (hf:laws_markStringS a_1 k_2 = some r):CallHeap Try.prog ⟨true,true⟩ 48 [(.own 0 0 a_1.length),(.int .i64 k_2)] [.row 1 (a_1.map AV.str)] (.int .i64 r.1) [.row 1 (r.2.map AV.str)]:=by
 refine CallHeap.of_awp mixed Try.func48 fc48_h0 nle ?_;rw [argT_eq];unfold laws_markStringS at hf;unfold c48_h0;refine (show awp Try.prog ⟨true,true⟩ 1 _ (ofL [(0,(.own 0 0 a_1.length)),(1,(.int .i64 k_2))]) [.row 1 (a_1.map AV.str)] _ from ?_);refine sr<|s_mov (.int .i64 0) rfl<|dk<|awp_seq<|sr<|s_mov (.int .i64 0) rfl<|dk<|?_
 obtain ⟨p60,hb1,hf⟩:=ob hf
 refine awp_cut ([(1,(.int .i64 p60.1))],[.row 1 (p60.2.map AV.str)]) ?_ ?_
 ·refine awp_loop (X:={q:(Nat × Int × Int × (List Str)) // laws_markStringS_L1 q.1 q.2.1 q.2.2.1 q.2.2.2 = some p60}) (fun q => ([(0,(.own 0 0 q.1.2.2.2.length)),(1,(.int .i64 q.1.2.1)),(5,(.int .i64 q.1.2.2.1))],[.row 1 (q.1.2.2.2.map AV.str)])) (fun q => q.1.1) ⟨(FUEL,k_2,0,a_1),hb1⟩ ⟨[],[0],_,_,rfl,rfl,⟨.refl _,⟨.refl _,⟨.refl _,trivial⟩⟩⟩,(.refl _)⟩ ?_
  rintro ⟨⟨k,k_48,i_49,a_50⟩,hc1⟩
  have hc1:laws_markStringS_L1 k k_48 i_49 a_50 = some p60:=hc1
  refine (show awp Try.prog ⟨true,true⟩ 1 _ (ofL [(0,(.own 0 0 a_50.length)),(1,(.int .i64 k_48)),(5,(.int .i64 i_49))]) [.row 1 (a_50.map AV.str)] _ from ?_)
  rcases k with _ | k
  ·rw [laws_markStringS_L1.eq_1] at hc1
   cases hc1
  ·rw [laws_markStringS_L1.eq_2] at hc1;refine awp_seq<|sr<|s_mov (.int .i64 i_49) rfl<|s_mov (.own 0 0 a_50.length) rfl<|s_dof (o_lenown rfl rfl) fun hl61 => s_q (.bool (decide (i_49 < (a_50.length:Int)))) rfl (.of rfl trivial) rfl<|dk<|?_
   rcases oi hc1 with ⟨c62,hc1⟩ | ⟨c62,hc1⟩
   ·refine w_condt rfl c62<|w_skip<|k_seq<|awp_seq<|w_blk<|sr<|?_
    obtain ⟨r_63,er64,hc1⟩:=ob hc1
    obtain ⟨g65,hc1⟩:=og hc1
    obtain ⟨x_66,ex67,hc1⟩:=ob hc1
    refine s_mov (.own 0 0 a_50.length) rfl<|s_mov (.int .i64 i_49) rfl<|s_mov (.int .i64 k_48) rfl<|s_do (o_call (w_laws_markText _ _ er64) rfl (.refl _) rfl)<|s_do (o_iaddrown rfl rfl g65.1 g65.2 rfl rfl)<|?_;refine s_do0 (o_storerow (v':=(.str r_63)) (e':=r_63) rfl rfl ex67 rfl rfl rfl (by decide) (fun _ => by decide) ⟨rfl,rfl,rfl⟩ (.refl _) rfl) ?_;refine dk<|w_reg<|s_mov (.int .i64 k_48) rfl<|s_q (.int .i64 (w64 (k_48 + 1))) rfl (.of rfl trivial) rfl<|s_mov (.int .i64 (w64 (k_48 + 1))) rfl<|w_done<|k_blk<|k_seq<|w_reg<|s_mov (.int .i64 i_49) rfl<|s_q (.int .i64 (w64 (i_49 + 1))) rfl (.of rfl trivial) rfl<|s_mov (.int .i64 (w64 (i_49 + 1))) rfl<|w_done<|?_;exact k_loopn ⟨(k,w64 (k_48 + 1),w64 (i_49 + 1),a_50.set (0 + i_49.toNat) r_63),hc1⟩ (Nat.lt_succ_self _) ⟨[],[0],_,_,rfl,rfl,⟨.of_eq (congrArg (AV.own _ 0) (by simp)),⟨.refl _,⟨.refl _,trivial⟩⟩⟩,(.refl _)⟩
   ·refine w_condf rfl (bf c62)<|w_exit<|k_seqx<|k_loopx<|k_blkx<|?_;obtain rfl:=os hc1;exact ⟨[],[0],_,_,rfl,rfl,⟨.refl _,trivial⟩,(.refl _)⟩
 ·obtain ⟨k_58,l_59⟩:=p60
  refine sr<|s_mov (.int .i64 k_58) rfl<|s_mov (.int .i64 k_58) rfl<|dk<|w_ret<|?_;obtain rfl:=os hf;exact r_heap [] [0] rfl ⟨.of trivial trivial,trivial⟩ rfl (.refl _) (.refl _)

/- laws.heldAtomS -/
def c67:ACode :=
 (.seq (.reg (tm 4 (.c (.int .i64 0)) .done))
 (.seq (.seq (.reg (tm 5 (.c (.int .i64 0)) .done))
 (.block 0 (.loop (.seq (.seq (.reg (tm 6 (.t 5) (tm 7 (.t 0) (tq 8 (.len (.t 7)) (tq 9 (.bin .lss (.t 6) (.t 8)) .done)))))
 (.cond (.t 9) .skip
 (.exit 0)))
 (.seq (.block 1 (.seq (.seq (.reg (tm 12 (.t 0) (tm 13 (.t 5) (tq 14 (.iaddr 3 (.t 12) (.t 13)) (tq 15 (.faddr 0 (.t 14)) (tq 16 (.load 1 false (.t 15)) (tm 17 (.t 1) (tq 18 (.bin .neq (.t 16) (.t 17)) .done))))))))
 (.cond (.t 18) (.seq (.reg (tq 4 (.mov (.c (.int .i64 (-1)))) .done))
 .ret)
 .skip))
 (.seq (.reg (tm 19 (.t 1) (tq 20 (.bin .add (.t 19) (.c (.int .i64 1))) (tm 1 (.t 20) .done))))
 (.seq (.seq (.reg (tm 21 (.t 0) (tm 22 (.t 5) (tq 23 (.iaddr 3 (.t 21) (.t 22)) (tq 24 (.faddr 1 (.t 23)) (tq 25 (.load 1 false (.t 24)) (tm 26 (.t 1) (tq 27 (.bin .neq (.t 25) (.t 26)) .done))))))))
 (.cond (.t 27) (.seq (.reg (tq 4 (.mov (.c (.int .i64 (-1)))) .done))
 .ret)
 .skip))
 (.seq (.reg (tm 28 (.t 1) (tq 29 (.bin .add (.t 28) (.c (.int .i64 1))) (tm 1 (.t 29) .done))))
 (.seq (.seq (.reg (tm 30 (.t 0) (tm 31 (.t 5) (tq 32 (.iaddr 3 (.t 30) (.t 31)) (tq 33 (.faddr 2 (.t 32)) (tq 34 (.load 1 false (.t 33)) (tm 35 (.t 1) (.l ⟨(some 36),none,.call 128 [(.t 35)]⟩ [⟨(some 34),none,.load 1 false (.t 33)⟩,⟨(some 33),none,.faddr 2 (.t 32)⟩,⟨(some 32),none,.iaddr 3 (.t 30) (.t 31)⟩]
 (tq 37 (.bin .neq (.t 34) (.t 36)) .done) .non))))))))
 (.cond (.t 37) (.seq (.reg (tq 4 (.mov (.c (.int .i64 (-1)))) .done))
 .ret)
 .skip))
 (.reg (tm 38 (.t 1) (tq 39 (.bin .add (.t 38) (.c (.int .i64 1))) (tm 1 (.t 39) .done))))))))))
 (.reg (tm 10 (.t 5) (tq 11 (.bin .add (.t 10) (.c (.int .i64 1))) (tm 5 (.t 11) .done)))))))))
 (.cut (.seq (.reg (tm 40 (.t 1) (tm 4 (.t 40) .done)))
 .ret))))
theorem fc67:fcomp Try.prog Try.f67 = some (c67.erase,[.mov (.t 4)],41):=by kernel_rfl
def laws_heldAtomS_L1 :List GAtom → Int → Option (Fl Int Int)
  | [],k_31 =>
    some (.go k_31)
  | x_55 :: xs,k_31 =>
    if (x_55.Kind != k_31) then
    some (.ret (-1))
    else
    if (x_55.N != w64 (k_31 + 1)) then
    some (.ret (-1))
    else
    (laws_markText (w64 ((w64 (k_31 + 1)) + 1))).bind fun r_60 =>
    if (!(x_55.T == r_60)) then
    some (.ret (-1))
    else
    laws_heldAtomS_L1 xs (w64 ((w64 ((w64 (k_31 + 1)) + 1)) + 1)) 

def laws_heldAtomS (a_1:(List GAtom)) (k_2:Int):Option Int :=
    (laws_heldAtomS_L1 a_1 k_2).bind fun q => (match q with
    | .ret r => some r
    | .go k_47 =>
    some k_47)
theorem w_laws_heldAtomS (a_1:(List GAtom)) (k_2:Int) (r:Int) (hf:laws_heldAtomS a_1 k_2 = some r):CallOK Try.prog 67 .flat [(.lst 3 (a_1.map encGAtom)),(.int .i64 k_2)] (.int .i64 r):=by
 refine CallOK.of_awp mixed Try.func67 fc67 nle ?_;rw [argT_eq];unfold laws_heldAtomS at hf;unfold c67;refine (show awp Try.prog false 0 _ (ofL [(0,(.lst 3 (a_1.map encGAtom))),(1,(.int .i64 k_2))]) [] _ from ?_);refine sr<|s_mov (.int .i64 0) rfl<|dk<|awp_seq<|sr<|s_mov (.int .i64 0) rfl<|dk<|?_
 obtain ⟨p48,hb1,hf⟩:=ob hf
 refine awp_cutx (X:={q:Int // p48 = .go q}) (fun q => ([(1,(.int .i64 q.1))],[])) ?_ ?_
 ·refine awp_loop (X:={q:(Int × Nat) // laws_heldAtomS_L1 (a_1.drop q.2) q.1 = some p48}) (fun q => ([(0,(.lst 3 (a_1.map encGAtom))),(1,(.int .i64 q.1.1)),(5,(.int .i64 (q.1.2:Int)))],[])) (fun q => a_1.length - q.1.2) ⟨(k_2,0),hb1⟩ ⟨[],[],_,_,rfl,rfl,⟨.refl _,⟨.refl _,⟨.refl _,trivial⟩⟩⟩,(.refl _)⟩ ?_
  rintro ⟨⟨k_31,i_32⟩,hc1⟩
  have hc1:laws_heldAtomS_L1 (a_1.drop i_32) k_31 = some p48:=hc1
  refine (show awp Try.prog false 0 _ (ofL [(0,(.lst 3 (a_1.map encGAtom))),(1,(.int .i64 k_31)),(5,(.int .i64 (i_32:Int)))]) [] _ from ?_)
  rcases dropc a_1 i_32 with ⟨hie51,hd54⟩ | ⟨hlt49,x_55,hx50,hd54⟩
  ·rw [hd54,laws_heldAtomS_L1.eq_1] at hc1
   have hq53:=dlf hie51
   refine awp_seq<|sr<|s_mov (.int .i64 (i_32:Int)) rfl<|s_mov (.lst 3 (a_1.map encGAtom)) rfl<|s_dof (o_len (enc:=encGAtom) rfl) fun hl56 => s_q (.bool (decide ((i_32:Int) < (a_1.length:Int)))) rfl rfl rfl<|dk<|w_condf rfl hq53<|w_exit<|k_seqx<|k_loopx<|k_blkx<|?_;obtain rfl:=os hc1;exact k_cutn ⟨_,rfl⟩ ⟨[],[],_,_,rfl,rfl,⟨.refl _,trivial⟩,(.refl _)⟩
  ·rw [hd54,laws_heldAtomS_L1.eq_2] at hc1
   have hq53:=dlt hlt49
   refine awp_seq<|sr<|s_mov (.int .i64 (i_32:Int)) rfl<|s_mov (.lst 3 (a_1.map encGAtom)) rfl<|s_dof (o_len (enc:=encGAtom) rfl) fun hl57 => s_q (.bool (decide ((i_32:Int) < (a_1.length:Int)))) rfl rfl rfl<|dk<|w_condt rfl hq53<|w_skip<|k_seq<|awp_seq<|w_blk<|awp_seq<|sr<|s_mov (.lst 3 (a_1.map encGAtom)) rfl<|s_mov (.int .i64 (i_32:Int)) rfl<|s_do (o_iaddrn (enc:=encGAtom) rfl rfl hx50)<|s_q (.iptr (encGAtom x_55) 0) rfl trivial rfl<|s_q (.int .i64 x_55.Kind) rfl nle rfl<|s_mov (.int .i64 k_31) rfl<|s_q (.bool (x_55.Kind != k_31)) rfl rfl rfl<|dk<|?_
   rcases oi hc1 with ⟨c58,hc1⟩ | ⟨c58,hc1⟩
   ·refine w_condt rfl c58<|sr<|s_mov (.int .i64 (-1)) rfl<|dk<|w_ret<|?_;obtain rfl:=os hc1;obtain rfl:=os hf;exact r_flat ⟨trivial,trivial⟩ rfl (.refl _)
   ·refine w_condf rfl (bf c58)<|w_skip<|k_seq<|sr<|s_mov (.int .i64 k_31) rfl<|s_q (.int .i64 (w64 (k_31 + 1))) rfl rfl rfl<|s_mov (.int .i64 (w64 (k_31 + 1))) rfl<|dk<|awp_seq<|sr<|s_mov (.lst 3 (a_1.map encGAtom)) rfl<|s_mov (.int .i64 (i_32:Int)) rfl<|s_do (o_iaddrn (enc:=encGAtom) rfl rfl hx50)<|s_q (.iptr (encGAtom x_55) 1) rfl trivial rfl<|s_q (.int .i64 x_55.N) rfl nle rfl<|s_mov (.int .i64 (w64 (k_31 + 1))) rfl<|s_q (.bool (x_55.N != w64 (k_31 + 1))) rfl rfl rfl<|dk<|?_
    rcases oi hc1 with ⟨c59,hc1⟩ | ⟨c59,hc1⟩
    ·refine w_condt rfl c59<|sr<|s_mov (.int .i64 (-1)) rfl<|dk<|w_ret<|?_;obtain rfl:=os hc1;obtain rfl:=os hf;exact r_flat ⟨trivial,trivial⟩ rfl (.refl _)
    ·refine w_condf rfl (bf c59)<|w_skip<|k_seq<|sr<|s_mov (.int .i64 (w64 (k_31 + 1))) rfl<|s_q (.int .i64 (w64 ((w64 (k_31 + 1)) + 1))) rfl rfl rfl<|s_mov (.int .i64 (w64 ((w64 (k_31 + 1)) + 1))) rfl<|dk<|awp_seq<|sr<|?_
     obtain ⟨r_60,er61,hc1⟩:=ob hc1
     refine s_mov (.lst 3 (a_1.map encGAtom)) rfl<|s_mov (.int .i64 (i_32:Int)) rfl<|s_do (o_iaddrn (enc:=encGAtom) rfl rfl hx50)<|s_q (.iptr (encGAtom x_55) 2) rfl trivial rfl<|s_q (.str x_55.T) rfl nle rfl<|s_mov (.int .i64 (w64 ((w64 (k_31 + 1)) + 1))) rfl<|s_dol (o_call (w_laws_markText _ _ er61) rfl (.refl _) rfl) a_same trivial<|s_q (.bool (!(x_55.T == r_60))) rfl trivial rfl<|dk<|?_
     rcases oi hc1 with ⟨c62,hc1⟩ | ⟨c62,hc1⟩
     ·refine w_condt rfl c62<|sr<|s_mov (.int .i64 (-1)) rfl<|dk<|w_ret<|?_;obtain rfl:=os hc1;obtain rfl:=os hf;exact r_flat ⟨trivial,trivial⟩ rfl (.refl _)
     ·refine w_condf rfl (bf c62)<|w_skip<|k_seq<|w_reg<|s_mov (.int .i64 (w64 ((w64 (k_31 + 1)) + 1))) rfl<|s_q (.int .i64 (w64 ((w64 ((w64 (k_31 + 1)) + 1)) + 1))) rfl rfl rfl<|s_mov (.int .i64 (w64 ((w64 ((w64 (k_31 + 1)) + 1)) + 1))) rfl<|w_done<|k_blk<|k_seq<|w_reg<|s_mov (.int .i64 (i_32:Int)) rfl<|s_q (.int .i64 (w64 ((i_32:Int) + 1))) rfl rfl rfl<|s_mov (.int .i64 (w64 ((i_32:Int) + 1))) rfl<|w_done<|?_;exact k_loopn ⟨(w64 ((w64 ((w64 (k_31 + 1)) + 1)) + 1),(i_32 + 1)),hc1⟩ (mul hlt49) ⟨[],[],_,_,rfl,rfl,⟨.refl _,⟨.refl _,⟨.of_eq (congrArg (AV.int _) (w64_incr hlt49 hl57)),trivial⟩⟩⟩,(.refl _)⟩
 ·rintro ⟨k_47,rfl⟩
  refine sr<|s_mov (.int .i64 k_47) rfl<|s_mov (.int .i64 k_47) rfl<|dk<|w_ret<|?_;obtain rfl:=os hf;exact r_flat ⟨trivial,trivial⟩ rfl (.refl _)

/- laws.heldAtomSS -/
def c129:ACode :=
 (.seq (.reg (tm 4 (.c (.int .i64 0)) .done))
 (.seq (.seq (.reg (tm 5 (.c (.int .i64 0)) .done))
 (.block 0 (.loop (.seq (.seq (.reg (tm 6 (.t 5) (tm 7 (.t 0) (tq 8 (.len (.t 7)) (tq 9 (.bin .lss (.t 6) (.t 8)) .done)))))
 (.cond (.t 9) .skip
 (.exit 0)))
 (.seq (.block 1 (.seq (.reg (tm 12 (.t 0) (tm 13 (.t 5) (tq 14 (.iaddr 1 (.t 12) (.t 13)) (tq 15 (.load 1 false (.t 14)) (tm 16 (.t 1) (tq 17 (.call 67 [(.t 15),(.t 16)]) (tm 1 (.t 17) .done))))))))
 (.seq (.reg (tm 18 (.t 1) (tq 19 (.bin .lss (.t 18) (.c (.int .i64 0))) .done)))
 (.cond (.t 19) (.seq (.reg (tq 4 (.mov (.c (.int .i64 (-1)))) .done))
 .ret)
 .skip))))
 (.reg (tm 10 (.t 5) (tq 11 (.bin .add (.t 10) (.c (.int .i64 1))) (tm 5 (.t 11) .done)))))))))
 (.cut (.seq (.reg (tm 20 (.t 1) (tm 4 (.t 20) .done)))
 .ret))))
theorem fc129:fcomp Try.prog Try.f129 = some (c129.erase,[.mov (.t 4)],21):=by kernel_rfl
def laws_heldAtomSS_L1 :List (List GAtom) → Int → Option (Fl Int Int)
  | [],k_19 =>
    some (.go k_19)
  | x_37 :: xs,k_19 =>
    (laws_heldAtomS x_37 k_19).bind fun r_40 =>
    if (decide (r_40 < 0)) then
    some (.ret (-1))
    else
    laws_heldAtomSS_L1 xs r_40 

def laws_heldAtomSS (a_1:(List (List GAtom))) (k_2:Int):Option Int :=
    (laws_heldAtomSS_L1 a_1 k_2).bind fun q => (match q with
    | .ret r => some r
    | .go k_29 =>
    some k_29)
theorem w_laws_heldAtomSS (a_1:(List (List GAtom))) (k_2:Int) (r:Int) (hf:laws_heldAtomSS a_1 k_2 = some r):CallOK Try.prog 129 .flat [(.lst 1 (a_1.map (encL 3 encGAtom))),(.int .i64 k_2)] (.int .i64 r):=by
 refine CallOK.of_awp mixed Try.func129 fc129 nle ?_;rw [argT_eq];unfold laws_heldAtomSS at hf;unfold c129;refine (show awp Try.prog false 0 _ (ofL [(0,(.lst 1 (a_1.map (encL 3 encGAtom)))),(1,(.int .i64 k_2))]) [] _ from ?_);refine sr<|s_mov (.int .i64 0) rfl<|dk<|awp_seq<|sr<|s_mov (.int .i64 0) rfl<|dk<|?_
 obtain ⟨p30,hb1,hf⟩:=ob hf
 refine awp_cutx (X:={q:Int // p30 = .go q}) (fun q => ([(1,(.int .i64 q.1))],[])) ?_ ?_
 ·refine awp_loop (X:={q:(Int × Nat) // laws_heldAtomSS_L1 (a_1.drop q.2) q.1 = some p30}) (fun q => ([(0,(.lst 1 (a_1.map (encL 3 encGAtom)))),(1,(.int .i64 q.1.1)),(5,(.int .i64 (q.1.2:Int)))],[])) (fun q => a_1.length - q.1.2) ⟨(k_2,0),hb1⟩ ⟨[],[],_,_,rfl,rfl,⟨.refl _,⟨.refl _,⟨.refl _,trivial⟩⟩⟩,(.refl _)⟩ ?_
  rintro ⟨⟨k_19,i_20⟩,hc1⟩
  have hc1:laws_heldAtomSS_L1 (a_1.drop i_20) k_19 = some p30:=hc1
  refine (show awp Try.prog false 0 _ (ofL [(0,(.lst 1 (a_1.map (encL 3 encGAtom)))),(1,(.int .i64 k_19)),(5,(.int .i64 (i_20:Int)))]) [] _ from ?_)
  rcases dropc a_1 i_20 with ⟨hie33,hd36⟩ | ⟨hlt31,x_37,hx32,hd36⟩
  ·rw [hd36,laws_heldAtomSS_L1.eq_1] at hc1
   have hq35:=dlf hie33
   refine awp_seq<|sr<|s_mov (.int .i64 (i_20:Int)) rfl<|s_mov (.lst 1 (a_1.map (encL 3 encGAtom))) rfl<|s_dof (o_len (enc:=(encL 3 encGAtom)) rfl) fun hl38 => s_q (.bool (decide ((i_20:Int) < (a_1.length:Int)))) rfl rfl rfl<|dk<|w_condf rfl hq35<|w_exit<|k_seqx<|k_loopx<|k_blkx<|?_;obtain rfl:=os hc1;exact k_cutn ⟨_,rfl⟩ ⟨[],[],_,_,rfl,rfl,⟨.refl _,trivial⟩,(.refl _)⟩
  ·rw [hd36,laws_heldAtomSS_L1.eq_2] at hc1
   have hq35:=dlt hlt31
   refine awp_seq<|sr<|s_mov (.int .i64 (i_20:Int)) rfl<|s_mov (.lst 1 (a_1.map (encL 3 encGAtom))) rfl<|s_dof (o_len (enc:=(encL 3 encGAtom)) rfl) fun hl39 => s_q (.bool (decide ((i_20:Int) < (a_1.length:Int)))) rfl rfl rfl<|dk<|w_condt rfl hq35<|w_skip<|k_seq<|awp_seq<|w_blk<|sr<|?_
   obtain ⟨r_40,er41,hc1⟩:=ob hc1
   refine s_mov (.lst 1 (a_1.map (encL 3 encGAtom))) rfl<|s_mov (.int .i64 (i_20:Int)) rfl<|s_do (o_iaddrn (enc:=(encL 3 encGAtom)) rfl rfl hx32)<|s_q (.lst 3 (x_37.map encGAtom)) rfl ⟨rfl,rfl⟩ rfl<|s_mov (.int .i64 k_19) rfl<|s_do (o_call (w_laws_heldAtomS _ _ _ er41) rfl (.refl _) rfl)<|s_mov (.int .i64 r_40) rfl<|dk<|sr<|s_mov (.int .i64 r_40) rfl<|s_q (.bool (decide (r_40 < 0))) rfl rfl rfl<|dk<|?_
   rcases oi hc1 with ⟨c42,hc1⟩ | ⟨c42,hc1⟩
   ·refine w_condt rfl c42<|sr<|s_mov (.int .i64 (-1)) rfl<|dk<|w_ret<|?_;obtain rfl:=os hc1;obtain rfl:=os hf;exact r_flat ⟨trivial,trivial⟩ rfl (.refl _)
   ·refine w_condf rfl (bf c42)<|w_skip<|k_blk<|k_seq<|w_reg<|s_mov (.int .i64 (i_20:Int)) rfl<|s_q (.int .i64 (w64 ((i_20:Int) + 1))) rfl rfl rfl<|s_mov (.int .i64 (w64 ((i_20:Int) + 1))) rfl<|w_done<|?_;exact k_loopn ⟨(r_40,(i_20 + 1)),hc1⟩ (mul hlt31) ⟨[],[],_,_,rfl,rfl,⟨.refl _,⟨.refl _,⟨.of_eq (congrArg (AV.int _) (w64_incr hlt31 hl39)),trivial⟩⟩⟩,(.refl _)⟩
 ·rintro ⟨k_29,rfl⟩
  refine sr<|s_mov (.int .i64 k_29) rfl<|s_mov (.int .i64 k_29) rfl<|dk<|w_ret<|?_;obtain rfl:=os hf;exact r_flat ⟨trivial,trivial⟩ rfl (.refl _)

/- laws.heldRow -/
def c49:ACode :=
 (.seq (.reg (tq 2 (.box 2 (.t 0)) (tm 4 (.c (.int .i64 0)) .done)))
 (.seq (.reg (tq 5 (.faddr 1 (.t 2)) (tq 6 (.load 1 false (.t 5)) (tm 7 (.t 1) (tq 8 (.call 129 [(.t 6),(.t 7)]) (tm 1 (.t 8) .done))))))
 (.seq (.seq (.reg (tm 9 (.t 1) (tq 10 (.bin .lss (.t 9) (.c (.int .i64 0))) .done)))
 (.cond (.t 10) (.seq (.reg (tq 4 (.mov (.c (.int .i64 (-1)))) .done))
 .ret)
 .skip))
 (.seq (.reg (tm 11 (.t 1) (tm 4 (.t 11) .done)))
 .ret))))
theorem fc49:fcomp Try.prog Try.f49 = some (c49.erase,[.mov (.t 4)],12):=by kernel_rfl
def laws_heldRow (a_1:GRow) (k_2:Int):Option Int :=
    (laws_heldAtomSS a_1.Cells k_2).bind fun r_3 =>
    if (decide (r_3 < 0)) then
    some (-1)
    else
    some r_3
theorem w_laws_heldRow (a_1:GRow) (k_2:Int) (r:Int) (hf:laws_heldRow a_1 k_2 = some r):CallOK Try.prog 49 .flat [(encGRow a_1),(.int .i64 k_2)] (.int .i64 r):=by
 refine CallOK.of_awp mixed Try.func49 fc49 nle ?_;rw [argT_eq];unfold laws_heldRow at hf;unfold c49;refine (show awp Try.prog false 0 _ (ofL [(0,(encGRow a_1)),(1,(.int .i64 k_2))]) [] _ from ?_);refine sr<|s_do (o_box (j:=0) (c:=(.agg [(.int .i64 a_1.Id),(.lst 1 (a_1.Cells.map (encL 3 encGAtom)))])) rfl trivial rfl rfl)<|s_mov (.int .i64 0) rfl<|dk<|sr<|?_
 obtain ⟨r_3,er4,hf⟩:=ob hf
 refine s_q (.ptr 0 0 1) rfl trivial rfl<|s_q (.lst 1 (a_1.Cells.map (encL 3 encGAtom))) rfl nle rfl<|s_mov (.int .i64 k_2) rfl<|s_do (o_call (w_laws_heldAtomSS _ _ _ er4) rfl (.refl _) rfl)<|s_mov (.int .i64 r_3) rfl<|dk<|awp_seq<|sr<|s_mov (.int .i64 r_3) rfl<|s_q (.bool (decide (r_3 < 0))) rfl rfl rfl<|dk<|?_
 rcases oi hf with ⟨c5,hf⟩ | ⟨c5,hf⟩
 ·refine w_condt rfl c5<|sr<|s_mov (.int .i64 (-1)) rfl<|dk<|w_ret<|?_;obtain rfl:=os hf;exact r_flat ⟨trivial,trivial⟩ rfl (.refl _)
 ·refine w_condf rfl (bf c5)<|w_skip<|k_seq<|sr<|s_mov (.int .i64 r_3) rfl<|s_mov (.int .i64 r_3) rfl<|dk<|w_ret<|?_;obtain rfl:=os hf;exact r_flat ⟨trivial,trivial⟩ rfl (.refl _)

end Go.R
