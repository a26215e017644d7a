/- Walks. -/
import Derived.Test.YthejoafcjkoahaaGreatOC4
set_option linter.all false
namespace Go.R
open Go Go.Proofs
set_option linter.unusedVariables false
set_option linter.unusedSimpArgs false
set_option maxHeartbeats 8000000
/- impl.setsCode -/
def c95:ACode :=
 (.seq (.reg (tq 2 (.box 4 (.t 0)) (tm 4 (.c (.int .i64 0)) .done)))
 (.seq (.seq (.reg (tm 8 (.t 1) (tq 9 (.len (.t 8)) (tm 10 (.c (.int .i64 0)) .done))))
 (.block 0 (.loop (.seq (.reg (tq 11 (.bin .lss (.t 10) (.t 9)) .done))
 (.seq (.cond (.t 11) .skip
 (.exit 0))
 (.seq (.block 1 (.seq (.reg (tm 12 (.t 10) (tq 13 (.iaddr 3 (.t 8) (.t 10)) (tq 14 (.load 3 true (.t 13)) (tq 6 (.box 3 (.c (.agg [(.str []),.nil,.nil]))) (tm 5 (.t 12) (.q ⟨none,none,.store 3 (.t 6) (.t 14)⟩
 .done)))))))
 (.seq (.reg (tq 15 (.load 4 true (.t 2)) (tq 16 (.faddr 0 (.t 6)) (tq 17 (.load 1 false (.t 16)) (tq 18 (.call 131 [(.t 15),(.t 17)]) (tm 7 (.t 18) .done))))))
 (.block 2 (.seq (.reg (tm 20 (.t 7) (tq 21 (.bin .lss (.t 20) (.c (.int .i64 0))) (tm 19 (.t 21) .done))))
 (.cond (.t 19) (.seq (.reg (tm 4 (.c (.int .i64 11)) .done))
 .ret)
 (.seq (.reg (tm 23 (.t 1) (tm 24 (.t 5) (tq 25 (.slice 3 (.t 23) none (some (.t 24))) (tq 26 (.mkfn 149 [(.t 6)]) (tq 27 (.call 143 [(.t 25),(.t 26)]) (tm 22 (.t 27) .done)))))))
 (.cond (.t 22) (.seq (.reg (tm 4 (.c (.int .i64 8)) .done))
 .ret)
 (.seq (.reg (tq 29 (.faddr 1 (.t 6)) (tq 30 (.load 1 false (.t 29)) (tq 31 (.len (.t 30)) (tq 32 (.bin .gtr (.t 31) (.c (.int .i64 0))) (tm 33 (.t 32) (tg 34 33 true (.faddr 1 (.t 6)) (tg 35 33 true (.load 1 false (.t 34)) (tg 36 33 true (.iaddr 3 (.t 35) (.c (.int .i64 0))) (tg 37 33 true (.faddr 0 (.t 36)) (tg 38 33 true (.load 1 false (.t 37)) (tg 39 33 true (.faddr 1 (.t 2)) (tg 40 33 true (.load 1 false (.t 39)) (tg 41 33 true (.mov (.t 7)) (tg 42 33 true (.iaddr 8 (.t 40) (.t 41)) (tg 43 33 true (.faddr 1 (.t 42)) (tg 44 33 true (.load 1 false (.t 43)) (tg 45 33 true (.bin .neq (.t 38) (.t 44)) (tq 46 (.pick (.t 33) (.t 45) (.c (.bool false))) (tm 47 (.t 46) (tg 48 47 false (.faddr 2 (.t 6)) (tg 49 47 false (.load 1 false (.t 48)) (tg 50 47 false (.len (.t 49)) (tg 51 47 false (.bin .gtr (.t 50) (.c (.int .i64 0))) (tg 52 47 false (.mov (.t 51)) (tg 53 52 true (.faddr 1 (.t 2)) (tg 54 52 true (.load 1 false (.t 53)) (tg 55 52 true (.mov (.t 7)) (tg 56 52 true (.iaddr 8 (.t 54) (.t 55)) (tg 57 52 true (.faddr 1 (.t 56)) (tg 58 52 true (.load 1 false (.t 57)) (tg 59 52 true (.bin .neq (.t 58) (.c (.int .i64 4))) (tg 60 47 false (.pick (.t 52) (.t 59) (.c (.bool false))) (tq 61 (.pick (.t 47) (.c (.bool true)) (.t 60)) (tm 28 (.t 61) .done)))))))))))))))))))))))))))))))))))
 (.cut (.cond (.t 28) (.seq (.reg (tm 4 (.c (.int .i64 9)) .done))
 .ret)
 .skip)))))))))))
 (.reg (tq 62 (.bin .add (.t 10) (.c (.int .i64 1))) (tm 10 (.t 62) .done)))))))))
 (.cut (.seq (.reg (tm 4 (.c (.int .i64 0)) .done))
 .ret))))
theorem fc95:fcomp Tryz.prog Tryz.f95 = some (c95.erase,[.mov (.t 4)],63):=by kernel_rfl
def impl_setsCode_L1 (t_1:GTable) (list_2:(List GSet)):List GSet → Nat → Option (Fl Int Unit)
  | [],s10_95 =>
    some (.go ())
  | x_148 :: xs,s10_95 =>
    (impl_Table_columnAt t_1 x_148.Column).bind fun r_149 =>
    if (decide (r_149 < 0)) then
    some (.ret 11)
    else
    if 0 ≤ (s10_95:Int) ∧ (s10_95:Int) ≤ (list_2.length:Int) then
    (slices_ContainsFunc_impl_Set_impl_Set (list_2.take s10_95) (fun a0 => impl_setsCode_1 a0 x_148)).bind fun r_153 =>
    if r_153 then
    some (.ret 8)
    else
    ((if (decide ((x_148.Value.length:Int) > 0)) then
    (idx x_148.Value 0).bind fun x_176 =>
    (idx t_1.Columns r_149).bind fun x_178 =>
    if (x_176.Kind != x_178.Kind) then
    some true
    else
    if (decide ((x_148.Names.length:Int) > 0)) then
    (idx t_1.Columns r_149).bind fun x_184 =>
    some (x_184.Kind != 4)
    else
    some false
    else
    if (decide ((x_148.Names.length:Int) > 0)) then
    (idx t_1.Columns r_149).bind fun x_188 =>
    some (x_188.Kind != 4)
    else
    some false:Option Bool)).bind fun s28_172 =>
    if s28_172 then
    some (.ret 9)
    else
    impl_setsCode_L1 t_1 list_2 xs (s10_95 + 1)
    else none

def impl_setsCode (t_1:GTable) (list_2:(List GSet)):Option Int :=
    (impl_setsCode_L1 t_1 list_2 list_2 0).bind fun q => (match q with
    | .ret r => some r
    | .go _ =>
    some 0)
theorem w_impl_setsCode (t_1:GTable) (list_2:(List GSet)) (r:Int) (hf:impl_setsCode t_1 list_2 = some r):CallOK Tryz.prog 95 .flat [(encGTable t_1),(.lst 3 (list_2.map encGSet))] (.int .i64 r):=by
 refine CallOK.of_awp mixed Tryz.func95 fc95 nle ?_;rw [argT_eq];unfold impl_setsCode at hf;unfold c95;refine (show awp Tryz.prog false 0 _ (ofL [(0,(encGTable t_1)),(1,(.lst 3 (list_2.map encGSet)))]) [] _ from ?_);refine sr<|s_do (o_box (j:=0) (c:=(.agg [(.str t_1.Name),(.lst 8 (t_1.Columns.map encGColumn)),(.lst 1 (t_1.Unique.map encI)),(.bool t_1.Root)])) rfl trivial rfl rfl)<|s_mov (.int .i64 0) rfl<|dk<|awp_seq<|sr<|s_mov (.lst 3 (list_2.map encGSet)) rfl<|s_dof (o_len (enc:=encGSet) rfl) fun hl3 => s_mov (.int .i64 0) rfl<|dk<|?_
 obtain ⟨p141,hb1,hf⟩:=ob hf
 refine awp_cutx (X:={q:Unit // p141 = .go q}) (fun q => ([],[])) ?_ ?_
 ·refine awp_loop (X:={q:Nat // impl_setsCode_L1 t_1 list_2 (list_2.drop q) q = some p141}) (fun q => ([(1,(.lst 3 (list_2.map encGSet))),(2,(.ptr 0 0 0)),(8,(.lst 3 (list_2.map encGSet))),(9,(.int .i64 (list_2.length:Int))),(10,(.int .i64 (q.1:Int)))],[.box 4 (.agg [(.str t_1.Name),(.lst 8 (t_1.Columns.map encGColumn)),(.lst 1 (t_1.Unique.map encI)),(.bool t_1.Root)])])) (fun q => list_2.length - q.1) ⟨0,hb1⟩ ⟨[],[0],_,_,rfl,rfl,⟨.refl _,⟨.refl _,⟨.refl _,⟨.refl _,⟨.refl _,trivial⟩⟩⟩⟩⟩,(.refl _)⟩ ?_
  rintro ⟨s10_95,hc1⟩
  have hc1:impl_setsCode_L1 t_1 list_2 (list_2.drop s10_95) s10_95 = some p141:=hc1
  refine (show awp Tryz.prog false 0 _ (ofL [(1,(.lst 3 (list_2.map encGSet))),(2,(.ptr 0 0 0)),(8,(.lst 3 (list_2.map encGSet))),(9,(.int .i64 (list_2.length:Int))),(10,(.int .i64 (s10_95:Int)))]) [.box 4 (.agg [(.str t_1.Name),(.lst 8 (t_1.Columns.map encGColumn)),(.lst 1 (t_1.Unique.map encI)),(.bool t_1.Root)])] _ from ?_)
  rcases dropc list_2 s10_95 with ⟨hie144,hd147⟩ | ⟨hlt142,x_148,hx143,hd147⟩
  ·rw [hd147,impl_setsCode_L1.eq_1] at hc1
   have hq146:=dlf hie144
   refine sr<|s_q (.bool (decide ((s10_95:Int) < (list_2.length:Int)))) rfl rfl rfl<|dk<|awp_seq<|w_condf rfl hq146<|w_exit<|k_seqx<|k_loopx<|k_blkx<|?_;obtain rfl:=os hc1;exact k_cutn ⟨_,rfl⟩ ⟨[],[],_,_,rfl,rfl,trivial,(.refl _)⟩
  ·rw [hd147,impl_setsCode_L1.eq_2] at hc1
   have hq146:=dlt hlt142
   refine sr<|s_q (.bool (decide ((s10_95:Int) < (list_2.length:Int)))) rfl rfl rfl<|dk<|awp_seq<|w_condt rfl hq146<|w_skip<|k_seq<|awp_seq<|w_blk<|sr<|s_mov (.int .i64 (s10_95:Int)) rfl<|s_do (o_iaddrn (enc:=encGSet) rfl rfl hx143)<|s_q (encGSet x_148) rfl nle rfl<|s_do (o_box (j:=1) (c:=(.agg [(.str []),.nil,.nil])) rfl trivial rfl rfl)<|s_mov (.int .i64 (s10_95:Int)) rfl<|s_do0 (o_storebox (v:=(.agg [(.str x_148.Column),(.lst 3 (x_148.Value.map encGAtom)),(.lst 1 (x_148.Names.map AV.str))])) (y':=(.agg [(.str x_148.Column),(.lst 3 (x_148.Value.map encGAtom)),(.lst 1 (x_148.Names.map AV.str))])) rfl rfl rfl trivial ⟨rfl,nle⟩ ⟨⟨rfl,trivial⟩,⟨⟨rfl,trivial⟩,⟨⟨rfl,trivial⟩,trivial⟩⟩⟩ rfl)<|?_
   refine dk<|sr<|?_
   obtain ⟨r_149,er150,hc1⟩:=ob hc1
   refine s_q (.agg [(.str t_1.Name),(.lst 8 (t_1.Columns.map encGColumn)),(.lst 1 (t_1.Unique.map encI)),(.bool t_1.Root)]) rfl nle rfl<|s_q (.ptr 1 0 0) rfl trivial rfl<|s_q (.str x_148.Column) rfl nle rfl<|s_do (o_call (w_impl_Table_columnAt _ _ _ er150) rfl (.refl _) rfl)<|s_mov (.int .i64 r_149) rfl<|dk<|w_blk<|sr<|s_mov (.int .i64 r_149) rfl<|s_q (.bool (decide (r_149 < 0))) rfl rfl rfl<|s_mov (.bool (decide (r_149 < 0))) rfl<|dk<|?_
   rcases oi hc1 with ⟨c151,hc1⟩ | ⟨c151,hc1⟩
   ·refine w_condt rfl c151<|sr<|s_mov (.int .i64 11) rfl<|dk<|w_ret<|?_;obtain rfl:=os hc1;obtain rfl:=os hf;exact r_flat ⟨trivial,trivial⟩ rfl (.refl _)
   ·refine w_condf rfl (bf c151)<|sr<|?_
    obtain ⟨g152,hc1⟩:=og hc1
    obtain ⟨r_153,er154,hc1⟩:=ob hc1
    refine s_mov (.lst 3 (list_2.map encGSet)) rfl<|s_mov (.int .i64 (s10_95:Int)) rfl<|s_do (o_slt (enc:=encGSet) rfl rfl g152.1 g152.2)<|s_q (.fn 149 [(.ptr 1 0 0)]) rfl trivial rfl<|?_;refine s_do (o_call (w_slices_ContainsFunc_impl_Set_impl_Set _ _ _ er154 149 [(.iptr (encGSet x_148) 0)] (by kernel_rfl) (fun _ _ => rfl) (fun _ => rfl) (fun a0 r h => w_impl_setsCode_1 a0 x_148 r h)) rfl (.refl _) rfl) ?_;refine s_mov (.bool r_153) rfl<|dk<|?_
    rcases oi hc1 with ⟨c155,hc1⟩ | ⟨c155,hc1⟩
    ·refine w_condt rfl c155<|sr<|s_mov (.int .i64 8) rfl<|dk<|w_ret<|?_;obtain rfl:=os hc1;obtain rfl:=os hf;exact r_flat ⟨trivial,trivial⟩ rfl (.refl _)
    ·refine w_condf rfl (bf c155)<|awp_seq<|?_
     obtain ⟨s28_172,hb2,hc1⟩:=ob hc1
     refine awp_cut ([(1,(.lst 3 (list_2.map encGSet))),(2,(.ptr 0 0 0)),(8,(.lst 3 (list_2.map encGSet))),(9,(.int .i64 (list_2.length:Int))),(10,(.int .i64 (s10_95:Int))),(28,(.bool s28_172))],[.box 4 (.agg [(.str t_1.Name),(.lst 8 (t_1.Columns.map encGColumn)),(.lst 1 (t_1.Unique.map encI)),(.bool t_1.Root)])]) ?_ ?_
     ·refine w_reg<|s_q (.ptr 1 0 1) rfl trivial rfl<|s_q (.lst 3 (x_148.Value.map encGAtom)) rfl nle rfl<|s_dof (o_len (enc:=encGAtom) rfl) fun hl174 => s_q (.bool (decide ((x_148.Value.length:Int) > 0))) rfl rfl rfl<|s_mov (.bool (decide ((x_148.Value.length:Int) > 0))) rfl<|?_
      rcases oi hb2 with ⟨c175,hb2⟩ | ⟨c175,hb2⟩
      ·refine s_lit (s:=33) (b:=true) rfl c175<|s_on rfl<|s_q (.ptr 1 0 1) rfl trivial rfl<|s_on rfl<|s_q (.lst 3 (x_148.Value.map encGAtom)) rfl nle rfl<|s_on rfl<|?_
       obtain ⟨x_176,ex177,hb2⟩:=ob hb2
       refine s_do (o_iaddr (enc:=encGAtom) rfl rfl (idx0 ex177) (idx1 ex177))<|s_on rfl<|s_q (.iptr (encGAtom x_176) 0) rfl trivial rfl<|s_on rfl<|s_q (.int .i64 x_176.Kind) rfl nle rfl<|s_on rfl<|s_q (.ptr 0 0 1) rfl trivial rfl<|s_on rfl<|s_q (.lst 8 (t_1.Columns.map encGColumn)) rfl nle rfl<|s_on rfl<|s_mov (.int .i64 r_149) rfl<|s_on rfl<|?_
       obtain ⟨x_178,ex179,hb2⟩:=ob hb2
       refine s_do (o_iaddr (enc:=encGColumn) rfl rfl (idx0 ex179) (idx1 ex179))<|s_on rfl<|s_q (.iptr (encGColumn x_178) 1) rfl trivial rfl<|s_on rfl<|s_q (.int .i64 x_178.Kind) rfl nle rfl<|s_on rfl<|s_q (.bool (x_176.Kind != x_178.Kind)) rfl rfl rfl<|s_q (.bool (x_176.Kind != x_178.Kind)) rfl trivial rfl<|s_mov (.bool (x_176.Kind != x_178.Kind)) rfl<|?_
       rcases oi hb2 with ⟨c181,hb2⟩ | ⟨c181,hb2⟩
       ·refine s_lit (s:=47) (b:=true) rfl c181<|s_off rfl rfl<|s_off rfl rfl<|s_off rfl rfl<|s_off rfl rfl<|s_off rfl rfl<|s_offs rfl<|s_offs rfl<|s_offs rfl<|s_offs rfl<|s_offs rfl<|s_offs rfl<|s_offs rfl<|s_off rfl rfl<|s_q (.bool true) rfl trivial rfl<|s_mov (.bool true) rfl<|w_done<|?_;obtain rfl:=os hb2;exact ⟨[],[0],_,_,rfl,rfl,⟨.refl _,⟨.refl _,⟨.refl _,⟨.refl _,⟨.refl _,⟨.refl _,trivial⟩⟩⟩⟩⟩⟩,(.refl _)⟩
       ·refine s_lit (s:=47) (b:=false) rfl (bf c181)<|s_on rfl<|s_q (.ptr 1 0 2) rfl trivial rfl<|s_on rfl<|s_q (.lst 1 (x_148.Names.map AV.str)) rfl nle rfl<|s_on rfl<|s_dof (o_len (enc:=AV.str) rfl) fun hl182 => s_on rfl<|s_q (.bool (decide ((x_148.Names.length:Int) > 0))) rfl rfl rfl<|s_on rfl<|s_mov (.bool (decide ((x_148.Names.length:Int) > 0))) rfl<|?_
        rcases oi hb2 with ⟨c183,hb2⟩ | ⟨c183,hb2⟩
        ·refine s_lit (s:=52) (b:=true) rfl c183<|s_on rfl<|s_q (.ptr 0 0 1) rfl trivial rfl<|s_on rfl<|s_q (.lst 8 (t_1.Columns.map encGColumn)) rfl nle rfl<|s_on rfl<|s_mov (.int .i64 r_149) rfl<|s_on rfl<|?_
         obtain ⟨x_184,ex185,hb2⟩:=ob hb2
         refine s_do (o_iaddr (enc:=encGColumn) rfl rfl (idx0 ex185) (idx1 ex185))<|s_on rfl<|s_q (.iptr (encGColumn x_184) 1) rfl trivial rfl<|s_on rfl<|s_q (.int .i64 x_184.Kind) rfl nle rfl<|s_on rfl<|s_q (.bool (x_184.Kind != 4)) rfl rfl rfl<|s_on rfl<|s_q (.bool (x_184.Kind != 4)) rfl trivial rfl<|s_q (.bool (x_184.Kind != 4)) rfl trivial rfl<|s_mov (.bool (x_184.Kind != 4)) rfl<|w_done<|?_;obtain rfl:=os hb2;exact ⟨[],[0],_,_,rfl,rfl,⟨.refl _,⟨.refl _,⟨.refl _,⟨.refl _,⟨.refl _,⟨.refl _,trivial⟩⟩⟩⟩⟩⟩,(.refl _)⟩
        ·refine s_lit (s:=52) (b:=false) rfl (bf c183)<|s_off rfl rfl<|s_off rfl rfl<|s_off rfl rfl<|s_off rfl rfl<|s_off rfl rfl<|s_off rfl rfl<|s_off rfl rfl<|s_on rfl<|s_q (.bool false) rfl trivial rfl<|s_q (.bool false) rfl trivial rfl<|s_mov (.bool false) rfl<|w_done<|?_;obtain rfl:=os hb2;exact ⟨[],[0],_,_,rfl,rfl,⟨.refl _,⟨.refl _,⟨.refl _,⟨.refl _,⟨.refl _,⟨.refl _,trivial⟩⟩⟩⟩⟩⟩,(.refl _)⟩
      ·refine s_lit (s:=33) (b:=false) rfl (bf c175)<|s_off rfl rfl<|s_off rfl rfl<|s_off rfl rfl<|s_off rfl rfl<|s_off rfl rfl<|s_off rfl rfl<|s_off rfl rfl<|s_off rfl rfl<|s_off rfl rfl<|s_off rfl rfl<|s_off rfl rfl<|s_off rfl rfl<|s_q (.bool false) rfl trivial rfl<|s_mov (.bool false) rfl<|s_on rfl<|s_q (.ptr 1 0 2) rfl trivial rfl<|s_on rfl<|s_q (.lst 1 (x_148.Names.map AV.str)) rfl nle rfl<|s_on rfl<|s_dof (o_len (enc:=AV.str) rfl) fun hl186 => s_on rfl<|s_q (.bool (decide ((x_148.Names.length:Int) > 0))) rfl rfl rfl<|s_on rfl<|s_mov (.bool (decide ((x_148.Names.length:Int) > 0))) rfl<|?_
       rcases oi hb2 with ⟨c187,hb2⟩ | ⟨c187,hb2⟩
       ·refine s_lit (s:=52) (b:=true) rfl c187<|s_on rfl<|s_q (.ptr 0 0 1) rfl trivial rfl<|s_on rfl<|s_q (.lst 8 (t_1.Columns.map encGColumn)) rfl nle rfl<|s_on rfl<|s_mov (.int .i64 r_149) rfl<|s_on rfl<|?_
        obtain ⟨x_188,ex189,hb2⟩:=ob hb2
        refine s_do (o_iaddr (enc:=encGColumn) rfl rfl (idx0 ex189) (idx1 ex189))<|s_on rfl<|s_q (.iptr (encGColumn x_188) 1) rfl trivial rfl<|s_on rfl<|s_q (.int .i64 x_188.Kind) rfl nle rfl<|s_on rfl<|s_q (.bool (x_188.Kind != 4)) rfl rfl rfl<|s_on rfl<|s_q (.bool (x_188.Kind != 4)) rfl trivial rfl<|s_q (.bool (x_188.Kind != 4)) rfl trivial rfl<|s_mov (.bool (x_188.Kind != 4)) rfl<|w_done<|?_;obtain rfl:=os hb2;exact ⟨[],[0],_,_,rfl,rfl,⟨.refl _,⟨.refl _,⟨.refl _,⟨.refl _,⟨.refl _,⟨.refl _,trivial⟩⟩⟩⟩⟩⟩,(.refl _)⟩
       ·refine s_lit (s:=52) (b:=false) rfl (bf c187)<|s_off rfl rfl<|s_off rfl rfl<|s_off rfl rfl<|s_off rfl rfl<|s_off rfl rfl<|s_off rfl rfl<|s_off rfl rfl<|s_on rfl<|s_q (.bool false) rfl trivial rfl<|s_q (.bool false) rfl trivial rfl<|s_mov (.bool false) rfl<|w_done<|?_;obtain rfl:=os hb2;exact ⟨[],[0],_,_,rfl,rfl,⟨.refl _,⟨.refl _,⟨.refl _,⟨.refl _,⟨.refl _,⟨.refl _,trivial⟩⟩⟩⟩⟩⟩,(.refl _)⟩
     ·rcases oi hc1 with ⟨c190,hc1⟩ | ⟨c190,hc1⟩
      ·refine w_condt rfl c190<|sr<|s_mov (.int .i64 9) rfl<|dk<|w_ret<|?_;obtain rfl:=os hc1;obtain rfl:=os hf;exact r_flat ⟨trivial,trivial⟩ rfl (.refl _)
      ·refine w_condf rfl (bf c190)<|w_skip<|k_blk<|k_blk<|k_seq<|w_reg<|s_q (.int .i64 (w64 ((s10_95:Int) + 1))) rfl rfl rfl<|s_mov (.int .i64 (w64 ((s10_95:Int) + 1))) rfl<|w_done<|?_;exact k_loopn ⟨(s10_95 + 1),hc1⟩ (mul hlt142) ⟨[],[0],_,_,rfl,rfl,⟨.refl _,⟨.refl _,⟨.refl _,⟨.refl _,⟨.of_eq (congrArg (AV.int _) (w64_incr hlt142 hl3)),trivial⟩⟩⟩⟩⟩,(.refl _)⟩
 ·rintro ⟨_,rfl⟩
  refine sr<|s_mov (.int .i64 0) rfl<|dk<|w_ret<|?_;obtain rfl:=os hf;exact r_flat ⟨trivial,trivial⟩ rfl (.refl _)

/- (impl.Mut).typeCode -/
def c177:ACode :=
 (.seq (.reg (tq 2 (.box 3 (.t 0)) (tq 3 (.box 8 (.t 1)) (tm 4 (.c (.int .i64 0)) .done))))
 (.seq (.block 0 (.seq (.reg (tq 6 (.faddr 2 (.t 2)) (tq 7 (.load 1 false (.t 6)) (tq 8 (.len (.t 7)) (tq 9 (.bin .gtr (.t 8) (.c (.int .i64 0))) (tm 10 (.t 9) (tg 11 10 true (.faddr 2 (.t 2)) (tg 12 10 true (.load 1 false (.t 11)) (tg 13 10 true (.iaddr 3 (.t 12) (.c (.int .i64 0))) (tg 14 10 true (.faddr 0 (.t 13)) (tg 15 10 true (.load 1 false (.t 14)) (tg 16 10 true (.faddr 1 (.t 3)) (tg 17 10 true (.load 1 false (.t 16)) (tg 18 10 true (.bin .neq (.t 15) (.t 17)) (tq 19 (.pick (.t 10) (.t 18) (.c (.bool false))) (tm 5 (.t 19) .done))))))))))))))))
 (.cut (.cond (.t 5) (.seq (.reg (tm 4 (.c (.int .i64 9)) .done))
 .ret)
 (.seq (.reg (tq 21 (.faddr 1 (.t 2)) (tq 22 (.load 1 false (.t 21)) (tq 23 (.bin .leq (.t 22) (.c (.int .i64 5))) (tm 24 (.t 23) (tg 25 24 true (.faddr 1 (.t 3)) (tg 26 24 true (.load 1 false (.t 25)) (tg 27 24 true (.bin .neq (.t 26) (.c (.int .i64 1))) (tg 28 24 true (.mov (.t 27)) (tg 29 28 false (.faddr 2 (.t 2)) (tg 30 28 false (.load 1 false (.t 29)) (tg 31 28 false (.len (.t 30)) (tg 32 28 false (.bin .neq (.t 31) (.c (.int .i64 1))) (tg 33 24 true (.pick (.t 28) (.c (.bool true)) (.t 32)) (tq 34 (.pick (.t 24) (.t 33) (.c (.bool false))) (tm 20 (.t 34) .done))))))))))))))))
 (.cut (.cond (.t 20) (.seq (.reg (tm 4 (.c (.int .i64 9)) .done))
 .ret)
 .skip)))))))
 (.seq (.reg (tm 4 (.c (.int .i64 0)) .done))
 .ret)))
theorem fc177:fcomp Tryz.prog Tryz.f177 = some (c177.erase,[.mov (.t 4)],35):=by kernel_rfl
def impl_Mut_typeCode (m_1:GMut) (c_2:GColumn):Option Int :=
    ((if (decide ((m_1.Value.length:Int) > 0)) then
    (idx m_1.Value 0).bind fun x_11 =>
    some (x_11.Kind != c_2.Kind)
    else
    some false:Option Bool)).bind fun s5_7 =>
    if s5_7 then
    some 9
    else
    ((some ():Option Unit)).bind fun _ =>
    if (bif (decide (m_1.Func ≤ 5)) then (bif (c_2.Kind != 1) then true else ((m_1.Value.length:Int) != 1)) else false) then
    some 9
    else
    some 0
theorem w_impl_Mut_typeCode (m_1:GMut) (c_2:GColumn) (r:Int) (hf:impl_Mut_typeCode m_1 c_2 = some r):CallOK Tryz.prog 177 .flat [(encGMut m_1),(encGColumn c_2)] (.int .i64 r):=by
 refine CallOK.of_awp mixed Tryz.func177 fc177 nle ?_;rw [argT_eq];unfold impl_Mut_typeCode at hf;unfold c177;refine (show awp Tryz.prog false 0 _ (ofL [(0,(encGMut m_1)),(1,(encGColumn c_2))]) [] _ from ?_);refine sr<|s_do (o_box (j:=0) (c:=(.agg [(.str m_1.Column),(.int .i64 m_1.Func),(.lst 3 (m_1.Value.map encGAtom))])) rfl trivial rfl rfl)<|s_do (o_box (j:=1) (c:=(.agg [(.str c_2.Name),(.int .i64 c_2.Kind),(.int .i64 c_2.Min),(.int .i64 c_2.Max),(.int .i64 c_2.Low),(.int .i64 c_2.High),(.str c_2.Ref),(.bool c_2.Strong)])) rfl trivial rfl rfl)<|s_mov (.int .i64 0) rfl<|dk<|awp_seq<|w_blk<|awp_seq<|?_
 obtain ⟨s5_7,hb1,hf⟩:=ob hf
 refine awp_cut ([(2,(.ptr 0 0 0)),(3,(.ptr 1 0 0)),(5,(.bool s5_7))],[.box 3 (.agg [(.str m_1.Column),(.int .i64 m_1.Func),(.lst 3 (m_1.Value.map encGAtom))]),.box 8 (.agg [(.str c_2.Name),(.int .i64 c_2.Kind),(.int .i64 c_2.Min),(.int .i64 c_2.Max),(.int .i64 c_2.Low),(.int .i64 c_2.High),(.str c_2.Ref),(.bool c_2.Strong)])]) ?_ ?_
 ·refine w_reg<|s_q (.ptr 0 0 2) rfl trivial rfl<|s_q (.lst 3 (m_1.Value.map encGAtom)) rfl nle rfl<|s_dof (o_len (enc:=encGAtom) rfl) fun hl9 => s_q (.bool (decide ((m_1.Value.length:Int) > 0))) rfl rfl rfl<|s_mov (.bool (decide ((m_1.Value.length:Int) > 0))) rfl<|?_
  rcases oi hb1 with ⟨c10,hb1⟩ | ⟨c10,hb1⟩
  ·refine s_lit (s:=10) (b:=true) rfl c10<|s_on rfl<|s_q (.ptr 0 0 2) rfl trivial rfl<|s_on rfl<|s_q (.lst 3 (m_1.Value.map encGAtom)) rfl nle rfl<|s_on rfl<|?_
   obtain ⟨x_11,ex12,hb1⟩:=ob hb1
   refine s_do (o_iaddr (enc:=encGAtom) rfl rfl (idx0 ex12) (idx1 ex12))<|s_on rfl<|s_q (.iptr (encGAtom x_11) 0) rfl trivial rfl<|s_on rfl<|s_q (.int .i64 x_11.Kind) rfl nle rfl<|s_on rfl<|s_q (.ptr 1 0 1) rfl trivial rfl<|s_on rfl<|s_q (.int .i64 c_2.Kind) rfl nle rfl<|s_on rfl<|s_q (.bool (x_11.Kind != c_2.Kind)) rfl rfl rfl<|s_q (.bool (x_11.Kind != c_2.Kind)) rfl trivial rfl<|s_mov (.bool (x_11.Kind != c_2.Kind)) rfl<|w_done<|?_;obtain rfl:=os hb1;exact ⟨[],[0,1],_,_,rfl,rfl,⟨.refl _,⟨.refl _,⟨.refl _,trivial⟩⟩⟩,(.refl _)⟩
  ·refine s_lit (s:=10) (b:=false) rfl (bf c10)<|s_off rfl rfl<|s_off rfl rfl<|s_off rfl rfl<|s_off rfl rfl<|s_off rfl rfl<|s_off rfl rfl<|s_off rfl rfl<|s_off rfl rfl<|s_q (.bool false) rfl trivial rfl<|s_mov (.bool false) rfl<|w_done<|?_;obtain rfl:=os hb1;exact ⟨[],[0,1],_,_,rfl,rfl,⟨.refl _,⟨.refl _,⟨.refl _,trivial⟩⟩⟩,(.refl _)⟩
 ·rcases oi hf with ⟨c13,hf⟩ | ⟨c13,hf⟩
  ·refine w_condt rfl c13<|sr<|s_mov (.int .i64 9) rfl<|dk<|w_ret<|?_;obtain rfl:=os hf;exact r_flat ⟨trivial,trivial⟩ rfl (.refl _)
  ·refine w_condf rfl (bf c13)<|awp_seq<|?_
   obtain ⟨p15,hb1,hf⟩:=ob hf
   refine awp_cut ([(20,(.bool (bif (decide (m_1.Func ≤ 5)) then (bif (c_2.Kind != 1) then true else ((m_1.Value.length:Int) != 1)) else false)))],[]) ?_ ?_
   ·refine w_reg<|s_q (.ptr 0 0 1) rfl trivial rfl<|s_q (.int .i64 m_1.Func) rfl nle rfl<|s_q (.bool (decide (m_1.Func ≤ 5))) rfl rfl rfl<|s_mov (.bool (decide (m_1.Func ≤ 5))) rfl<|?_;refine s_g (v:=(decide (m_1.Func ≤ 5))) (.ptr 1 0 1) rfl (fun hv => by (try simp only [gs_on hv]);exact ⟨rfl,trivial,rfl⟩) ?_;refine s_g (v:=(decide (m_1.Func ≤ 5))) (.int .i64 c_2.Kind) rfl (fun hv => by (try simp only [gs_on hv]);exact ⟨rfl,nle,rfl⟩) ?_;refine s_g (v:=(decide (m_1.Func ≤ 5))) (.bool (c_2.Kind != 1)) rfl (fun hv => by (try simp only [gs_on hv]);exact ⟨rfl,rfl,rfl⟩) ?_;refine s_g (v:=(decide (m_1.Func ≤ 5))) (.bool (c_2.Kind != 1)) rfl (fun hv => by (try simp only [gs_on hv]);exact ⟨rfl,trivial,rfl⟩) ?_
    refine s_gg (v1:=(decide (m_1.Func ≤ 5))) (b1:=true) (v2:=(c_2.Kind != 1)) (.ptr 0 0 2) rfl (fun hv hw => by (try simp only [gs_on hv,gs_on hw]);exact ⟨rfl,trivial,rfl⟩) ?_;refine s_gg (v1:=(decide (m_1.Func ≤ 5))) (b1:=true) (v2:=(c_2.Kind != 1)) (.lst 3 (m_1.Value.map encGAtom)) rfl (fun hv hw => by (try simp only [gs_on hv,gs_on hw]);exact ⟨rfl,nle,rfl⟩) ?_;refine s_gg (v1:=(decide (m_1.Func ≤ 5))) (b1:=true) (v2:=(c_2.Kind != 1)) (.int .i64 (m_1.Value.length:Int)) rfl (fun hv hw => by (try simp only [gs_on hv,gs_on hw]);exact ⟨rfl,trivial,lenV _ _⟩) ?_;refine s_gg (v1:=(decide (m_1.Func ≤ 5))) (b1:=true) (v2:=(c_2.Kind != 1)) (.bool ((m_1.Value.length:Int) != 1)) rfl (fun hv hw => by (try simp only [gs_on hv,gs_on hw]);exact ⟨rfl,rfl,rfl⟩) ?_
    refine s_gp (v1:=(decide (m_1.Func ≤ 5))) (b1:=true) (v2:=(c_2.Kind != 1)) (x:=true) (y:=((m_1.Value.length:Int) != 1)) rfl (fun hv => by (try simp only [gs_on hv]);rfl) (fun hv hw => by (try simp only [gs_on hv,gs_on hw]);rfl) (fun hv hw => by (try simp only [gs_on hv,gs_on hw]);rfl) ?_;refine s_pick (x:=(bif (c_2.Kind != 1) then true else ((m_1.Value.length:Int) != 1))) (y:=false) rfl (fun hv => by (try simp only [gs_on hv]);rfl) (fun hv => by (try simp only [gs_on hv]);rfl) ?_;refine s_mov (.bool (bif (decide (m_1.Func ≤ 5)) then (bif (c_2.Kind != 1) then true else ((m_1.Value.length:Int) != 1)) else false)) rfl<|w_done<|?_;obtain rfl:=os hb1;exact ⟨[],[],_,_,rfl,rfl,⟨.refl _,trivial⟩,(.refl _)⟩
   ·rcases oi hf with ⟨c17,hf⟩ | ⟨c17,hf⟩
    ·refine w_condt rfl c17<|sr<|s_mov (.int .i64 9) rfl<|dk<|w_ret<|?_;obtain rfl:=os hf;exact r_flat ⟨trivial,trivial⟩ rfl (.refl _)
    ·refine w_condf rfl (bf c17)<|w_skip<|k_blk<|k_seq<|sr<|s_mov (.int .i64 0) rfl<|dk<|w_ret<|?_;obtain rfl:=os hf;exact r_flat ⟨trivial,trivial⟩ rfl (.refl _)

/- impl.mutCode -/
def c150:ACode :=
 (.seq (.reg (tq 2 (.box 4 (.t 0)) (tq 3 (.box 3 (.t 1)) (tm 4 (.c (.int .i64 0)) .done))))
 (.seq (.reg (tq 6 (.load 4 true (.t 2)) (tq 7 (.faddr 0 (.t 3)) (tq 8 (.load 1 false (.t 7)) (tq 9 (.call 131 [(.t 6),(.t 8)]) (tm 5 (.t 9) .done))))))
 (.seq (.seq (.reg (tm 10 (.t 5) (tq 11 (.bin .lss (.t 10) (.c (.int .i64 0))) .done)))
 (.cond (.t 11) (.seq (.reg (tm 4 (.c (.int .i64 11)) .done))
 .ret)
 .skip))
 (.seq (.reg (tq 12 (.load 3 true (.t 3)) (tq 13 (.faddr 1 (.t 2)) (tq 14 (.load 1 false (.t 13)) (tm 15 (.t 5) (tq 16 (.iaddr 8 (.t 14) (.t 15)) (tq 17 (.load 8 true (.t 16)) (.l ⟨(some 18),none,.call 177 [(.t 12),(.t 17)]⟩ []
 (tm 4 (.t 18) .done) .non))))))))
 .ret))))
theorem fc150:fcomp Tryz.prog Tryz.f150 = some (c150.erase,[.mov (.t 4)],19):=by kernel_rfl
def impl_mutCode (t_1:GTable) (m_2:GMut):Option Int :=
    (impl_Table_columnAt t_1 m_2.Column).bind fun r_3 =>
    if (decide (r_3 < 0)) then
    some 11
    else
    (idx t_1.Columns r_3).bind fun x_6 =>
    (impl_Mut_typeCode m_2 x_6).bind fun r_8 =>
    some r_8
theorem w_impl_mutCode (t_1:GTable) (m_2:GMut) (r:Int) (hf:impl_mutCode t_1 m_2 = some r):CallOK Tryz.prog 150 .flat [(encGTable t_1),(encGMut m_2)] (.int .i64 r):=by
 refine CallOK.of_awp mixed Tryz.func150 fc150 nle ?_;rw [argT_eq];unfold impl_mutCode at hf;unfold c150;refine (show awp Tryz.prog false 0 _ (ofL [(0,(encGTable t_1)),(1,(encGMut m_2))]) [] _ from ?_);refine sr<|s_do (o_box (j:=0) (c:=(.agg [(.str t_1.Name),(.lst 8 (t_1.Columns.map encGColumn)),(.lst 1 (t_1.Unique.map encI)),(.bool t_1.Root)])) rfl trivial rfl rfl)<|s_do (o_box (j:=1) (c:=(.agg [(.str m_2.Column),(.int .i64 m_2.Func),(.lst 3 (m_2.Value.map encGAtom))])) rfl trivial rfl rfl)<|s_mov (.int .i64 0) rfl<|dk<|sr<|?_
 obtain ⟨r_3,er4,hf⟩:=ob hf
 refine s_q (.agg [(.str t_1.Name),(.lst 8 (t_1.Columns.map encGColumn)),(.lst 1 (t_1.Unique.map encI)),(.bool t_1.Root)]) rfl nle rfl<|s_q (.ptr 1 0 0) rfl trivial rfl<|s_q (.str m_2.Column) rfl nle rfl<|s_do (o_call (w_impl_Table_columnAt _ _ _ er4) rfl (.refl _) rfl)<|s_mov (.int .i64 r_3) rfl<|dk<|awp_seq<|sr<|s_mov (.int .i64 r_3) rfl<|s_q (.bool (decide (r_3 < 0))) rfl rfl rfl<|dk<|?_
 rcases oi hf with ⟨c5,hf⟩ | ⟨c5,hf⟩
 ·refine w_condt rfl c5<|sr<|s_mov (.int .i64 11) rfl<|dk<|w_ret<|?_;obtain rfl:=os hf;exact r_flat ⟨trivial,trivial⟩ rfl (.refl _)
 ·refine w_condf rfl (bf c5)<|w_skip<|k_seq<|sr<|?_
  obtain ⟨x_6,ex7,hf⟩:=ob hf
  obtain ⟨r_8,er9,hf⟩:=ob hf
  refine s_q (.agg [(.str m_2.Column),(.int .i64 m_2.Func),(.lst 3 (m_2.Value.map encGAtom))]) rfl nle rfl<|s_q (.ptr 0 0 1) rfl trivial rfl<|s_q (.lst 8 (t_1.Columns.map encGColumn)) rfl nle rfl<|s_mov (.int .i64 r_3) rfl<|s_do (o_iaddr (enc:=encGColumn) rfl rfl (idx0 ex7) (idx1 ex7))<|s_q (encGColumn x_6) rfl nle rfl<|s_dol (o_call (w_impl_Mut_typeCode _ _ _ er9) rfl (.refl _) rfl) a_same trivial<|s_mov (.int .i64 r_8) rfl<|dk<|w_ret<|?_;obtain rfl:=os hf;exact r_flat ⟨trivial,trivial⟩ rfl (.refl _)

/- impl.mutsCode -/
def c96:ACode :=
 (.seq (.reg (tq 2 (.box 4 (.t 0)) (tm 4 (.c (.int .i64 0)) .done)))
 (.seq (.seq (.reg (tm 8 (.t 1) (tq 9 (.len (.t 8)) (tm 10 (.c (.int .i64 0)) .done))))
 (.block 0 (.loop (.seq (.reg (tq 11 (.bin .lss (.t 10) (.t 9)) .done))
 (.seq (.cond (.t 11) .skip
 (.exit 0))
 (.seq (.block 1 (.seq (.reg (tq 12 (.iaddr 3 (.t 8) (.t 10)) (tq 13 (.load 3 true (.t 12)) (tq 6 (.box 3 (.c (.agg [(.str []),(.int .i64 0),.nil]))) (.q ⟨none,none,.store 3 (.t 6) (.t 13)⟩
 .done)))))
 (.seq (.reg (tq 14 (.load 4 true (.t 2)) (tq 15 (.load 3 true (.t 6)) (tq 16 (.call 150 [(.t 14),(.t 15)]) (tm 7 (.t 16) .done)))))
 (.seq (.reg (tm 17 (.t 7) (tq 18 (.bin .neq (.t 17) (.c (.int .i64 0))) .done)))
 (.cond (.t 18) (.seq (.reg (tm 19 (.t 7) (tm 4 (.t 19) .done)))
 .ret)
 .skip)))))
 (.reg (tq 20 (.bin .add (.t 10) (.c (.int .i64 1))) (tm 10 (.t 20) .done)))))))))
 (.cut (.seq (.reg (tm 4 (.c (.int .i64 0)) .done))
 .ret))))
theorem fc96:fcomp Tryz.prog Tryz.f96 = some (c96.erase,[.mov (.t 4)],21):=by kernel_rfl
def impl_mutsCode_L1 (t_1:GTable):List GMut → Option (Fl Int Unit)
  | [] =>
    some (.go ())
  | x_31 :: xs =>
    (impl_mutCode t_1 x_31).bind fun r_32 =>
    if (r_32 != 0) then
    some (.ret r_32)
    else
    impl_mutsCode_L1 t_1 xs 

def impl_mutsCode (t_1:GTable) (list_2:(List GMut)):Option Int :=
    (impl_mutsCode_L1 t_1 list_2 ).bind fun q => (match q with
    | .ret r => some r
    | .go _ =>
    some 0)
theorem w_impl_mutsCode (t_1:GTable) (list_2:(List GMut)) (r:Int) (hf:impl_mutsCode t_1 list_2 = some r):CallOK Tryz.prog 96 .flat [(encGTable t_1),(.lst 3 (list_2.map encGMut))] (.int .i64 r):=by
 refine CallOK.of_awp mixed Tryz.func96 fc96 nle ?_;rw [argT_eq];unfold impl_mutsCode at hf;unfold c96;refine (show awp Tryz.prog false 0 _ (ofL [(0,(encGTable t_1)),(1,(.lst 3 (list_2.map encGMut)))]) [] _ from ?_);refine sr<|s_do (o_box (j:=0) (c:=(.agg [(.str t_1.Name),(.lst 8 (t_1.Columns.map encGColumn)),(.lst 1 (t_1.Unique.map encI)),(.bool t_1.Root)])) rfl trivial rfl rfl)<|s_mov (.int .i64 0) rfl<|dk<|awp_seq<|sr<|s_mov (.lst 3 (list_2.map encGMut)) rfl<|s_dof (o_len (enc:=encGMut) rfl) fun hl3 => s_mov (.int .i64 0) rfl<|dk<|?_
 obtain ⟨p24,hb1,hf⟩:=ob hf
 refine awp_cutx (X:={q:Unit // p24 = .go q}) (fun q => ([],[])) ?_ ?_
 ·refine awp_loop (X:={q:Nat // impl_mutsCode_L1 t_1 (list_2.drop q)  = some p24}) (fun q => ([(2,(.ptr 0 0 0)),(8,(.lst 3 (list_2.map encGMut))),(9,(.int .i64 (list_2.length:Int))),(10,(.int .i64 (q.1:Int)))],[.box 4 (.agg [(.str t_1.Name),(.lst 8 (t_1.Columns.map encGColumn)),(.lst 1 (t_1.Unique.map encI)),(.bool t_1.Root)])])) (fun q => list_2.length - q.1) ⟨0,hb1⟩ ⟨[],[0],_,_,rfl,rfl,⟨.refl _,⟨.refl _,⟨.refl _,⟨.refl _,trivial⟩⟩⟩⟩,(.refl _)⟩ ?_
  rintro ⟨s10_17,hc1⟩
  have hc1:impl_mutsCode_L1 t_1 (list_2.drop s10_17)  = some p24:=hc1
  refine (show awp Tryz.prog false 0 _ (ofL [(2,(.ptr 0 0 0)),(8,(.lst 3 (list_2.map encGMut))),(9,(.int .i64 (list_2.length:Int))),(10,(.int .i64 (s10_17:Int)))]) [.box 4 (.agg [(.str t_1.Name),(.lst 8 (t_1.Columns.map encGColumn)),(.lst 1 (t_1.Unique.map encI)),(.bool t_1.Root)])] _ from ?_)
  rcases dropc list_2 s10_17 with ⟨hie27,hd30⟩ | ⟨hlt25,x_31,hx26,hd30⟩
  ·rw [hd30,impl_mutsCode_L1.eq_1] at hc1
   have hq29:=dlf hie27
   refine sr<|s_q (.bool (decide ((s10_17:Int) < (list_2.length:Int)))) rfl rfl rfl<|dk<|awp_seq<|w_condf rfl hq29<|w_exit<|k_seqx<|k_loopx<|k_blkx<|?_;obtain rfl:=os hc1;exact k_cutn ⟨_,rfl⟩ ⟨[],[],_,_,rfl,rfl,trivial,(.refl _)⟩
  ·rw [hd30,impl_mutsCode_L1.eq_2] at hc1
   have hq29:=dlt hlt25
   refine sr<|s_q (.bool (decide ((s10_17:Int) < (list_2.length:Int)))) rfl rfl rfl<|dk<|awp_seq<|w_condt rfl hq29<|w_skip<|k_seq<|awp_seq<|w_blk<|sr<|s_do (o_iaddrn (enc:=encGMut) rfl rfl hx26)<|s_q (encGMut x_31) rfl nle rfl<|s_do (o_box (j:=1) (c:=(.agg [(.str []),(.int .i64 0),.nil])) rfl trivial rfl rfl)<|s_do0 (o_storebox (v:=(.agg [(.str x_31.Column),(.int .i64 x_31.Func),(.lst 3 (x_31.Value.map encGAtom))])) (y':=(.agg [(.str x_31.Column),(.int .i64 x_31.Func),(.lst 3 (x_31.Value.map encGAtom))])) rfl rfl rfl trivial ⟨rfl,nle⟩ ⟨⟨rfl,trivial⟩,⟨⟨rfl,trivial⟩,⟨⟨rfl,trivial⟩,trivial⟩⟩⟩ rfl)<|dk<|?_
   refine sr<|?_
   obtain ⟨r_32,er33,hc1⟩:=ob hc1
   refine s_q (.agg [(.str t_1.Name),(.lst 8 (t_1.Columns.map encGColumn)),(.lst 1 (t_1.Unique.map encI)),(.bool t_1.Root)]) rfl nle rfl<|s_q (.agg [(.str x_31.Column),(.int .i64 x_31.Func),(.lst 3 (x_31.Value.map encGAtom))]) rfl nle rfl<|s_do (o_call (w_impl_mutCode _ _ _ er33) rfl (.refl _) rfl)<|s_mov (.int .i64 r_32) rfl<|dk<|sr<|s_mov (.int .i64 r_32) rfl<|s_q (.bool (r_32 != 0)) rfl rfl rfl<|dk<|?_
   rcases oi hc1 with ⟨c34,hc1⟩ | ⟨c34,hc1⟩
   ·refine w_condt rfl c34<|sr<|s_mov (.int .i64 r_32) rfl<|s_mov (.int .i64 r_32) rfl<|dk<|w_ret<|?_;obtain rfl:=os hc1;obtain rfl:=os hf;exact r_flat ⟨trivial,trivial⟩ rfl (.refl _)
   ·refine w_condf rfl (bf c34)<|w_skip<|k_blk<|k_seq<|w_reg<|s_q (.int .i64 (w64 ((s10_17:Int) + 1))) rfl rfl rfl<|s_mov (.int .i64 (w64 ((s10_17:Int) + 1))) rfl<|w_done<|?_;exact k_loopn ⟨(s10_17 + 1),hc1⟩ (mul hlt25) ⟨[],[0],_,_,rfl,rfl,⟨.refl _,⟨.refl _,⟨.refl _,⟨.of_eq (congrArg (AV.int _) (w64_incr hlt25 hl3)),trivial⟩⟩⟩⟩,(.refl _)⟩
 ·rintro ⟨_,rfl⟩
  refine sr<|s_mov (.int .i64 0) rfl<|dk<|w_ret<|?_;obtain rfl:=os hf;exact r_flat ⟨trivial,trivial⟩ rfl (.refl _)

/- impl.firstOf -/
def c92:ACode :=
 (.seq (.reg (tm 2 (.c (.int .i64 0)) .done))
 (.seq (.seq (.reg (tm 5 (.t 0) (tq 6 (.len (.t 5)) (tm 7 (.c (.int .i64 0)) .done))))
 (.block 0 (.loop (.seq (.reg (tq 8 (.bin .lss (.t 7) (.t 6)) .done))
 (.seq (.cond (.t 8) .skip
 (.exit 0))
 (.seq (.block 1 (.seq (.reg (tq 9 (.iaddr 1 (.t 5) (.t 7)) (tq 10 (.load 1 false (.t 9)) (tm 4 (.t 10) .done))))
 (.seq (.reg (tm 11 (.t 4) (tq 12 (.bin .neq (.t 11) (.c (.int .i64 0))) .done)))
 (.cond (.t 12) (.seq (.reg (tm 13 (.t 4) (tm 2 (.t 13) .done)))
 .ret)
 .skip))))
 (.reg (tq 14 (.bin .add (.t 7) (.c (.int .i64 1))) (tm 7 (.t 14) .done)))))))))
 (.cut (.seq (.reg (tm 2 (.c (.int .i64 0)) .done))
 .ret))))
theorem fc92:fcomp Tryz.prog Tryz.f92 = some (c92.erase,[.mov (.t 2)],15):=by kernel_rfl
def impl_firstOf_L1 :List Int → Option (Fl Int Unit)
  | [] =>
    some (.go ())
  | x_24 :: xs =>
    if (x_24 != 0) then
    some (.ret x_24)
    else
    impl_firstOf_L1 xs 

def impl_firstOf (codes_1:(List Int)):Option Int :=
    (impl_firstOf_L1 codes_1 ).bind fun q => (match q with
    | .ret r => some r
    | .go _ =>
    some 0)
theorem w_impl_firstOf (codes_1:(List Int)) (r:Int) (hf:impl_firstOf codes_1 = some r):CallOK Tryz.prog 92 .flat [(.lst 1 (codes_1.map encI))] (.int .i64 r):=by
 refine CallOK.of_awp mixed Tryz.func92 fc92 nle ?_;rw [argT_eq];unfold impl_firstOf at hf;unfold c92;refine (show awp Tryz.prog false 0 _ (ofL [(0,(.lst 1 (codes_1.map encI)))]) [] _ from ?_);refine sr<|s_mov (.int .i64 0) rfl<|dk<|awp_seq<|sr<|s_mov (.lst 1 (codes_1.map encI)) rfl<|s_dof (o_len (enc:=encI) rfl) fun hl2 => s_mov (.int .i64 0) rfl<|dk<|?_
 obtain ⟨p17,hb1,hf⟩:=ob hf
 refine awp_cutx (X:={q:Unit // p17 = .go q}) (fun q => ([],[])) ?_ ?_
 ·refine awp_loop (X:={q:Nat // impl_firstOf_L1 (codes_1.drop q)  = some p17}) (fun q => ([(5,(.lst 1 (codes_1.map encI))),(6,(.int .i64 (codes_1.length:Int))),(7,(.int .i64 (q.1:Int)))],[])) (fun q => codes_1.length - q.1) ⟨0,hb1⟩ ⟨[],[],_,_,rfl,rfl,⟨.refl _,⟨.refl _,⟨.refl _,trivial⟩⟩⟩,(.refl _)⟩ ?_
  rintro ⟨s7_12,hc1⟩
  have hc1:impl_firstOf_L1 (codes_1.drop s7_12)  = some p17:=hc1
  refine (show awp Tryz.prog false 0 _ (ofL [(5,(.lst 1 (codes_1.map encI))),(6,(.int .i64 (codes_1.length:Int))),(7,(.int .i64 (s7_12:Int)))]) [] _ from ?_)
  rcases dropc codes_1 s7_12 with ⟨hie20,hd23⟩ | ⟨hlt18,x_24,hx19,hd23⟩
  ·rw [hd23,impl_firstOf_L1.eq_1] at hc1
   have hq22:=dlf hie20
   refine sr<|s_q (.bool (decide ((s7_12:Int) < (codes_1.length:Int)))) rfl rfl rfl<|dk<|awp_seq<|w_condf rfl hq22<|w_exit<|k_seqx<|k_loopx<|k_blkx<|?_;obtain rfl:=os hc1;exact k_cutn ⟨_,rfl⟩ ⟨[],[],_,_,rfl,rfl,trivial,(.refl _)⟩
  ·rw [hd23,impl_firstOf_L1.eq_2] at hc1
   have hq22:=dlt hlt18
   refine sr<|s_q (.bool (decide ((s7_12:Int) < (codes_1.length:Int)))) rfl rfl rfl<|dk<|awp_seq<|w_condt rfl hq22<|w_skip<|k_seq<|awp_seq<|w_blk<|sr<|s_do (o_iaddrn (enc:=encI) rfl rfl hx19)<|s_q (.int .i64 x_24) rfl ⟨rfl,rfl⟩ rfl<|s_mov (.int .i64 x_24) rfl<|dk<|sr<|s_mov (.int .i64 x_24) rfl<|s_q (.bool (x_24 != 0)) rfl rfl rfl<|dk<|?_
   rcases oi hc1 with ⟨c25,hc1⟩ | ⟨c25,hc1⟩
   ·refine w_condt rfl c25<|sr<|s_mov (.int .i64 x_24) rfl<|s_mov (.int .i64 x_24) rfl<|dk<|w_ret<|?_;obtain rfl:=os hc1;obtain rfl:=os hf;exact r_flat ⟨trivial,trivial⟩ rfl (.refl _)
   ·refine w_condf rfl (bf c25)<|w_skip<|k_blk<|k_seq<|w_reg<|s_q (.int .i64 (w64 ((s7_12:Int) + 1))) rfl rfl rfl<|s_mov (.int .i64 (w64 ((s7_12:Int) + 1))) rfl<|w_done<|?_;exact k_loopn ⟨(s7_12 + 1),hc1⟩ (mul hlt18) ⟨[],[],_,_,rfl,rfl,⟨.refl _,⟨.refl _,⟨.of_eq (congrArg (AV.int _) (w64_incr hlt18 hl2)),trivial⟩⟩⟩,(.refl _)⟩
 ·rintro ⟨_,rfl⟩
  refine sr<|s_mov (.int .i64 0) rfl<|dk<|w_ret<|?_;obtain rfl:=os hf;exact r_flat ⟨trivial,trivial⟩ rfl (.refl _)

/- impl.opCode -/
def c41:ACode :=
 (.seq (.reg (tq 2 (.box 1 (.t 0)) (tq 3 (.box 8 (.t 1)) (tm 4 (.c (.int .i64 0)) .done))))
 (.seq (.seq (.reg (tq 7 (.faddr 0 (.t 3)) (tq 8 (.load 1 false (.t 7)) (tq 9 (.bin .gtr (.t 8) (.c (.int .i64 6))) .done))))
 (.cond (.t 9) (.seq (.seq (.reg (tq 10 (.faddr 0 (.t 3)) (tq 11 (.load 1 false (.t 10)) (tq 12 (.bin .eql (.t 11) (.c (.int .i64 10))) (tm 13 (.t 12) (tg 14 13 true (.faddr 2 (.t 3)) (tg 15 13 true (.load 1 false (.t 14)) (tg 16 13 true (.call 91 [(.t 15)]) (tg 17 13 true (.not (.t 16)) (tq 18 (.pick (.t 13) (.t 17) (.c (.bool false))) .done))))))))))
 (.cut (.cond (.t 18) (.seq (.reg (tm 4 (.c (.int .i64 3)) .done))
 .ret)
 .skip)))
 (.seq (.reg (tm 4 (.c (.int .i64 0)) .done))
 .ret))
 .skip))
 (.seq (.reg (tq 19 (.load 1 true (.t 2)) (tq 20 (.faddr 1 (.t 3)) (tq 21 (.load 1 false (.t 20)) (tq 22 (.call 85 [(.t 19),(.t 21)]) (tm 5 (.t 22) .done))))))
 (.seq (.block 0 (.seq (.reg (tm 24 (.t 5) (tq 25 (.bin .lss (.t 24) (.c (.int .i64 0))) (tm 23 (.t 25) .done))))
 (.cond (.t 23) (.seq (.reg (tm 4 (.c (.int .i64 10)) .done))
 .ret)
 (.seq (.reg (tq 27 (.faddr 2 (.t 3)) (tq 28 (.load 1 false (.t 27)) (tq 29 (.bin .neq (.t 28) (.c (.str []))) (tm 30 (.t 29) (tg 31 30 true (.faddr 2 (.t 3)) (tg 32 30 true (.load 1 false (.t 31)) (tg 33 30 true (.call 91 [(.t 32)]) (tg 34 30 true (.not (.t 33)) (tq 35 (.pick (.t 30) (.t 34) (.c (.bool false))) (tm 26 (.t 35) .done)))))))))))
 (.cut (.cond (.t 26) (.seq (.reg (tm 4 (.c (.int .i64 3)) .done))
 .ret)
 .skip))))))
 (.seq (.reg (tq 36 (.faddr 0 (.t 2)) (tq 37 (.load 1 false (.t 36)) (tm 38 (.t 5) (tq 39 (.iaddr 4 (.t 37) (.t 38)) (tq 40 (.load 4 true (.t 39)) (tq 6 (.box 4 (.c (.agg [(.str []),.nil,.nil,(.bool false)]))) (.q ⟨none,none,.store 4 (.t 6) (.t 40)⟩
 .done))))))))
 (.seq (.reg (tq 41 (.load 4 true (.t 6)) (tq 42 (.faddr 6 (.t 3)) (tq 43 (.load 1 false (.t 42)) (tq 45 (.load 4 true (.t 6)) (tq 46 (.faddr 3 (.t 3)) (tq 47 (.load 1 false (.t 46)) (tq 49 (.load 4 true (.t 6)) (tq 50 (.faddr 4 (.t 3)) (tq 51 (.load 1 false (.t 50)) (tq 53 (.load 4 true (.t 6)) (tq 54 (.faddr 5 (.t 3)) (tq 55 (.load 1 false (.t 54)) (.l ⟨(some 44),none,.call 93 [(.t 41),(.t 43)]⟩ [⟨(some 55),none,.load 1 false (.t 54)⟩,⟨(some 54),none,.faddr 5 (.t 3)⟩,⟨(some 53),none,.load 4 true (.t 6)⟩,⟨(some 51),none,.load 1 false (.t 50)⟩,⟨(some 50),none,.faddr 4 (.t 3)⟩,⟨(some 49),none,.load 4 true (.t 6)⟩,⟨(some 47),none,.load 1 false (.t 46)⟩,⟨(some 46),none,.faddr 3 (.t 3)⟩,⟨(some 45),none,.load 4 true (.t 6)⟩]
 (.l ⟨(some 48),none,.call 94 [(.t 45),(.t 47)]⟩ [⟨(some 55),none,.load 1 false (.t 54)⟩,⟨(some 54),none,.faddr 5 (.t 3)⟩,⟨(some 53),none,.load 4 true (.t 6)⟩,⟨(some 51),none,.load 1 false (.t 50)⟩,⟨(some 50),none,.faddr 4 (.t 3)⟩,⟨(some 49),none,.load 4 true (.t 6)⟩]
 (.l ⟨(some 52),none,.call 95 [(.t 49),(.t 51)]⟩ [⟨(some 55),none,.load 1 false (.t 54)⟩,⟨(some 54),none,.faddr 5 (.t 3)⟩,⟨(some 53),none,.load 4 true (.t 6)⟩]
 (.l ⟨(some 56),none,.call 96 [(.t 53),(.t 55)]⟩ []
 (.l ⟨(some 57),none,.bslice 1 [(.t 44),(.t 48),(.t 52),(.t 56)]⟩ []
 (.l ⟨(some 58),none,.call 92 [(.t 57)]⟩ []
 (tm 4 (.t 58) .done) .non) .non) .non) .non) .non) .non))))))))))))))
 .ret))))))
theorem fc41:fcomp Tryz.prog Tryz.f41 = some (c41.erase,[.mov (.t 4)],59):=by kernel_rfl
def impl_opCode (s_1:GSchema) (o_2:GOp):Option Int :=
    if (decide (o_2.Kind > 6)) then
    ((if (o_2.Kind == 10) then
    (impl_NameOK o_2.Name).bind fun r_10 =>
    some (!r_10)
    else
    some false:Option Bool)).bind fun s18_7 =>
    if s18_7 then
    some 3
    else
    some 0
    else
    (impl_Schema_tableAt s_1 o_2.Table).bind fun r_13 =>
    if (decide (r_13 < 0)) then
    some 10
    else
    ((if (!(o_2.Name == [])) then
    (impl_NameOK o_2.Name).bind fun r_22 =>
    some (!r_22)
    else
    some false:Option Bool)).bind fun s26_19 =>
    if s26_19 then
    some 3
    else
    (idx s_1.Tables r_13).bind fun x_25 =>
    (impl_columnsCode x_25 o_2.Columns).bind fun r_27 =>
    (impl_condsCode x_25 o_2.Where).bind fun r_29 =>
    (impl_setsCode x_25 o_2.Row).bind fun r_31 =>
    (impl_mutsCode x_25 o_2.Muts).bind fun r_33 =>
    (impl_firstOf [r_27,r_29,r_31,r_33]).bind fun r_35 =>
    some r_35
theorem w_impl_opCode (s_1:GSchema) (o_2:GOp) (r:Int) (hf:impl_opCode s_1 o_2 = some r):CallOK Tryz.prog 41 .flat [(encGSchema s_1),(encGOp o_2)] (.int .i64 r):=by
 refine CallOK.of_awp mixed Tryz.func41 fc41 nle ?_;rw [argT_eq];unfold impl_opCode at hf;unfold c41;refine (show awp Tryz.prog false 0 _ (ofL [(0,(encGSchema s_1)),(1,(encGOp o_2))]) [] _ from ?_);refine sr<|s_do (o_box (j:=0) (c:=(.agg [(.lst 4 (s_1.Tables.map encGTable))])) rfl trivial rfl rfl)<|s_do (o_box (j:=1) (c:=(.agg [(.int .i64 o_2.Kind),(.str o_2.Table),(.str o_2.Name),(.lst 3 (o_2.Where.map encGCond)),(.lst 3 (o_2.Row.map encGSet)),(.lst 3 (o_2.Muts.map encGMut)),(.lst 1 (o_2.Columns.map AV.str)),(.bool o_2.Until)])) rfl trivial rfl rfl)<|s_mov (.int .i64 0) rfl<|dk<|awp_seq<|sr<|s_q (.ptr 1 0 0) rfl trivial rfl<|s_q (.int .i64 o_2.Kind) rfl nle rfl<|?_
 refine s_q (.bool (decide (o_2.Kind > 6))) rfl rfl rfl<|dk<|?_
 rcases oi hf with ⟨c3,hf⟩ | ⟨c3,hf⟩
 ·refine w_condt rfl c3<|awp_seq<|awp_seq<|?_
  obtain ⟨s18_7,hb1,hf⟩:=ob hf
  refine awp_cut ([(18,(.bool s18_7))],[]) ?_ ?_
  ·refine w_reg ?_
   rcases oi hb1 with ⟨c9,hb1⟩ | ⟨c9,hb1⟩
   ·obtain ⟨r_10,er11,hb1⟩:=ob hb1
    refine s_q (.ptr 1 0 0) rfl trivial rfl<|s_q (.int .i64 o_2.Kind) rfl nle rfl<|s_q (.bool (o_2.Kind == 10)) rfl rfl rfl<|s_mov (.bool (o_2.Kind == 10)) rfl<|s_lit (s:=13) (b:=true) rfl c9<|s_on rfl<|s_q (.ptr 1 0 2) rfl trivial rfl<|s_on rfl<|s_q (.str o_2.Name) rfl nle rfl<|s_on rfl<|s_do (o_call (w_impl_NameOK _ _ er11) rfl (.refl _) rfl)<|s_on rfl<|s_q (.bool (!r_10)) rfl trivial rfl<|s_q (.bool (!r_10)) rfl trivial rfl<|w_done<|?_;obtain rfl:=os hb1;exact ⟨[],[],_,_,rfl,rfl,⟨.refl _,trivial⟩,(.refl _)⟩
   ·refine s_q (.ptr 1 0 0) rfl trivial rfl<|s_q (.int .i64 o_2.Kind) rfl nle rfl<|s_q (.bool (o_2.Kind == 10)) rfl rfl rfl<|s_mov (.bool (o_2.Kind == 10)) rfl<|s_lit (s:=13) (b:=false) rfl (bf c9)<|s_off rfl rfl<|s_off rfl rfl<|s_off rfl rfl<|s_off rfl rfl<|s_q (.bool false) rfl trivial rfl<|w_done<|?_;obtain rfl:=os hb1;exact ⟨[],[],_,_,rfl,rfl,⟨.refl _,trivial⟩,(.refl _)⟩
  ·rcases oi hf with ⟨c12,hf⟩ | ⟨c12,hf⟩
   ·refine w_condt rfl c12<|sr<|s_mov (.int .i64 3) rfl<|dk<|w_ret<|?_;obtain rfl:=os hf;exact r_flat ⟨trivial,trivial⟩ rfl (.refl _)
   ·refine w_condf rfl (bf c12)<|w_skip<|k_seq<|sr<|s_mov (.int .i64 0) rfl<|dk<|w_ret<|?_;obtain rfl:=os hf;exact r_flat ⟨trivial,trivial⟩ rfl (.refl _)
 ·refine w_condf rfl (bf c3)<|w_skip<|k_seq<|sr<|?_
  obtain ⟨r_13,er14,hf⟩:=ob hf
  refine s_q (.agg [(.lst 4 (s_1.Tables.map encGTable))]) rfl nle rfl<|s_q (.ptr 1 0 1) rfl trivial rfl<|s_q (.str o_2.Table) rfl nle rfl<|s_do (o_call (w_impl_Schema_tableAt _ _ _ er14) rfl (.refl _) rfl)<|s_mov (.int .i64 r_13) rfl<|dk<|awp_seq<|w_blk<|sr<|s_mov (.int .i64 r_13) rfl<|s_q (.bool (decide (r_13 < 0))) rfl rfl rfl<|s_mov (.bool (decide (r_13 < 0))) rfl<|dk<|?_
  rcases oi hf with ⟨c15,hf⟩ | ⟨c15,hf⟩
  ·refine w_condt rfl c15<|sr<|s_mov (.int .i64 10) rfl<|dk<|w_ret<|?_;obtain rfl:=os hf;exact r_flat ⟨trivial,trivial⟩ rfl (.refl _)
  ·refine w_condf rfl (bf c15)<|awp_seq<|?_
   obtain ⟨s26_19,hb1,hf⟩:=ob hf
   refine awp_cut ([(2,(.ptr 0 0 0)),(3,(.ptr 1 0 0)),(5,(.int .i64 r_13)),(26,(.bool s26_19))],[.box 1 (.agg [(.lst 4 (s_1.Tables.map encGTable))]),.box 8 (.agg [(.int .i64 o_2.Kind),(.str o_2.Table),(.str o_2.Name),(.lst 3 (o_2.Where.map encGCond)),(.lst 3 (o_2.Row.map encGSet)),(.lst 3 (o_2.Muts.map encGMut)),(.lst 1 (o_2.Columns.map AV.str)),(.bool o_2.Until)])]) ?_ ?_
   ·refine w_reg ?_
    rcases oi hb1 with ⟨c21,hb1⟩ | ⟨c21,hb1⟩
    ·obtain ⟨r_22,er23,hb1⟩:=ob hb1
     refine s_q (.ptr 1 0 2) rfl trivial rfl<|s_q (.str o_2.Name) rfl nle rfl<|s_q (.bool (!(o_2.Name == []))) rfl trivial rfl<|s_mov (.bool (!(o_2.Name == []))) rfl<|s_lit (s:=30) (b:=true) rfl c21<|s_on rfl<|s_q (.ptr 1 0 2) rfl trivial rfl<|s_on rfl<|s_q (.str o_2.Name) rfl nle rfl<|s_on rfl<|s_do (o_call (w_impl_NameOK _ _ er23) rfl (.refl _) rfl)<|s_on rfl<|s_q (.bool (!r_22)) rfl trivial rfl<|s_q (.bool (!r_22)) rfl trivial rfl<|s_mov (.bool (!r_22)) rfl<|w_done<|?_;obtain rfl:=os hb1;exact ⟨[],[0,1],_,_,rfl,rfl,⟨.refl _,⟨.refl _,⟨.refl _,⟨.refl _,trivial⟩⟩⟩⟩,(.refl _)⟩
    ·refine s_q (.ptr 1 0 2) rfl trivial rfl<|s_q (.str o_2.Name) rfl nle rfl<|s_q (.bool (!(o_2.Name == []))) rfl trivial rfl<|s_mov (.bool (!(o_2.Name == []))) rfl<|s_lit (s:=30) (b:=false) rfl (bf c21)<|s_off rfl rfl<|s_off rfl rfl<|s_off rfl rfl<|s_off rfl rfl<|s_q (.bool false) rfl trivial rfl<|s_mov (.bool false) rfl<|w_done<|?_;obtain rfl:=os hb1;exact ⟨[],[0,1],_,_,rfl,rfl,⟨.refl _,⟨.refl _,⟨.refl _,⟨.refl _,trivial⟩⟩⟩⟩,(.refl _)⟩
   ·rcases oi hf with ⟨c24,hf⟩ | ⟨c24,hf⟩
    ·refine w_condt rfl c24<|sr<|s_mov (.int .i64 3) rfl<|dk<|w_ret<|?_;obtain rfl:=os hf;exact r_flat ⟨trivial,trivial⟩ rfl (.refl _)
    ·refine w_condf rfl (bf c24)<|w_skip<|k_blk<|k_seq<|sr<|?_
     obtain ⟨x_25,ex26,hf⟩:=ob hf
     refine s_q (.ptr 0 0 0) rfl trivial rfl<|s_q (.lst 4 (s_1.Tables.map encGTable)) rfl nle rfl<|s_mov (.int .i64 r_13) rfl<|s_do (o_iaddr (enc:=encGTable) rfl rfl (idx0 ex26) (idx1 ex26))<|s_q (encGTable x_25) rfl nle rfl<|s_do (o_box (j:=2) (c:=(.agg [(.str []),.nil,.nil,(.bool false)])) rfl trivial rfl rfl)<|s_do0 (o_storebox (v:=(.agg [(.str x_25.Name),(.lst 8 (x_25.Columns.map encGColumn)),(.lst 1 (x_25.Unique.map encI)),(.bool x_25.Root)])) (y':=(.agg [(.str x_25.Name),(.lst 8 (x_25.Columns.map encGColumn)),(.lst 1 (x_25.Unique.map encI)),(.bool x_25.Root)])) rfl rfl rfl trivial ⟨rfl,nle⟩ ⟨⟨rfl,trivial⟩,⟨⟨rfl,trivial⟩,⟨⟨rfl,trivial⟩,⟨⟨rfl,trivial⟩,trivial⟩⟩⟩⟩ rfl)<|?_
     refine dk<|sr<|s_q (.agg [(.str x_25.Name),(.lst 8 (x_25.Columns.map encGColumn)),(.lst 1 (x_25.Unique.map encI)),(.bool x_25.Root)]) rfl nle rfl<|s_q (.ptr 1 0 6) rfl trivial rfl<|s_q (.lst 1 (o_2.Columns.map AV.str)) rfl nle rfl<|s_q (.agg [(.str x_25.Name),(.lst 8 (x_25.Columns.map encGColumn)),(.lst 1 (x_25.Unique.map encI)),(.bool x_25.Root)]) rfl nle rfl<|s_q (.ptr 1 0 3) rfl trivial rfl<|s_q (.lst 3 (o_2.Where.map encGCond)) rfl nle rfl<|s_q (.agg [(.str x_25.Name),(.lst 8 (x_25.Columns.map encGColumn)),(.lst 1 (x_25.Unique.map encI)),(.bool x_25.Root)]) rfl nle rfl<|s_q (.ptr 1 0 4) rfl trivial rfl<|s_q (.lst 3 (o_2.Row.map encGSet)) rfl nle rfl<|?_
     refine s_q (.agg [(.str x_25.Name),(.lst 8 (x_25.Columns.map encGColumn)),(.lst 1 (x_25.Unique.map encI)),(.bool x_25.Root)]) rfl nle rfl<|s_q (.ptr 1 0 5) rfl trivial rfl<|s_q (.lst 3 (o_2.Muts.map encGMut)) rfl nle rfl<|?_
     obtain ⟨r_27,er28,hf⟩:=ob hf
     refine s_dol (o_call (w_impl_columnsCode _ _ _ er28) rfl (.refl _) rfl) a_same trivial ?_
     obtain ⟨r_29,er30,hf⟩:=ob hf
     refine s_dol (o_call (w_impl_condsCode _ _ _ er30) rfl (.refl _) rfl) a_same trivial ?_
     obtain ⟨r_31,er32,hf⟩:=ob hf
     refine s_dol (o_call (w_impl_setsCode _ _ _ er32) rfl (.refl _) rfl) a_same trivial ?_
     obtain ⟨r_33,er34,hf⟩:=ob hf
     refine s_dol (o_call (w_impl_mutsCode _ _ _ er34) rfl (.refl _) rfl) a_same trivial ?_;refine s_dol (o_bslice (j:=3) (as':=[(.int .i64 r_27),(.int .i64 r_29),(.int .i64 r_31),(.int .i64 r_33)]) rfl (fun _ => by decide) ⟨rfl,⟨rfl,⟨rfl,⟨rfl,trivial⟩⟩⟩⟩ (.refl _) rfl rfl rfl) trivial trivial ?_
     obtain ⟨r_35,er36,hf⟩:=ob hf
     refine s_dol (o_call (w_impl_firstOf _ _ er36) rfl (.cons (.of_eq (congrArg (AV.lst _) (tko [r_27,r_29,r_31,r_33]))) .nil) rfl) a_same trivial<|s_mov (.int .i64 r_35) rfl<|dk<|w_ret<|?_;obtain rfl:=os hf;exact r_flat ⟨trivial,trivial⟩ rfl (.refl _)

/- impl.OpCode -/
def c16:ACode :=
 (.seq (.reg (tq 2 (.box 1 (.t 0)) (tq 3 (.box 8 (.t 1)) (tm 4 (.c (.int .i64 0)) (tm 5 (.c (.int .i64 0)) .done)))))
 (.seq (.seq (.reg (tq 6 (.load 1 true (.t 2)) (tq 7 (.call 39 [(.t 6)]) (tq 8 (.not (.t 7)) (tm 9 (.t 8) (tg 10 9 false (.load 8 true (.t 3)) (tg 11 9 false (.call 40 [(.t 10)]) (tg 12 9 false (.not (.t 11)) (tq 13 (.pick (.t 9) (.c (.bool true)) (.t 12)) .done)))))))))
 (.cut (.cond (.t 13) (.seq (.reg (tm 4 (.c (.int .i64 0)) (tm 5 (.c (.int .i64 1)) .done)))
 .ret)
 .skip)))
 (.seq (.reg (tq 14 (.load 1 true (.t 2)) (tq 15 (.load 8 true (.t 3)) (tq 16 (.call 41 [(.t 14),(.t 15)]) (tm 4 (.t 16) (tm 5 (.c (.int .i64 0)) .done))))))
 .ret)))
theorem fc16:fcomp Tryz.prog Tryz.f16 = some (c16.erase,[.mov (.t 4),.mov (.t 5)],17):=by kernel_rfl
def impl_OpCode (s_1:GSchema) (o_2:GOp):Option (Int × Int) :=
    (((impl_SchemaOK s_1).bind fun r_10 =>
    if (!r_10) then
    some true
    else
    (impl_OpOK o_2).bind fun r_13 =>
    some (!r_13):Option Bool)).bind fun s13_8 =>
    if s13_8 then
    some (0,1)
    else
    (impl_opCode s_1 o_2).bind fun r_16 =>
    some (r_16,0)
theorem w_impl_OpCode (s_1:GSchema) (o_2:GOp) (r:(Int × Int)) (hf:impl_OpCode s_1 o_2 = some r):CallOK Tryz.prog 16 .flat [(encGSchema s_1),(encGOp o_2)] (.tup [(.int .i64 r.1),(.int .i64 r.2)]):=by
 refine CallOK.of_awp mixed Tryz.func16 fc16 nle ?_;rw [argT_eq];unfold impl_OpCode at hf;unfold c16;refine (show awp Tryz.prog false 0 _ (ofL [(0,(encGSchema s_1)),(1,(encGOp o_2))]) [] _ from ?_);refine sr<|s_do (o_box (j:=0) (c:=(.agg [(.lst 4 (s_1.Tables.map encGTable))])) rfl trivial rfl rfl)<|s_do (o_box (j:=1) (c:=(.agg [(.int .i64 o_2.Kind),(.str o_2.Table),(.str o_2.Name),(.lst 3 (o_2.Where.map encGCond)),(.lst 3 (o_2.Row.map encGSet)),(.lst 3 (o_2.Muts.map encGMut)),(.lst 1 (o_2.Columns.map AV.str)),(.bool o_2.Until)])) rfl trivial rfl rfl)<|s_mov (.int .i64 0) rfl<|s_mov (.int .i64 0) rfl<|dk<|awp_seq<|awp_seq<|?_
 obtain ⟨s13_8,hb1,hf⟩:=ob hf
 refine awp_cut ([(2,(.ptr 0 0 0)),(3,(.ptr 1 0 0)),(13,(.bool s13_8))],[.box 1 (.agg [(.lst 4 (s_1.Tables.map encGTable))]),.box 8 (.agg [(.int .i64 o_2.Kind),(.str o_2.Table),(.str o_2.Name),(.lst 3 (o_2.Where.map encGCond)),(.lst 3 (o_2.Row.map encGSet)),(.lst 3 (o_2.Muts.map encGMut)),(.lst 1 (o_2.Columns.map AV.str)),(.bool o_2.Until)])]) ?_ ?_
 ·refine w_reg ?_
  obtain ⟨r_10,er11,hb1⟩:=ob hb1
  rcases oi hb1 with ⟨c12,hb1⟩ | ⟨c12,hb1⟩
  ·refine s_q (.agg [(.lst 4 (s_1.Tables.map encGTable))]) rfl nle rfl<|s_do (o_call (w_impl_SchemaOK _ _ er11) rfl (.refl _) rfl)<|s_q (.bool (!r_10)) rfl trivial rfl<|s_mov (.bool (!r_10)) rfl<|s_lit (s:=9) (b:=true) rfl c12<|s_off rfl rfl<|s_off rfl rfl<|s_off rfl rfl<|s_q (.bool true) rfl trivial rfl<|w_done<|?_;obtain rfl:=os hb1;exact ⟨[],[0,1],_,_,rfl,rfl,⟨.refl _,⟨.refl _,⟨.refl _,trivial⟩⟩⟩,(.refl _)⟩
  ·obtain ⟨r_13,er14,hb1⟩:=ob hb1
   refine s_q (.agg [(.lst 4 (s_1.Tables.map encGTable))]) rfl nle rfl<|s_do (o_call (w_impl_SchemaOK _ _ er11) rfl (.refl _) rfl)<|s_q (.bool (!r_10)) rfl trivial rfl<|s_mov (.bool (!r_10)) rfl<|s_lit (s:=9) (b:=false) rfl (bf c12)<|s_on rfl<|s_q (.agg [(.int .i64 o_2.Kind),(.str o_2.Table),(.str o_2.Name),(.lst 3 (o_2.Where.map encGCond)),(.lst 3 (o_2.Row.map encGSet)),(.lst 3 (o_2.Muts.map encGMut)),(.lst 1 (o_2.Columns.map AV.str)),(.bool o_2.Until)]) rfl nle rfl<|s_on rfl<|s_do (o_call (w_impl_OpOK _ _ er14) rfl (.refl _) rfl)<|s_on rfl<|s_q (.bool (!r_13)) rfl trivial rfl<|s_q (.bool (!r_13)) rfl trivial rfl<|w_done<|?_;obtain rfl:=os hb1;exact ⟨[],[0,1],_,_,rfl,rfl,⟨.refl _,⟨.refl _,⟨.refl _,trivial⟩⟩⟩,(.refl _)⟩
 ·rcases oi hf with ⟨c15,hf⟩ | ⟨c15,hf⟩
  ·refine w_condt rfl c15<|sr<|s_mov (.int .i64 0) rfl<|s_mov (.int .i64 1) rfl<|dk<|w_ret<|?_;obtain rfl:=os hf;exact r_flat ⟨trivial,⟨trivial,trivial⟩⟩ rfl (.refl _)
  ·refine w_condf rfl (bf c15)<|w_skip<|k_seq<|sr<|?_
   obtain ⟨r_16,er17,hf⟩:=ob hf
   refine s_q (.agg [(.lst 4 (s_1.Tables.map encGTable))]) rfl nle rfl<|s_q (.agg [(.int .i64 o_2.Kind),(.str o_2.Table),(.str o_2.Name),(.lst 3 (o_2.Where.map encGCond)),(.lst 3 (o_2.Row.map encGSet)),(.lst 3 (o_2.Muts.map encGMut)),(.lst 1 (o_2.Columns.map AV.str)),(.bool o_2.Until)]) rfl nle rfl<|s_do (o_call (w_impl_opCode _ _ _ er17) rfl (.refl _) rfl)<|s_mov (.int .i64 r_16) rfl<|s_mov (.int .i64 0) rfl<|dk<|w_ret<|?_;obtain rfl:=os hf;exact r_flat ⟨trivial,⟨trivial,trivial⟩⟩ rfl (.refl _)

/- laws.eqColumn -/
def c164:ACode :=
 (.seq (.reg (tq 2 (.box 8 (.t 0)) (tq 3 (.box 8 (.t 1)) (tm 4 (.c (.bool false)) .done))))
 (.seq (.seq (.reg (tq 5 (.faddr 0 (.t 2)) (tq 6 (.load 1 false (.t 5)) (tq 7 (.faddr 0 (.t 3)) (tq 8 (.load 1 false (.t 7)) (tq 9 (.bin .neq (.t 6) (.t 8)) .done))))))
 (.cond (.t 9) (.seq (.reg (tm 4 (.c (.bool false)) .done))
 .ret)
 .skip))
 (.seq (.seq (.reg (tq 10 (.faddr 1 (.t 2)) (tq 11 (.load 1 false (.t 10)) (tq 12 (.faddr 1 (.t 3)) (tq 13 (.load 1 false (.t 12)) (tq 14 (.bin .neq (.t 11) (.t 13)) .done))))))
 (.cond (.t 14) (.seq (.reg (tm 4 (.c (.bool false)) .done))
 .ret)
 .skip))
 (.seq (.seq (.reg (tq 15 (.faddr 2 (.t 2)) (tq 16 (.load 1 false (.t 15)) (tq 17 (.faddr 2 (.t 3)) (tq 18 (.load 1 false (.t 17)) (tq 19 (.bin .neq (.t 16) (.t 18)) .done))))))
 (.cond (.t 19) (.seq (.reg (tm 4 (.c (.bool false)) .done))
 .ret)
 .skip))
 (.seq (.seq (.reg (tq 20 (.faddr 3 (.t 2)) (tq 21 (.load 1 false (.t 20)) (tq 22 (.faddr 3 (.t 3)) (tq 23 (.load 1 false (.t 22)) (tq 24 (.bin .neq (.t 21) (.t 23)) .done))))))
 (.cond (.t 24) (.seq (.reg (tm 4 (.c (.bool false)) .done))
 .ret)
 .skip))
 (.seq (.seq (.reg (tq 25 (.faddr 4 (.t 2)) (tq 26 (.load 1 false (.t 25)) (tq 27 (.faddr 4 (.t 3)) (tq 28 (.load 1 false (.t 27)) (tq 29 (.bin .neq (.t 26) (.t 28)) .done))))))
 (.cond (.t 29) (.seq (.reg (tm 4 (.c (.bool false)) .done))
 .ret)
 .skip))
 (.seq (.seq (.reg (tq 30 (.faddr 5 (.t 2)) (tq 31 (.load 1 false (.t 30)) (tq 32 (.faddr 5 (.t 3)) (tq 33 (.load 1 false (.t 32)) (tq 34 (.bin .neq (.t 31) (.t 33)) .done))))))
 (.cond (.t 34) (.seq (.reg (tm 4 (.c (.bool false)) .done))
 .ret)
 .skip))
 (.seq (.seq (.reg (tq 35 (.faddr 6 (.t 2)) (tq 36 (.load 1 false (.t 35)) (tq 37 (.faddr 6 (.t 3)) (tq 38 (.load 1 false (.t 37)) (tq 39 (.bin .neq (.t 36) (.t 38)) .done))))))
 (.cond (.t 39) (.seq (.reg (tm 4 (.c (.bool false)) .done))
 .ret)
 .skip))
 (.seq (.seq (.reg (tq 40 (.faddr 7 (.t 2)) (tq 41 (.load 1 false (.t 40)) (tq 42 (.faddr 7 (.t 3)) (tq 43 (.load 1 false (.t 42)) (tq 44 (.eqB true (.t 41) (.t 43)) .done))))))
 (.cond (.t 44) (.seq (.reg (tm 4 (.c (.bool false)) .done))
 .ret)
 .skip))
 (.seq (.reg (tm 4 (.c (.bool true)) .done))
 .ret))))))))))
theorem fc164:fcomp Tryz.prog Tryz.f164 = some (c164.erase,[.mov (.t 4)],45):=by kernel_rfl
def laws_eqColumn (a_1:GColumn) (b_2:GColumn):Option Bool :=
    if (!(a_1.Name == b_2.Name)) then
    some false
    else
    if (a_1.Kind != b_2.Kind) then
    some false
    else
    if (a_1.Min != b_2.Min) then
    some false
    else
    if (a_1.Max != b_2.Max) then
    some false
    else
    if (a_1.Low != b_2.Low) then
    some false
    else
    if (a_1.High != b_2.High) then
    some false
    else
    if (!(a_1.Ref == b_2.Ref)) then
    some false
    else
    if (!(a_1.Strong == b_2.Strong)) then
    some false
    else
    some true
theorem w_laws_eqColumn (a_1:GColumn) (b_2:GColumn) (r:Bool) (hf:laws_eqColumn a_1 b_2 = some r):CallOK Tryz.prog 164 .flat [(encGColumn a_1),(encGColumn b_2)] (.bool r):=by
 refine CallOK.of_awp mixed Tryz.func164 fc164 nle ?_;rw [argT_eq];unfold laws_eqColumn at hf;unfold c164;refine (show awp Tryz.prog false 0 _ (ofL [(0,(encGColumn a_1)),(1,(encGColumn b_2))]) [] _ from ?_);refine sr<|s_do (o_box (j:=0) (c:=(.agg [(.str a_1.Name),(.int .i64 a_1.Kind),(.int .i64 a_1.Min),(.int .i64 a_1.Max),(.int .i64 a_1.Low),(.int .i64 a_1.High),(.str a_1.Ref),(.bool a_1.Strong)])) rfl trivial rfl rfl)<|s_do (o_box (j:=1) (c:=(.agg [(.str b_2.Name),(.int .i64 b_2.Kind),(.int .i64 b_2.Min),(.int .i64 b_2.Max),(.int .i64 b_2.Low),(.int .i64 b_2.High),(.str b_2.Ref),(.bool b_2.Strong)])) rfl trivial rfl rfl)<|s_mov (.bool false) rfl<|dk<|awp_seq<|?_
 refine sr<|s_q (.ptr 0 0 0) rfl trivial rfl<|s_q (.str a_1.Name) rfl nle rfl<|s_q (.ptr 1 0 0) rfl trivial rfl<|s_q (.str b_2.Name) rfl nle rfl<|s_q (.bool (!(a_1.Name == b_2.Name))) rfl trivial rfl<|dk<|?_
 rcases oi hf with ⟨c3,hf⟩ | ⟨c3,hf⟩
 ·refine w_condt rfl c3<|sr<|s_mov (.bool false) rfl<|dk<|w_ret<|?_;obtain rfl:=os hf;exact r_flat ⟨trivial,trivial⟩ rfl (.refl _)
 ·refine w_condf rfl (bf c3)<|w_skip<|k_seq<|awp_seq<|sr<|s_q (.ptr 0 0 1) rfl trivial rfl<|s_q (.int .i64 a_1.Kind) rfl nle rfl<|s_q (.ptr 1 0 1) rfl trivial rfl<|s_q (.int .i64 b_2.Kind) rfl nle rfl<|s_q (.bool (a_1.Kind != b_2.Kind)) rfl rfl rfl<|dk<|?_
  rcases oi hf with ⟨c4,hf⟩ | ⟨c4,hf⟩
  ·refine w_condt rfl c4<|sr<|s_mov (.bool false) rfl<|dk<|w_ret<|?_;obtain rfl:=os hf;exact r_flat ⟨trivial,trivial⟩ rfl (.refl _)
  ·refine w_condf rfl (bf c4)<|w_skip<|k_seq<|awp_seq<|sr<|s_q (.ptr 0 0 2) rfl trivial rfl<|s_q (.int .i64 a_1.Min) rfl nle rfl<|s_q (.ptr 1 0 2) rfl trivial rfl<|s_q (.int .i64 b_2.Min) rfl nle rfl<|s_q (.bool (a_1.Min != b_2.Min)) rfl rfl rfl<|dk<|?_
   rcases oi hf with ⟨c5,hf⟩ | ⟨c5,hf⟩
   ·refine w_condt rfl c5<|sr<|s_mov (.bool false) rfl<|dk<|w_ret<|?_;obtain rfl:=os hf;exact r_flat ⟨trivial,trivial⟩ rfl (.refl _)
   ·refine w_condf rfl (bf c5)<|w_skip<|k_seq<|awp_seq<|sr<|s_q (.ptr 0 0 3) rfl trivial rfl<|s_q (.int .i64 a_1.Max) rfl nle rfl<|s_q (.ptr 1 0 3) rfl trivial rfl<|s_q (.int .i64 b_2.Max) rfl nle rfl<|s_q (.bool (a_1.Max != b_2.Max)) rfl rfl rfl<|dk<|?_
    rcases oi hf with ⟨c6,hf⟩ | ⟨c6,hf⟩
    ·refine w_condt rfl c6<|sr<|s_mov (.bool false) rfl<|dk<|w_ret<|?_;obtain rfl:=os hf;exact r_flat ⟨trivial,trivial⟩ rfl (.refl _)
    ·refine w_condf rfl (bf c6)<|w_skip<|k_seq<|awp_seq<|sr<|s_q (.ptr 0 0 4) rfl trivial rfl<|s_q (.int .i64 a_1.Low) rfl nle rfl<|s_q (.ptr 1 0 4) rfl trivial rfl<|s_q (.int .i64 b_2.Low) rfl nle rfl<|s_q (.bool (a_1.Low != b_2.Low)) rfl rfl rfl<|dk<|?_
     rcases oi hf with ⟨c7,hf⟩ | ⟨c7,hf⟩
     ·refine w_condt rfl c7<|sr<|s_mov (.bool false) rfl<|dk<|w_ret<|?_;obtain rfl:=os hf;exact r_flat ⟨trivial,trivial⟩ rfl (.refl _)
     ·refine w_condf rfl (bf c7)<|w_skip<|k_seq<|awp_seq<|sr<|s_q (.ptr 0 0 5) rfl trivial rfl<|s_q (.int .i64 a_1.High) rfl nle rfl<|s_q (.ptr 1 0 5) rfl trivial rfl<|s_q (.int .i64 b_2.High) rfl nle rfl<|s_q (.bool (a_1.High != b_2.High)) rfl rfl rfl<|dk<|?_
      rcases oi hf with ⟨c8,hf⟩ | ⟨c8,hf⟩
      ·refine w_condt rfl c8<|sr<|s_mov (.bool false) rfl<|dk<|w_ret<|?_;obtain rfl:=os hf;exact r_flat ⟨trivial,trivial⟩ rfl (.refl _)
      ·refine w_condf rfl (bf c8)<|w_skip<|k_seq<|awp_seq<|sr<|s_q (.ptr 0 0 6) rfl trivial rfl<|s_q (.str a_1.Ref) rfl nle rfl<|s_q (.ptr 1 0 6) rfl trivial rfl<|s_q (.str b_2.Ref) rfl nle rfl<|s_q (.bool (!(a_1.Ref == b_2.Ref))) rfl trivial rfl<|dk<|?_
       rcases oi hf with ⟨c9,hf⟩ | ⟨c9,hf⟩
       ·refine w_condt rfl c9<|sr<|s_mov (.bool false) rfl<|dk<|w_ret<|?_;obtain rfl:=os hf;exact r_flat ⟨trivial,trivial⟩ rfl (.refl _)
       ·refine w_condf rfl (bf c9)<|w_skip<|k_seq<|awp_seq<|sr<|s_q (.ptr 0 0 7) rfl trivial rfl<|s_q (.bool a_1.Strong) rfl nle rfl<|s_q (.ptr 1 0 7) rfl trivial rfl<|s_q (.bool b_2.Strong) rfl nle rfl<|s_q (.bool (!(a_1.Strong == b_2.Strong))) rfl trivial rfl<|dk<|?_
        rcases oi hf with ⟨c10,hf⟩ | ⟨c10,hf⟩
        ·refine w_condt rfl c10<|sr<|s_mov (.bool false) rfl<|dk<|w_ret<|?_;obtain rfl:=os hf;exact r_flat ⟨trivial,trivial⟩ rfl (.refl _)
        ·refine w_condf rfl (bf c10)<|w_skip<|k_seq<|sr<|s_mov (.bool true) rfl<|dk<|w_ret<|?_;obtain rfl:=os hf;exact r_flat ⟨trivial,trivial⟩ rfl (.refl _)

/- laws.eqColumnS -/
def c119:ACode :=
 (.seq (.reg (tm 4 (.c (.bool false)) .done))
 (.seq (.seq (.reg (tm 6 (.t 0) (tq 7 (.len (.t 6)) (tm 8 (.t 1) (tq 9 (.len (.t 8)) (tq 10 (.bin .neq (.t 7) (.t 9)) .done))))))
 (.cond (.t 10) (.seq (.reg (tm 4 (.c (.bool false)) .done))
 .ret)
 .skip))
 (.seq (.seq (.reg (tm 5 (.c (.int .i64 0)) .done))
 (.block 0 (.loop (.seq (.seq (.reg (tm 11 (.t 5) (tm 12 (.t 0) (tq 13 (.len (.t 12)) (tq 14 (.bin .lss (.t 11) (.t 13)) .done)))))
 (.cond (.t 14) .skip
 (.exit 0)))
 (.seq (.block 1 (.seq (.reg (tm 17 (.t 0) (tm 18 (.t 5) (tq 19 (.iaddr 8 (.t 17) (.t 18)) (tq 20 (.load 8 true (.t 19)) (tm 21 (.t 1) (tm 22 (.t 5) (tq 23 (.iaddr 8 (.t 21) (.t 22)) (tq 24 (.load 8 true (.t 23)) (.l ⟨(some 25),none,.call 164 [(.t 20),(.t 24)]⟩ []
 (tq 26 (.not (.t 25)) .done) .non))))))))))
 (.cond (.t 26) (.seq (.reg (tm 4 (.c (.bool false)) .done))
 .ret)
 .skip)))
 (.reg (tm 15 (.t 5) (tq 16 (.bin .add (.t 15) (.c (.int .i64 1))) (tm 5 (.t 16) .done)))))))))
 (.cut (.seq (.reg (tm 4 (.c (.bool true)) .done))
 .ret)))))
theorem fc119:fcomp Tryz.prog Tryz.f119 = some (c119.erase,[.mov (.t 4)],27):=by kernel_rfl
def laws_eqColumnS_L1 (b_2:(List GColumn)):List GColumn → Nat → Option (Fl Bool Unit)
  | [],i_25 =>
    some (.go ())
  | x_43 :: xs,i_25 =>
    (idx b_2 (i_25:Int)).bind fun x_46 =>
    (laws_eqColumn x_43 x_46).bind fun r_48 =>
    if (!r_48) then
    some (.ret false)
    else
    laws_eqColumnS_L1 b_2 xs (i_25 + 1)

def laws_eqColumnS (a_1:(List GColumn)) (b_2:(List GColumn)):Option Bool :=
    if ((a_1.length:Int) != (b_2.length:Int)) then
    some false
    else
    (laws_eqColumnS_L1 b_2 a_1 0).bind fun q => (match q with
    | .ret r => some r
    | .go _ =>
    some true)
theorem w_laws_eqColumnS (a_1:(List GColumn)) (b_2:(List GColumn)) (r:Bool) (hf:laws_eqColumnS a_1 b_2 = some r):CallOK Tryz.prog 119 .flat [(.lst 8 (a_1.map encGColumn)),(.lst 8 (b_2.map encGColumn))] (.bool r):=by
 refine CallOK.of_awp mixed Tryz.func119 fc119 nle ?_;rw [argT_eq];unfold laws_eqColumnS at hf;unfold c119;refine (show awp Tryz.prog false 0 _ (ofL [(0,(.lst 8 (a_1.map encGColumn))),(1,(.lst 8 (b_2.map encGColumn)))]) [] _ from ?_);refine sr<|s_mov (.bool false) rfl<|dk<|awp_seq<|sr<|s_mov (.lst 8 (a_1.map encGColumn)) rfl<|s_dof (o_len (enc:=encGColumn) rfl) fun hl3 => s_mov (.lst 8 (b_2.map encGColumn)) rfl<|s_dof (o_len (enc:=encGColumn) rfl) fun hl4 => s_q (.bool ((a_1.length:Int) != (b_2.length:Int))) rfl rfl rfl<|dk<|?_
 rcases oi hf with ⟨c5,hf⟩ | ⟨c5,hf⟩
 ·refine w_condt rfl c5<|sr<|s_mov (.bool false) rfl<|dk<|w_ret<|?_;obtain rfl:=os hf;exact r_flat ⟨trivial,trivial⟩ rfl (.refl _)
 ·refine w_condf rfl (bf c5)<|w_skip<|k_seq<|awp_seq<|sr<|s_mov (.int .i64 0) rfl<|dk<|?_
  obtain ⟨p36,hb1,hf⟩:=ob hf
  refine awp_cutx (X:={q:Unit // p36 = .go q}) (fun q => ([],[])) ?_ ?_
  ·refine awp_loop (X:={q:Nat // laws_eqColumnS_L1 b_2 (a_1.drop q) q = some p36}) (fun q => ([(0,(.lst 8 (a_1.map encGColumn))),(1,(.lst 8 (b_2.map encGColumn))),(5,(.int .i64 (q.1:Int)))],[])) (fun q => a_1.length - q.1) ⟨0,hb1⟩ ⟨[],[],_,_,rfl,rfl,⟨.refl _,⟨.refl _,⟨.refl _,trivial⟩⟩⟩,(.refl _)⟩ ?_
   rintro ⟨i_25,hc1⟩
   have hc1:laws_eqColumnS_L1 b_2 (a_1.drop i_25) i_25 = some p36:=hc1
   refine (show awp Tryz.prog false 0 _ (ofL [(0,(.lst 8 (a_1.map encGColumn))),(1,(.lst 8 (b_2.map encGColumn))),(5,(.int .i64 (i_25:Int)))]) [] _ from ?_)
   rcases dropc a_1 i_25 with ⟨hie39,hd42⟩ | ⟨hlt37,x_43,hx38,hd42⟩
   ·rw [hd42,laws_eqColumnS_L1.eq_1] at hc1
    have hq41:=dlf hie39
    refine awp_seq<|sr<|s_mov (.int .i64 (i_25:Int)) rfl<|s_mov (.lst 8 (a_1.map encGColumn)) rfl<|s_dof (o_len (enc:=encGColumn) rfl) fun hl44 => s_q (.bool (decide ((i_25:Int) < (a_1.length:Int)))) rfl rfl rfl<|dk<|w_condf rfl hq41<|w_exit<|k_seqx<|k_loopx<|k_blkx<|?_;obtain rfl:=os hc1;exact k_cutn ⟨_,rfl⟩ ⟨[],[],_,_,rfl,rfl,trivial,(.refl _)⟩
   ·rw [hd42,laws_eqColumnS_L1.eq_2] at hc1
    have hq41:=dlt hlt37
    refine awp_seq<|sr<|s_mov (.int .i64 (i_25:Int)) rfl<|s_mov (.lst 8 (a_1.map encGColumn)) rfl<|s_dof (o_len (enc:=encGColumn) rfl) fun hl45 => s_q (.bool (decide ((i_25:Int) < (a_1.length:Int)))) rfl rfl rfl<|dk<|w_condt rfl hq41<|w_skip<|k_seq<|awp_seq<|w_blk<|sr<|?_
    obtain ⟨x_46,ex47,hc1⟩:=ob hc1
    obtain ⟨r_48,er49,hc1⟩:=ob hc1
    refine s_mov (.lst 8 (a_1.map encGColumn)) rfl<|s_mov (.int .i64 (i_25:Int)) rfl<|s_do (o_iaddrn (enc:=encGColumn) rfl rfl hx38)<|s_q (encGColumn x_43) rfl nle rfl<|s_mov (.lst 8 (b_2.map encGColumn)) rfl<|s_mov (.int .i64 (i_25:Int)) rfl<|s_do (o_iaddr (enc:=encGColumn) rfl rfl (idx0 ex47) (idx1 ex47))<|s_q (encGColumn x_46) rfl nle rfl<|s_dol (o_call (w_laws_eqColumn _ _ _ er49) rfl (.refl _) rfl) a_same trivial<|s_q (.bool (!r_48)) rfl trivial rfl<|dk<|?_
    rcases oi hc1 with ⟨c50,hc1⟩ | ⟨c50,hc1⟩
    ·refine w_condt rfl c50<|sr<|s_mov (.bool false) rfl<|dk<|w_ret<|?_;obtain rfl:=os hc1;obtain rfl:=os hf;exact r_flat ⟨trivial,trivial⟩ rfl (.refl _)
    ·refine w_condf rfl (bf c50)<|w_skip<|k_blk<|k_seq<|w_reg<|s_mov (.int .i64 (i_25:Int)) rfl<|s_q (.int .i64 (w64 ((i_25:Int) + 1))) rfl rfl rfl<|s_mov (.int .i64 (w64 ((i_25:Int) + 1))) rfl<|w_done<|?_;exact k_loopn ⟨(i_25 + 1),hc1⟩ (mul hlt37) ⟨[],[],_,_,rfl,rfl,⟨.refl _,⟨.refl _,⟨.of_eq (congrArg (AV.int _) (w64_incr hlt37 hl45)),trivial⟩⟩⟩,(.refl _)⟩
  ·rintro ⟨_,rfl⟩
   refine sr<|s_mov (.bool true) rfl<|dk<|w_ret<|?_;obtain rfl:=os hf;exact r_flat ⟨trivial,trivial⟩ rfl (.refl _)

/- laws.eqIntS -/
def c120:ACode :=
 (.seq (.reg (tm 4 (.c (.bool false)) .done))
 (.seq (.seq (.reg (tm 6 (.t 0) (tq 7 (.len (.t 6)) (tm 8 (.t 1) (tq 9 (.len (.t 8)) (tq 10 (.bin .neq (.t 7) (.t 9)) .done))))))
 (.cond (.t 10) (.seq (.reg (tm 4 (.c (.bool false)) .done))
 .ret)
 .skip))
 (.seq (.seq (.reg (tm 5 (.c (.int .i64 0)) .done))
 (.block 0 (.loop (.seq (.seq (.reg (tm 11 (.t 5) (tm 12 (.t 0) (tq 13 (.len (.t 12)) (tq 14 (.bin .lss (.t 11) (.t 13)) .done)))))
 (.cond (.t 14) .skip
 (.exit 0)))
 (.seq (.block 1 (.seq (.reg (tm 17 (.t 0) (tm 18 (.t 5) (tq 19 (.iaddr 1 (.t 17) (.t 18)) (tq 20 (.load 1 false (.t 19)) (tm 21 (.t 1) (tm 22 (.t 5) (tq 23 (.iaddr 1 (.t 21) (.t 22)) (tq 24 (.load 1 false (.t 23)) (tq 25 (.bin .neq (.t 20) (.t 24)) .done))))))))))
 (.cond (.t 25) (.seq (.reg (tm 4 (.c (.bool false)) .done))
 .ret)
 .skip)))
 (.reg (tm 15 (.t 5) (tq 16 (.bin .add (.t 15) (.c (.int .i64 1))) (tm 5 (.t 16) .done)))))))))
 (.cut (.seq (.reg (tm 4 (.c (.bool true)) .done))
 .ret)))))
theorem fc120:fcomp Tryz.prog Tryz.f120 = some (c120.erase,[.mov (.t 4)],26):=by kernel_rfl
def laws_eqIntS_L1 (b_2:(List Int)):List Int → Nat → Option (Fl Bool Unit)
  | [],i_21 =>
    some (.go ())
  | x_37 :: xs,i_21 =>
    (idx b_2 (i_21:Int)).bind fun x_40 =>
    if (x_37 != x_40) then
    some (.ret false)
    else
    laws_eqIntS_L1 b_2 xs (i_21 + 1)

def laws_eqIntS (a_1:(List Int)) (b_2:(List Int)):Option Bool :=
    if ((a_1.length:Int) != (b_2.length:Int)) then
    some false
    else
    (laws_eqIntS_L1 b_2 a_1 0).bind fun q => (match q with
    | .ret r => some r
    | .go _ =>
    some true)
theorem w_laws_eqIntS (a_1:(List Int)) (b_2:(List Int)) (r:Bool) (hf:laws_eqIntS a_1 b_2 = some r):CallOK Tryz.prog 120 .flat [(.lst 1 (a_1.map encI)),(.lst 1 (b_2.map encI))] (.bool r):=by
 refine CallOK.of_awp mixed Tryz.func120 fc120 nle ?_;rw [argT_eq];unfold laws_eqIntS at hf;unfold c120;refine (show awp Tryz.prog false 0 _ (ofL [(0,(.lst 1 (a_1.map encI))),(1,(.lst 1 (b_2.map encI)))]) [] _ from ?_);refine sr<|s_mov (.bool false) rfl<|dk<|awp_seq<|sr<|s_mov (.lst 1 (a_1.map encI)) rfl<|s_dof (o_len (enc:=encI) rfl) fun hl3 => s_mov (.lst 1 (b_2.map encI)) rfl<|s_dof (o_len (enc:=encI) rfl) fun hl4 => s_q (.bool ((a_1.length:Int) != (b_2.length:Int))) rfl rfl rfl<|dk<|?_
 rcases oi hf with ⟨c5,hf⟩ | ⟨c5,hf⟩
 ·refine w_condt rfl c5<|sr<|s_mov (.bool false) rfl<|dk<|w_ret<|?_;obtain rfl:=os hf;exact r_flat ⟨trivial,trivial⟩ rfl (.refl _)
 ·refine w_condf rfl (bf c5)<|w_skip<|k_seq<|awp_seq<|sr<|s_mov (.int .i64 0) rfl<|dk<|?_
  obtain ⟨p30,hb1,hf⟩:=ob hf
  refine awp_cutx (X:={q:Unit // p30 = .go q}) (fun q => ([],[])) ?_ ?_
  ·refine awp_loop (X:={q:Nat // laws_eqIntS_L1 b_2 (a_1.drop q) q = some p30}) (fun q => ([(0,(.lst 1 (a_1.map encI))),(1,(.lst 1 (b_2.map encI))),(5,(.int .i64 (q.1:Int)))],[])) (fun q => a_1.length - q.1) ⟨0,hb1⟩ ⟨[],[],_,_,rfl,rfl,⟨.refl _,⟨.refl _,⟨.refl _,trivial⟩⟩⟩,(.refl _)⟩ ?_
   rintro ⟨i_21,hc1⟩
   have hc1:laws_eqIntS_L1 b_2 (a_1.drop i_21) i_21 = some p30:=hc1
   refine (show awp Tryz.prog false 0 _ (ofL [(0,(.lst 1 (a_1.map encI))),(1,(.lst 1 (b_2.map encI))),(5,(.int .i64 (i_21:Int)))]) [] _ from ?_)
   rcases dropc a_1 i_21 with ⟨hie33,hd36⟩ | ⟨hlt31,x_37,hx32,hd36⟩
   ·rw [hd36,laws_eqIntS_L1.eq_1] at hc1
    have hq35:=dlf hie33
    refine awp_seq<|sr<|s_mov (.int .i64 (i_21:Int)) rfl<|s_mov (.lst 1 (a_1.map encI)) rfl<|s_dof (o_len (enc:=encI) rfl) fun hl38 => s_q (.bool (decide ((i_21:Int) < (a_1.length:Int)))) rfl rfl rfl<|dk<|w_condf rfl hq35<|w_exit<|k_seqx<|k_loopx<|k_blkx<|?_;obtain rfl:=os hc1;exact k_cutn ⟨_,rfl⟩ ⟨[],[],_,_,rfl,rfl,trivial,(.refl _)⟩
   ·rw [hd36,laws_eqIntS_L1.eq_2] at hc1
    have hq35:=dlt hlt31
    refine awp_seq<|sr<|s_mov (.int .i64 (i_21:Int)) rfl<|s_mov (.lst 1 (a_1.map encI)) rfl<|s_dof (o_len (enc:=encI) rfl) fun hl39 => s_q (.bool (decide ((i_21:Int) < (a_1.length:Int)))) rfl rfl rfl<|dk<|w_condt rfl hq35<|w_skip<|k_seq<|awp_seq<|w_blk<|sr<|?_
    obtain ⟨x_40,ex41,hc1⟩:=ob hc1
    refine s_mov (.lst 1 (a_1.map encI)) rfl<|s_mov (.int .i64 (i_21:Int)) rfl<|s_do (o_iaddrn (enc:=encI) rfl rfl hx32)<|s_q (.int .i64 x_37) rfl ⟨rfl,rfl⟩ rfl<|s_mov (.lst 1 (b_2.map encI)) rfl<|s_mov (.int .i64 (i_21:Int)) rfl<|s_do (o_iaddr (enc:=encI) rfl rfl (idx0 ex41) (idx1 ex41))<|s_q (.int .i64 x_40) rfl ⟨rfl,rfl⟩ rfl<|s_q (.bool (x_37 != x_40)) rfl rfl rfl<|dk<|?_
    rcases oi hc1 with ⟨c42,hc1⟩ | ⟨c42,hc1⟩
    ·refine w_condt rfl c42<|sr<|s_mov (.bool false) rfl<|dk<|w_ret<|?_;obtain rfl:=os hc1;obtain rfl:=os hf;exact r_flat ⟨trivial,trivial⟩ rfl (.refl _)
    ·refine w_condf rfl (bf c42)<|w_skip<|k_blk<|k_seq<|w_reg<|s_mov (.int .i64 (i_21:Int)) rfl<|s_q (.int .i64 (w64 ((i_21:Int) + 1))) rfl rfl rfl<|s_mov (.int .i64 (w64 ((i_21:Int) + 1))) rfl<|w_done<|?_;exact k_loopn ⟨(i_21 + 1),hc1⟩ (mul hlt31) ⟨[],[],_,_,rfl,rfl,⟨.refl _,⟨.refl _,⟨.of_eq (congrArg (AV.int _) (w64_incr hlt31 hl39)),trivial⟩⟩⟩,(.refl _)⟩
  ·rintro ⟨_,rfl⟩
   refine sr<|s_mov (.bool true) rfl<|dk<|w_ret<|?_;obtain rfl:=os hf;exact r_flat ⟨trivial,trivial⟩ rfl (.refl _)

/- laws.eqTable -/
def c64:ACode :=
 (.seq (.reg (tq 2 (.box 4 (.t 0)) (tq 3 (.box 4 (.t 1)) (tm 4 (.c (.bool false)) .done))))
 (.seq (.seq (.reg (tq 5 (.faddr 0 (.t 2)) (tq 6 (.load 1 false (.t 5)) (tq 7 (.faddr 0 (.t 3)) (tq 8 (.load 1 false (.t 7)) (tq 9 (.bin .neq (.t 6) (.t 8)) .done))))))
 (.cond (.t 9) (.seq (.reg (tm 4 (.c (.bool false)) .done))
 .ret)
 .skip))
 (.seq (.seq (.reg (tq 10 (.faddr 1 (.t 2)) (tq 11 (.load 1 false (.t 10)) (tq 12 (.faddr 1 (.t 3)) (tq 13 (.load 1 false (.t 12)) (tq 14 (.call 119 [(.t 11),(.t 13)]) (tq 15 (.not (.t 14)) .done)))))))
 (.cond (.t 15) (.seq (.reg (tm 4 (.c (.bool false)) .done))
 .ret)
 .skip))
 (.seq (.seq (.reg (tq 16 (.faddr 2 (.t 2)) (tq 17 (.load 1 false (.t 16)) (tq 18 (.faddr 2 (.t 3)) (tq 19 (.load 1 false (.t 18)) (tq 20 (.call 120 [(.t 17),(.t 19)]) (tq 21 (.not (.t 20)) .done)))))))
 (.cond (.t 21) (.seq (.reg (tm 4 (.c (.bool false)) .done))
 .ret)
 .skip))
 (.seq (.seq (.reg (tq 22 (.faddr 3 (.t 2)) (tq 23 (.load 1 false (.t 22)) (tq 24 (.faddr 3 (.t 3)) (tq 25 (.load 1 false (.t 24)) (tq 26 (.eqB true (.t 23) (.t 25)) .done))))))
 (.cond (.t 26) (.seq (.reg (tm 4 (.c (.bool false)) .done))
 .ret)
 .skip))
 (.seq (.reg (tm 4 (.c (.bool true)) .done))
 .ret))))))
theorem fc64:fcomp Tryz.prog Tryz.f64 = some (c64.erase,[.mov (.t 4)],27):=by kernel_rfl
def laws_eqTable (a_1:GTable) (b_2:GTable):Option Bool :=
    if (!(a_1.Name == b_2.Name)) then
    some false
    else
    (laws_eqColumnS a_1.Columns b_2.Columns).bind fun r_4 =>
    if (!r_4) then
    some false
    else
    (laws_eqIntS a_1.Unique b_2.Unique).bind fun r_7 =>
    if (!r_7) then
    some false
    else
    if (!(a_1.Root == b_2.Root)) then
    some false
    else
    some true
theorem w_laws_eqTable (a_1:GTable) (b_2:GTable) (r:Bool) (hf:laws_eqTable a_1 b_2 = some r):CallOK Tryz.prog 64 .flat [(encGTable a_1),(encGTable b_2)] (.bool r):=by
 refine CallOK.of_awp mixed Tryz.func64 fc64 nle ?_;rw [argT_eq];unfold laws_eqTable at hf;unfold c64;refine (show awp Tryz.prog false 0 _ (ofL [(0,(encGTable a_1)),(1,(encGTable b_2))]) [] _ from ?_);refine sr<|s_do (o_box (j:=0) (c:=(.agg [(.str a_1.Name),(.lst 8 (a_1.Columns.map encGColumn)),(.lst 1 (a_1.Unique.map encI)),(.bool a_1.Root)])) rfl trivial rfl rfl)<|s_do (o_box (j:=1) (c:=(.agg [(.str b_2.Name),(.lst 8 (b_2.Columns.map encGColumn)),(.lst 1 (b_2.Unique.map encI)),(.bool b_2.Root)])) rfl trivial rfl rfl)<|s_mov (.bool false) rfl<|dk<|awp_seq<|sr<|s_q (.ptr 0 0 0) rfl trivial rfl<|s_q (.str a_1.Name) rfl nle rfl<|s_q (.ptr 1 0 0) rfl trivial rfl<|?_
 refine s_q (.str b_2.Name) rfl nle rfl<|s_q (.bool (!(a_1.Name == b_2.Name))) rfl trivial rfl<|dk<|?_
 rcases oi hf with ⟨c3,hf⟩ | ⟨c3,hf⟩
 ·refine w_condt rfl c3<|sr<|s_mov (.bool false) rfl<|dk<|w_ret<|?_;obtain rfl:=os hf;exact r_flat ⟨trivial,trivial⟩ rfl (.refl _)
 ·refine w_condf rfl (bf c3)<|w_skip<|k_seq<|awp_seq<|sr<|?_
  obtain ⟨r_4,er5,hf⟩:=ob hf
  refine s_q (.ptr 0 0 1) rfl trivial rfl<|s_q (.lst 8 (a_1.Columns.map encGColumn)) rfl nle rfl<|s_q (.ptr 1 0 1) rfl trivial rfl<|s_q (.lst 8 (b_2.Columns.map encGColumn)) rfl nle rfl<|s_do (o_call (w_laws_eqColumnS _ _ _ er5) rfl (.refl _) rfl)<|s_q (.bool (!r_4)) rfl trivial rfl<|dk<|?_
  rcases oi hf with ⟨c6,hf⟩ | ⟨c6,hf⟩
  ·refine w_condt rfl c6<|sr<|s_mov (.bool false) rfl<|dk<|w_ret<|?_;obtain rfl:=os hf;exact r_flat ⟨trivial,trivial⟩ rfl (.refl _)
  ·refine w_condf rfl (bf c6)<|w_skip<|k_seq<|awp_seq<|sr<|?_
   obtain ⟨r_7,er8,hf⟩:=ob hf
   refine s_q (.ptr 0 0 2) rfl trivial rfl<|s_q (.lst 1 (a_1.Unique.map encI)) rfl nle rfl<|s_q (.ptr 1 0 2) rfl trivial rfl<|s_q (.lst 1 (b_2.Unique.map encI)) rfl nle rfl<|s_do (o_call (w_laws_eqIntS _ _ _ er8) rfl (.refl _) rfl)<|s_q (.bool (!r_7)) rfl trivial rfl<|dk<|?_
   rcases oi hf with ⟨c9,hf⟩ | ⟨c9,hf⟩
   ·refine w_condt rfl c9<|sr<|s_mov (.bool false) rfl<|dk<|w_ret<|?_;obtain rfl:=os hf;exact r_flat ⟨trivial,trivial⟩ rfl (.refl _)
   ·refine w_condf rfl (bf c9)<|w_skip<|k_seq<|awp_seq<|sr<|s_q (.ptr 0 0 3) rfl trivial rfl<|s_q (.bool a_1.Root) rfl nle rfl<|s_q (.ptr 1 0 3) rfl trivial rfl<|s_q (.bool b_2.Root) rfl nle rfl<|s_q (.bool (!(a_1.Root == b_2.Root))) rfl trivial rfl<|dk<|?_
    rcases oi hf with ⟨c10,hf⟩ | ⟨c10,hf⟩
    ·refine w_condt rfl c10<|sr<|s_mov (.bool false) rfl<|dk<|w_ret<|?_;obtain rfl:=os hf;exact r_flat ⟨trivial,trivial⟩ rfl (.refl _)
    ·refine w_condf rfl (bf c10)<|w_skip<|k_seq<|sr<|s_mov (.bool true) rfl<|dk<|w_ret<|?_;obtain rfl:=os hf;exact r_flat ⟨trivial,trivial⟩ rfl (.refl _)

/- laws.eqTableS -/
def c27:ACode :=
 (.seq (.reg (tm 4 (.c (.bool false)) .done))
 (.seq (.seq (.reg (tm 6 (.t 0) (tq 7 (.len (.t 6)) (tm 8 (.t 1) (tq 9 (.len (.t 8)) (tq 10 (.bin .neq (.t 7) (.t 9)) .done))))))
 (.cond (.t 10) (.seq (.reg (tm 4 (.c (.bool false)) .done))
 .ret)
 .skip))
 (.seq (.seq (.reg (tm 5 (.c (.int .i64 0)) .done))
 (.block 0 (.loop (.seq (.seq (.reg (tm 11 (.t 5) (tm 12 (.t 0) (tq 13 (.len (.t 12)) (tq 14 (.bin .lss (.t 11) (.t 13)) .done)))))
 (.cond (.t 14) .skip
 (.exit 0)))
 (.seq (.block 1 (.seq (.reg (tm 17 (.t 0) (tm 18 (.t 5) (tq 19 (.iaddr 4 (.t 17) (.t 18)) (tq 20 (.load 4 true (.t 19)) (tm 21 (.t 1) (tm 22 (.t 5) (tq 23 (.iaddr 4 (.t 21) (.t 22)) (tq 24 (.load 4 true (.t 23)) (.l ⟨(some 25),none,.call 64 [(.t 20),(.t 24)]⟩ []
 (tq 26 (.not (.t 25)) .done) .non))))))))))
 (.cond (.t 26) (.seq (.reg (tm 4 (.c (.bool false)) .done))
 .ret)
 .skip)))
 (.reg (tm 15 (.t 5) (tq 16 (.bin .add (.t 15) (.c (.int .i64 1))) (tm 5 (.t 16) .done)))))))))
 (.cut (.seq (.reg (tm 4 (.c (.bool true)) .done))
 .ret)))))
theorem fc27:fcomp Tryz.prog Tryz.f27 = some (c27.erase,[.mov (.t 4)],27):=by kernel_rfl
def laws_eqTableS_L1 (b_2:(List GTable)):List GTable → Nat → Option (Fl Bool Unit)
  | [],i_25 =>
    some (.go ())
  | x_43 :: xs,i_25 =>
    (idx b_2 (i_25:Int)).bind fun x_46 =>
    (laws_eqTable x_43 x_46).bind fun r_48 =>
    if (!r_48) then
    some (.ret false)
    else
    laws_eqTableS_L1 b_2 xs (i_25 + 1)

def laws_eqTableS (a_1:(List GTable)) (b_2:(List GTable)):Option Bool :=
    if ((a_1.length:Int) != (b_2.length:Int)) then
    some false
    else
    (laws_eqTableS_L1 b_2 a_1 0).bind fun q => (match q with
    | .ret r => some r
    | .go _ =>
    some true)
theorem w_laws_eqTableS (a_1:(List GTable)) (b_2:(List GTable)) (r:Bool) (hf:laws_eqTableS a_1 b_2 = some r):CallOK Tryz.prog 27 .flat [(.lst 4 (a_1.map encGTable)),(.lst 4 (b_2.map encGTable))] (.bool r):=by
 refine CallOK.of_awp mixed Tryz.func27 fc27 nle ?_;rw [argT_eq];unfold laws_eqTableS at hf;unfold c27;refine (show awp Tryz.prog false 0 _ (ofL [(0,(.lst 4 (a_1.map encGTable))),(1,(.lst 4 (b_2.map encGTable)))]) [] _ from ?_);refine sr<|s_mov (.bool false) rfl<|dk<|awp_seq<|sr<|s_mov (.lst 4 (a_1.map encGTable)) rfl<|s_dof (o_len (enc:=encGTable) rfl) fun hl3 => s_mov (.lst 4 (b_2.map encGTable)) rfl<|s_dof (o_len (enc:=encGTable) rfl) fun hl4 => s_q (.bool ((a_1.length:Int) != (b_2.length:Int))) rfl rfl rfl<|dk<|?_
 rcases oi hf with ⟨c5,hf⟩ | ⟨c5,hf⟩
 ·refine w_condt rfl c5<|sr<|s_mov (.bool false) rfl<|dk<|w_ret<|?_;obtain rfl:=os hf;exact r_flat ⟨trivial,trivial⟩ rfl (.refl _)
 ·refine w_condf rfl (bf c5)<|w_skip<|k_seq<|awp_seq<|sr<|s_mov (.int .i64 0) rfl<|dk<|?_
  obtain ⟨p36,hb1,hf⟩:=ob hf
  refine awp_cutx (X:={q:Unit // p36 = .go q}) (fun q => ([],[])) ?_ ?_
  ·refine awp_loop (X:={q:Nat // laws_eqTableS_L1 b_2 (a_1.drop q) q = some p36}) (fun q => ([(0,(.lst 4 (a_1.map encGTable))),(1,(.lst 4 (b_2.map encGTable))),(5,(.int .i64 (q.1:Int)))],[])) (fun q => a_1.length - q.1) ⟨0,hb1⟩ ⟨[],[],_,_,rfl,rfl,⟨.refl _,⟨.refl _,⟨.refl _,trivial⟩⟩⟩,(.refl _)⟩ ?_
   rintro ⟨i_25,hc1⟩
   have hc1:laws_eqTableS_L1 b_2 (a_1.drop i_25) i_25 = some p36:=hc1
   refine (show awp Tryz.prog false 0 _ (ofL [(0,(.lst 4 (a_1.map encGTable))),(1,(.lst 4 (b_2.map encGTable))),(5,(.int .i64 (i_25:Int)))]) [] _ from ?_)
   rcases dropc a_1 i_25 with ⟨hie39,hd42⟩ | ⟨hlt37,x_43,hx38,hd42⟩
   ·rw [hd42,laws_eqTableS_L1.eq_1] at hc1
    have hq41:=dlf hie39
    refine awp_seq<|sr<|s_mov (.int .i64 (i_25:Int)) rfl<|s_mov (.lst 4 (a_1.map encGTable)) rfl<|s_dof (o_len (enc:=encGTable) rfl) fun hl44 => s_q (.bool (decide ((i_25:Int) < (a_1.length:Int)))) rfl rfl rfl<|dk<|w_condf rfl hq41<|w_exit<|k_seqx<|k_loopx<|k_blkx<|?_;obtain rfl:=os hc1;exact k_cutn ⟨_,rfl⟩ ⟨[],[],_,_,rfl,rfl,trivial,(.refl _)⟩
   ·rw [hd42,laws_eqTableS_L1.eq_2] at hc1
    have hq41:=dlt hlt37
    refine awp_seq<|sr<|s_mov (.int .i64 (i_25:Int)) rfl<|s_mov (.lst 4 (a_1.map encGTable)) rfl<|s_dof (o_len (enc:=encGTable) rfl) fun hl45 => s_q (.bool (decide ((i_25:Int) < (a_1.length:Int)))) rfl rfl rfl<|dk<|w_condt rfl hq41<|w_skip<|k_seq<|awp_seq<|w_blk<|sr<|?_
    obtain ⟨x_46,ex47,hc1⟩:=ob hc1
    obtain ⟨r_48,er49,hc1⟩:=ob hc1
    refine s_mov (.lst 4 (a_1.map encGTable)) rfl<|s_mov (.int .i64 (i_25:Int)) rfl<|s_do (o_iaddrn (enc:=encGTable) rfl rfl hx38)<|s_q (encGTable x_43) rfl nle rfl<|s_mov (.lst 4 (b_2.map encGTable)) rfl<|s_mov (.int .i64 (i_25:Int)) rfl<|s_do (o_iaddr (enc:=encGTable) rfl rfl (idx0 ex47) (idx1 ex47))<|s_q (encGTable x_46) rfl nle rfl<|s_dol (o_call (w_laws_eqTable _ _ _ er49) rfl (.refl _) rfl) a_same trivial<|s_q (.bool (!r_48)) rfl trivial rfl<|dk<|?_
    rcases oi hc1 with ⟨c50,hc1⟩ | ⟨c50,hc1⟩
    ·refine w_condt rfl c50<|sr<|s_mov (.bool false) rfl<|dk<|w_ret<|?_;obtain rfl:=os hc1;obtain rfl:=os hf;exact r_flat ⟨trivial,trivial⟩ rfl (.refl _)
    ·refine w_condf rfl (bf c50)<|w_skip<|k_blk<|k_seq<|w_reg<|s_mov (.int .i64 (i_25:Int)) rfl<|s_q (.int .i64 (w64 ((i_25:Int) + 1))) rfl rfl rfl<|s_mov (.int .i64 (w64 ((i_25:Int) + 1))) rfl<|w_done<|?_;exact k_loopn ⟨(i_25 + 1),hc1⟩ (mul hlt37) ⟨[],[],_,_,rfl,rfl,⟨.refl _,⟨.refl _,⟨.of_eq (congrArg (AV.int _) (w64_incr hlt37 hl45)),trivial⟩⟩⟩,(.refl _)⟩
  ·rintro ⟨_,rfl⟩
   refine sr<|s_mov (.bool true) rfl<|dk<|w_ret<|?_;obtain rfl:=os hf;exact r_flat ⟨trivial,trivial⟩ rfl (.refl _)

/- laws.eqSchema -/
def c11:ACode :=
 (.seq (.reg (tq 2 (.box 1 (.t 0)) (tq 3 (.box 1 (.t 1)) (tm 4 (.c (.bool false)) .done))))
 (.seq (.seq (.reg (tq 5 (.faddr 0 (.t 2)) (tq 6 (.load 1 false (.t 5)) (tq 7 (.faddr 0 (.t 3)) (tq 8 (.load 1 false (.t 7)) (tq 9 (.call 27 [(.t 6),(.t 8)]) (tq 10 (.not (.t 9)) .done)))))))
 (.cond (.t 10) (.seq (.reg (tm 4 (.c (.bool false)) .done))
 .ret)
 .skip))
 (.seq (.reg (tm 4 (.c (.bool true)) .done))
 .ret)))
theorem fc11:fcomp Tryz.prog Tryz.f11 = some (c11.erase,[.mov (.t 4)],11):=by kernel_rfl
def laws_eqSchema (a_1:GSchema) (b_2:GSchema):Option Bool :=
    (laws_eqTableS a_1.Tables b_2.Tables).bind fun r_3 =>
    if (!r_3) then
    some false
    else
    some true
theorem w_laws_eqSchema (a_1:GSchema) (b_2:GSchema) (r:Bool) (hf:laws_eqSchema a_1 b_2 = some r):CallOK Tryz.prog 11 .flat [(encGSchema a_1),(encGSchema b_2)] (.bool r):=by
 refine CallOK.of_awp mixed Tryz.func11 fc11 nle ?_;rw [argT_eq];unfold laws_eqSchema at hf;unfold c11;refine (show awp Tryz.prog false 0 _ (ofL [(0,(encGSchema a_1)),(1,(encGSchema b_2))]) [] _ from ?_);refine sr<|s_do (o_box (j:=0) (c:=(.agg [(.lst 4 (a_1.Tables.map encGTable))])) rfl trivial rfl rfl)<|s_do (o_box (j:=1) (c:=(.agg [(.lst 4 (b_2.Tables.map encGTable))])) rfl trivial rfl rfl)<|s_mov (.bool false) rfl<|dk<|awp_seq<|sr<|?_
 obtain ⟨r_3,er4,hf⟩:=ob hf
 refine s_q (.ptr 0 0 0) rfl trivial rfl<|s_q (.lst 4 (a_1.Tables.map encGTable)) rfl nle rfl<|s_q (.ptr 1 0 0) rfl trivial rfl<|s_q (.lst 4 (b_2.Tables.map encGTable)) rfl nle rfl<|s_do (o_call (w_laws_eqTableS _ _ _ er4) rfl (.refl _) rfl)<|s_q (.bool (!r_3)) rfl trivial rfl<|dk<|?_
 rcases oi hf with ⟨c5,hf⟩ | ⟨c5,hf⟩
 ·refine w_condt rfl c5<|sr<|s_mov (.bool false) rfl<|dk<|w_ret<|?_;obtain rfl:=os hf;exact r_flat ⟨trivial,trivial⟩ rfl (.refl _)
 ·refine w_condf rfl (bf c5)<|w_skip<|k_seq<|sr<|s_mov (.bool true) rfl<|dk<|w_ret<|?_;obtain rfl:=os hf;exact r_flat ⟨trivial,trivial⟩ rfl (.refl _)

/- laws.eqAtom -/
def c178:ACode :=
 (.seq (.reg (tq 2 (.box 3 (.t 0)) (tq 3 (.box 3 (.t 1)) (tm 4 (.c (.bool false)) .done))))
 (.seq (.seq (.reg (tq 5 (.faddr 0 (.t 2)) (tq 6 (.load 1 false (.t 5)) (tq 7 (.faddr 0 (.t 3)) (tq 8 (.load 1 false (.t 7)) (tq 9 (.bin .neq (.t 6) (.t 8)) .done))))))
 (.cond (.t 9) (.seq (.reg (tm 4 (.c (.bool false)) .done))
 .ret)
 .skip))
 (.seq (.seq (.reg (tq 10 (.faddr 1 (.t 2)) (tq 11 (.load 1 false (.t 10)) (tq 12 (.faddr 1 (.t 3)) (tq 13 (.load 1 false (.t 12)) (tq 14 (.bin .neq (.t 11) (.t 13)) .done))))))
 (.cond (.t 14) (.seq (.reg (tm 4 (.c (.bool false)) .done))
 .ret)
 .skip))
 (.seq (.seq (.reg (tq 15 (.faddr 2 (.t 2)) (tq 16 (.load 1 false (.t 15)) (tq 17 (.faddr 2 (.t 3)) (tq 18 (.load 1 false (.t 17)) (tq 19 (.bin .neq (.t 16) (.t 18)) .done))))))
 (.cond (.t 19) (.seq (.reg (tm 4 (.c (.bool false)) .done))
 .ret)
 .skip))
 (.seq (.reg (tm 4 (.c (.bool true)) .done))
 .ret)))))
theorem fc178:fcomp Tryz.prog Tryz.f178 = some (c178.erase,[.mov (.t 4)],20):=by kernel_rfl
def laws_eqAtom (a_1:GAtom) (b_2:GAtom):Option Bool :=
    if (a_1.Kind != b_2.Kind) then
    some false
    else
    if (a_1.N != b_2.N) then
    some false
    else
    if (!(a_1.T == b_2.T)) then
    some false
    else
    some true
theorem w_laws_eqAtom (a_1:GAtom) (b_2:GAtom) (r:Bool) (hf:laws_eqAtom a_1 b_2 = some r):CallOK Tryz.prog 178 .flat [(encGAtom a_1),(encGAtom b_2)] (.bool r):=by
 refine CallOK.of_awp mixed Tryz.func178 fc178 nle ?_;rw [argT_eq];unfold laws_eqAtom at hf;unfold c178;refine (show awp Tryz.prog false 0 _ (ofL [(0,(encGAtom a_1)),(1,(encGAtom b_2))]) [] _ from ?_);refine sr<|s_do (o_box (j:=0) (c:=(.agg [(.int .i64 a_1.Kind),(.int .i64 a_1.N),(.str a_1.T)])) rfl trivial rfl rfl)<|s_do (o_box (j:=1) (c:=(.agg [(.int .i64 b_2.Kind),(.int .i64 b_2.N),(.str b_2.T)])) rfl trivial rfl rfl)<|s_mov (.bool false) rfl<|dk<|awp_seq<|sr<|s_q (.ptr 0 0 0) rfl trivial rfl<|s_q (.int .i64 a_1.Kind) rfl nle rfl<|s_q (.ptr 1 0 0) rfl trivial rfl<|s_q (.int .i64 b_2.Kind) rfl nle rfl<|s_q (.bool (a_1.Kind != b_2.Kind)) rfl rfl rfl<|?_
 refine dk<|?_
 rcases oi hf with ⟨c3,hf⟩ | ⟨c3,hf⟩
 ·refine w_condt rfl c3<|sr<|s_mov (.bool false) rfl<|dk<|w_ret<|?_;obtain rfl:=os hf;exact r_flat ⟨trivial,trivial⟩ rfl (.refl _)
 ·refine w_condf rfl (bf c3)<|w_skip<|k_seq<|awp_seq<|sr<|s_q (.ptr 0 0 1) rfl trivial rfl<|s_q (.int .i64 a_1.N) rfl nle rfl<|s_q (.ptr 1 0 1) rfl trivial rfl<|s_q (.int .i64 b_2.N) rfl nle rfl<|s_q (.bool (a_1.N != b_2.N)) rfl rfl rfl<|dk<|?_
  rcases oi hf with ⟨c4,hf⟩ | ⟨c4,hf⟩
  ·refine w_condt rfl c4<|sr<|s_mov (.bool false) rfl<|dk<|w_ret<|?_;obtain rfl:=os hf;exact r_flat ⟨trivial,trivial⟩ rfl (.refl _)
  ·refine w_condf rfl (bf c4)<|w_skip<|k_seq<|awp_seq<|sr<|s_q (.ptr 0 0 2) rfl trivial rfl<|s_q (.str a_1.T) rfl nle rfl<|s_q (.ptr 1 0 2) rfl trivial rfl<|s_q (.str b_2.T) rfl nle rfl<|s_q (.bool (!(a_1.T == b_2.T))) rfl trivial rfl<|dk<|?_
   rcases oi hf with ⟨c5,hf⟩ | ⟨c5,hf⟩
   ·refine w_condt rfl c5<|sr<|s_mov (.bool false) rfl<|dk<|w_ret<|?_;obtain rfl:=os hf;exact r_flat ⟨trivial,trivial⟩ rfl (.refl _)
   ·refine w_condf rfl (bf c5)<|w_skip<|k_seq<|sr<|s_mov (.bool true) rfl<|dk<|w_ret<|?_;obtain rfl:=os hf;exact r_flat ⟨trivial,trivial⟩ rfl (.refl _)

/- laws.eqAtomS -/
def c151:ACode :=
 (.seq (.reg (tm 4 (.c (.bool false)) .done))
 (.seq (.seq (.reg (tm 6 (.t 0) (tq 7 (.len (.t 6)) (tm 8 (.t 1) (tq 9 (.len (.t 8)) (tq 10 (.bin .neq (.t 7) (.t 9)) .done))))))
 (.cond (.t 10) (.seq (.reg (tm 4 (.c (.bool false)) .done))
 .ret)
 .skip))
 (.seq (.seq (.reg (tm 5 (.c (.int .i64 0)) .done))
 (.block 0 (.loop (.seq (.seq (.reg (tm 11 (.t 5) (tm 12 (.t 0) (tq 13 (.len (.t 12)) (tq 14 (.bin .lss (.t 11) (.t 13)) .done)))))
 (.cond (.t 14) .skip
 (.exit 0)))
 (.seq (.block 1 (.seq (.reg (tm 17 (.t 0) (tm 18 (.t 5) (tq 19 (.iaddr 3 (.t 17) (.t 18)) (tq 20 (.load 3 true (.t 19)) (tm 21 (.t 1) (tm 22 (.t 5) (tq 23 (.iaddr 3 (.t 21) (.t 22)) (tq 24 (.load 3 true (.t 23)) (.l ⟨(some 25),none,.call 178 [(.t 20),(.t 24)]⟩ []
 (tq 26 (.not (.t 25)) .done) .non))))))))))
 (.cond (.t 26) (.seq (.reg (tm 4 (.c (.bool false)) .done))
 .ret)
 .skip)))
 (.reg (tm 15 (.t 5) (tq 16 (.bin .add (.t 15) (.c (.int .i64 1))) (tm 5 (.t 16) .done)))))))))
 (.cut (.seq (.reg (tm 4 (.c (.bool true)) .done))
 .ret)))))
theorem fc151:fcomp Tryz.prog Tryz.f151 = some (c151.erase,[.mov (.t 4)],27):=by kernel_rfl
def laws_eqAtomS_L1 (b_2:(List GAtom)):List GAtom → Nat → Option (Fl Bool Unit)
  | [],i_25 =>
    some (.go ())
  | x_43 :: xs,i_25 =>
    (idx b_2 (i_25:Int)).bind fun x_46 =>
    (laws_eqAtom x_43 x_46).bind fun r_48 =>
    if (!r_48) then
    some (.ret false)
    else
    laws_eqAtomS_L1 b_2 xs (i_25 + 1)

def laws_eqAtomS (a_1:(List GAtom)) (b_2:(List GAtom)):Option Bool :=
    if ((a_1.length:Int) != (b_2.length:Int)) then
    some false
    else
    (laws_eqAtomS_L1 b_2 a_1 0).bind fun q => (match q with
    | .ret r => some r
    | .go _ =>
    some true)
theorem w_laws_eqAtomS (a_1:(List GAtom)) (b_2:(List GAtom)) (r:Bool) (hf:laws_eqAtomS a_1 b_2 = some r):CallOK Tryz.prog 151 .flat [(.lst 3 (a_1.map encGAtom)),(.lst 3 (b_2.map encGAtom))] (.bool r):=by
 refine CallOK.of_awp mixed Tryz.func151 fc151 nle ?_;rw [argT_eq];unfold laws_eqAtomS at hf;unfold c151;refine (show awp Tryz.prog false 0 _ (ofL [(0,(.lst 3 (a_1.map encGAtom))),(1,(.lst 3 (b_2.map encGAtom)))]) [] _ from ?_);refine sr<|s_mov (.bool false) rfl<|dk<|awp_seq<|sr<|s_mov (.lst 3 (a_1.map encGAtom)) rfl<|s_dof (o_len (enc:=encGAtom) rfl) fun hl3 => s_mov (.lst 3 (b_2.map encGAtom)) rfl<|s_dof (o_len (enc:=encGAtom) rfl) fun hl4 => s_q (.bool ((a_1.length:Int) != (b_2.length:Int))) rfl rfl rfl<|dk<|?_
 rcases oi hf with ⟨c5,hf⟩ | ⟨c5,hf⟩
 ·refine w_condt rfl c5<|sr<|s_mov (.bool false) rfl<|dk<|w_ret<|?_;obtain rfl:=os hf;exact r_flat ⟨trivial,trivial⟩ rfl (.refl _)
 ·refine w_condf rfl (bf c5)<|w_skip<|k_seq<|awp_seq<|sr<|s_mov (.int .i64 0) rfl<|dk<|?_
  obtain ⟨p36,hb1,hf⟩:=ob hf
  refine awp_cutx (X:={q:Unit // p36 = .go q}) (fun q => ([],[])) ?_ ?_
  ·refine awp_loop (X:={q:Nat // laws_eqAtomS_L1 b_2 (a_1.drop q) q = some p36}) (fun q => ([(0,(.lst 3 (a_1.map encGAtom))),(1,(.lst 3 (b_2.map encGAtom))),(5,(.int .i64 (q.1:Int)))],[])) (fun q => a_1.length - q.1) ⟨0,hb1⟩ ⟨[],[],_,_,rfl,rfl,⟨.refl _,⟨.refl _,⟨.refl _,trivial⟩⟩⟩,(.refl _)⟩ ?_
   rintro ⟨i_25,hc1⟩
   have hc1:laws_eqAtomS_L1 b_2 (a_1.drop i_25) i_25 = some p36:=hc1
   refine (show awp Tryz.prog false 0 _ (ofL [(0,(.lst 3 (a_1.map encGAtom))),(1,(.lst 3 (b_2.map encGAtom))),(5,(.int .i64 (i_25:Int)))]) [] _ from ?_)
   rcases dropc a_1 i_25 with ⟨hie39,hd42⟩ | ⟨hlt37,x_43,hx38,hd42⟩
   ·rw [hd42,laws_eqAtomS_L1.eq_1] at hc1
    have hq41:=dlf hie39
    refine awp_seq<|sr<|s_mov (.int .i64 (i_25:Int)) rfl<|s_mov (.lst 3 (a_1.map encGAtom)) rfl<|s_dof (o_len (enc:=encGAtom) rfl) fun hl44 => s_q (.bool (decide ((i_25:Int) < (a_1.length:Int)))) rfl rfl rfl<|dk<|w_condf rfl hq41<|w_exit<|k_seqx<|k_loopx<|k_blkx<|?_;obtain rfl:=os hc1;exact k_cutn ⟨_,rfl⟩ ⟨[],[],_,_,rfl,rfl,trivial,(.refl _)⟩
   ·rw [hd42,laws_eqAtomS_L1.eq_2] at hc1
    have hq41:=dlt hlt37
    refine awp_seq<|sr<|s_mov (.int .i64 (i_25:Int)) rfl<|s_mov (.lst 3 (a_1.map encGAtom)) rfl<|s_dof (o_len (enc:=encGAtom) rfl) fun hl45 => s_q (.bool (decide ((i_25:Int) < (a_1.length:Int)))) rfl rfl rfl<|dk<|w_condt rfl hq41<|w_skip<|k_seq<|awp_seq<|w_blk<|sr<|?_
    obtain ⟨x_46,ex47,hc1⟩:=ob hc1
    obtain ⟨r_48,er49,hc1⟩:=ob hc1
    refine s_mov (.lst 3 (a_1.map encGAtom)) rfl<|s_mov (.int .i64 (i_25:Int)) rfl<|s_do (o_iaddrn (enc:=encGAtom) rfl rfl hx38)<|s_q (encGAtom x_43) rfl nle rfl<|s_mov (.lst 3 (b_2.map encGAtom)) rfl<|s_mov (.int .i64 (i_25:Int)) rfl<|s_do (o_iaddr (enc:=encGAtom) rfl rfl (idx0 ex47) (idx1 ex47))<|s_q (encGAtom x_46) rfl nle rfl<|s_dol (o_call (w_laws_eqAtom _ _ _ er49) rfl (.refl _) rfl) a_same trivial<|s_q (.bool (!r_48)) rfl trivial rfl<|dk<|?_
    rcases oi hc1 with ⟨c50,hc1⟩ | ⟨c50,hc1⟩
    ·refine w_condt rfl c50<|sr<|s_mov (.bool false) rfl<|dk<|w_ret<|?_;obtain rfl:=os hc1;obtain rfl:=os hf;exact r_flat ⟨trivial,trivial⟩ rfl (.refl _)
    ·refine w_condf rfl (bf c50)<|w_skip<|k_blk<|k_seq<|w_reg<|s_mov (.int .i64 (i_25:Int)) rfl<|s_q (.int .i64 (w64 ((i_25:Int) + 1))) rfl rfl rfl<|s_mov (.int .i64 (w64 ((i_25:Int) + 1))) rfl<|w_done<|?_;exact k_loopn ⟨(i_25 + 1),hc1⟩ (mul hlt37) ⟨[],[],_,_,rfl,rfl,⟨.refl _,⟨.refl _,⟨.of_eq (congrArg (AV.int _) (w64_incr hlt37 hl45)),trivial⟩⟩⟩,(.refl _)⟩
  ·rintro ⟨_,rfl⟩
   refine sr<|s_mov (.bool true) rfl<|dk<|w_ret<|?_;obtain rfl:=os hf;exact r_flat ⟨trivial,trivial⟩ rfl (.refl _)

/- laws.eqCond -/
def c97:ACode :=
 (.seq (.reg (tq 2 (.box 3 (.t 0)) (tq 3 (.box 3 (.t 1)) (tm 4 (.c (.bool false)) .done))))
 (.seq (.seq (.reg (tq 5 (.faddr 0 (.t 2)) (tq 6 (.load 1 false (.t 5)) (tq 7 (.faddr 0 (.t 3)) (tq 8 (.load 1 false (.t 7)) (tq 9 (.bin .neq (.t 6) (.t 8)) .done))))))
 (.cond (.t 9) (.seq (.reg (tm 4 (.c (.bool false)) .done))
 .ret)
 .skip))
 (.seq (.seq (.reg (tq 10 (.faddr 1 (.t 2)) (tq 11 (.load 1 false (.t 10)) (tq 12 (.faddr 1 (.t 3)) (tq 13 (.load 1 false (.t 12)) (tq 14 (.bin .neq (.t 11) (.t 13)) .done))))))
 (.cond (.t 14) (.seq (.reg (tm 4 (.c (.bool false)) .done))
 .ret)
 .skip))
 (.seq (.seq (.reg (tq 15 (.faddr 2 (.t 2)) (tq 16 (.load 1 false (.t 15)) (tq 17 (.faddr 2 (.t 3)) (tq 18 (.load 1 false (.t 17)) (tq 19 (.call 151 [(.t 16),(.t 18)]) (tq 20 (.not (.t 19)) .done)))))))
 (.cond (.t 20) (.seq (.reg (tm 4 (.c (.bool false)) .done))
 .ret)
 .skip))
 (.seq (.reg (tm 4 (.c (.bool true)) .done))
 .ret)))))
theorem fc97:fcomp Tryz.prog Tryz.f97 = some (c97.erase,[.mov (.t 4)],21):=by kernel_rfl
def laws_eqCond (a_1:GCond) (b_2:GCond):Option Bool :=
    if (!(a_1.Column == b_2.Column)) then
    some false
    else
    if (a_1.Func != b_2.Func) then
    some false
    else
    (laws_eqAtomS a_1.Value b_2.Value).bind fun r_5 =>
    if (!r_5) then
    some false
    else
    some true
theorem w_laws_eqCond (a_1:GCond) (b_2:GCond) (r:Bool) (hf:laws_eqCond a_1 b_2 = some r):CallOK Tryz.prog 97 .flat [(encGCond a_1),(encGCond b_2)] (.bool r):=by
 refine CallOK.of_awp mixed Tryz.func97 fc97 nle ?_;rw [argT_eq];unfold laws_eqCond at hf;unfold c97;refine (show awp Tryz.prog false 0 _ (ofL [(0,(encGCond a_1)),(1,(encGCond b_2))]) [] _ from ?_);refine sr<|s_do (o_box (j:=0) (c:=(.agg [(.str a_1.Column),(.int .i64 a_1.Func),(.lst 3 (a_1.Value.map encGAtom))])) rfl trivial rfl rfl)<|s_do (o_box (j:=1) (c:=(.agg [(.str b_2.Column),(.int .i64 b_2.Func),(.lst 3 (b_2.Value.map encGAtom))])) rfl trivial rfl rfl)<|s_mov (.bool false) rfl<|dk<|awp_seq<|sr<|s_q (.ptr 0 0 0) rfl trivial rfl<|s_q (.str a_1.Column) rfl nle rfl<|s_q (.ptr 1 0 0) rfl trivial rfl<|s_q (.str b_2.Column) rfl nle rfl<|s_q (.bool (!(a_1.Column == b_2.Column))) rfl trivial rfl<|?_
 refine dk<|?_
 rcases oi hf with ⟨c3,hf⟩ | ⟨c3,hf⟩
 ·refine w_condt rfl c3<|sr<|s_mov (.bool false) rfl<|dk<|w_ret<|?_;obtain rfl:=os hf;exact r_flat ⟨trivial,trivial⟩ rfl (.refl _)
 ·refine w_condf rfl (bf c3)<|w_skip<|k_seq<|awp_seq<|sr<|s_q (.ptr 0 0 1) rfl trivial rfl<|s_q (.int .i64 a_1.Func) rfl nle rfl<|s_q (.ptr 1 0 1) rfl trivial rfl<|s_q (.int .i64 b_2.Func) rfl nle rfl<|s_q (.bool (a_1.Func != b_2.Func)) rfl rfl rfl<|dk<|?_
  rcases oi hf with ⟨c4,hf⟩ | ⟨c4,hf⟩
  ·refine w_condt rfl c4<|sr<|s_mov (.bool false) rfl<|dk<|w_ret<|?_;obtain rfl:=os hf;exact r_flat ⟨trivial,trivial⟩ rfl (.refl _)
  ·refine w_condf rfl (bf c4)<|w_skip<|k_seq<|awp_seq<|sr<|?_
   obtain ⟨r_5,er6,hf⟩:=ob hf
   refine s_q (.ptr 0 0 2) rfl trivial rfl<|s_q (.lst 3 (a_1.Value.map encGAtom)) rfl nle rfl<|s_q (.ptr 1 0 2) rfl trivial rfl<|s_q (.lst 3 (b_2.Value.map encGAtom)) rfl nle rfl<|s_do (o_call (w_laws_eqAtomS _ _ _ er6) rfl (.refl _) rfl)<|s_q (.bool (!r_5)) rfl trivial rfl<|dk<|?_
   rcases oi hf with ⟨c7,hf⟩ | ⟨c7,hf⟩
   ·refine w_condt rfl c7<|sr<|s_mov (.bool false) rfl<|dk<|w_ret<|?_;obtain rfl:=os hf;exact r_flat ⟨trivial,trivial⟩ rfl (.refl _)
   ·refine w_condf rfl (bf c7)<|w_skip<|k_seq<|sr<|s_mov (.bool true) rfl<|dk<|w_ret<|?_;obtain rfl:=os hf;exact r_flat ⟨trivial,trivial⟩ rfl (.refl _)

/- laws.eqCondS -/
def c42:ACode :=
 (.seq (.reg (tm 4 (.c (.bool false)) .done))
 (.seq (.seq (.reg (tm 6 (.t 0) (tq 7 (.len (.t 6)) (tm 8 (.t 1) (tq 9 (.len (.t 8)) (tq 10 (.bin .neq (.t 7) (.t 9)) .done))))))
 (.cond (.t 10) (.seq (.reg (tm 4 (.c (.bool false)) .done))
 .ret)
 .skip))
 (.seq (.seq (.reg (tm 5 (.c (.int .i64 0)) .done))
 (.block 0 (.loop (.seq (.seq (.reg (tm 11 (.t 5) (tm 12 (.t 0) (tq 13 (.len (.t 12)) (tq 14 (.bin .lss (.t 11) (.t 13)) .done)))))
 (.cond (.t 14) .skip
 (.exit 0)))
 (.seq (.block 1 (.seq (.reg (tm 17 (.t 0) (tm 18 (.t 5) (tq 19 (.iaddr 3 (.t 17) (.t 18)) (tq 20 (.load 3 true (.t 19)) (tm 21 (.t 1) (tm 22 (.t 5) (tq 23 (.iaddr 3 (.t 21) (.t 22)) (tq 24 (.load 3 true (.t 23)) (.l ⟨(some 25),none,.call 97 [(.t 20),(.t 24)]⟩ []
 (tq 26 (.not (.t 25)) .done) .non))))))))))
 (.cond (.t 26) (.seq (.reg (tm 4 (.c (.bool false)) .done))
 .ret)
 .skip)))
 (.reg (tm 15 (.t 5) (tq 16 (.bin .add (.t 15) (.c (.int .i64 1))) (tm 5 (.t 16) .done)))))))))
 (.cut (.seq (.reg (tm 4 (.c (.bool true)) .done))
 .ret)))))
theorem fc42:fcomp Tryz.prog Tryz.f42 = some (c42.erase,[.mov (.t 4)],27):=by kernel_rfl
def laws_eqCondS_L1 (b_2:(List GCond)):List GCond → Nat → Option (Fl Bool Unit)
  | [],i_25 =>
    some (.go ())
  | x_43 :: xs,i_25 =>
    (idx b_2 (i_25:Int)).bind fun x_46 =>
    (laws_eqCond x_43 x_46).bind fun r_48 =>
    if (!r_48) then
    some (.ret false)
    else
    laws_eqCondS_L1 b_2 xs (i_25 + 1)

def laws_eqCondS (a_1:(List GCond)) (b_2:(List GCond)):Option Bool :=
    if ((a_1.length:Int) != (b_2.length:Int)) then
    some false
    else
    (laws_eqCondS_L1 b_2 a_1 0).bind fun q => (match q with
    | .ret r => some r
    | .go _ =>
    some true)
theorem w_laws_eqCondS (a_1:(List GCond)) (b_2:(List GCond)) (r:Bool) (hf:laws_eqCondS a_1 b_2 = some r):CallOK Tryz.prog 42 .flat [(.lst 3 (a_1.map encGCond)),(.lst 3 (b_2.map encGCond))] (.bool r):=by
 refine CallOK.of_awp mixed Tryz.func42 fc42 nle ?_;rw [argT_eq];unfold laws_eqCondS at hf;unfold c42;refine (show awp Tryz.prog false 0 _ (ofL [(0,(.lst 3 (a_1.map encGCond))),(1,(.lst 3 (b_2.map encGCond)))]) [] _ from ?_);refine sr<|s_mov (.bool false) rfl<|dk<|awp_seq<|sr<|s_mov (.lst 3 (a_1.map encGCond)) rfl<|s_dof (o_len (enc:=encGCond) rfl) fun hl3 => s_mov (.lst 3 (b_2.map encGCond)) rfl<|s_dof (o_len (enc:=encGCond) rfl) fun hl4 => s_q (.bool ((a_1.length:Int) != (b_2.length:Int))) rfl rfl rfl<|dk<|?_
 rcases oi hf with ⟨c5,hf⟩ | ⟨c5,hf⟩
 ·refine w_condt rfl c5<|sr<|s_mov (.bool false) rfl<|dk<|w_ret<|?_;obtain rfl:=os hf;exact r_flat ⟨trivial,trivial⟩ rfl (.refl _)
 ·refine w_condf rfl (bf c5)<|w_skip<|k_seq<|awp_seq<|sr<|s_mov (.int .i64 0) rfl<|dk<|?_
  obtain ⟨p36,hb1,hf⟩:=ob hf
  refine awp_cutx (X:={q:Unit // p36 = .go q}) (fun q => ([],[])) ?_ ?_
  ·refine awp_loop (X:={q:Nat // laws_eqCondS_L1 b_2 (a_1.drop q) q = some p36}) (fun q => ([(0,(.lst 3 (a_1.map encGCond))),(1,(.lst 3 (b_2.map encGCond))),(5,(.int .i64 (q.1:Int)))],[])) (fun q => a_1.length - q.1) ⟨0,hb1⟩ ⟨[],[],_,_,rfl,rfl,⟨.refl _,⟨.refl _,⟨.refl _,trivial⟩⟩⟩,(.refl _)⟩ ?_
   rintro ⟨i_25,hc1⟩
   have hc1:laws_eqCondS_L1 b_2 (a_1.drop i_25) i_25 = some p36:=hc1
   refine (show awp Tryz.prog false 0 _ (ofL [(0,(.lst 3 (a_1.map encGCond))),(1,(.lst 3 (b_2.map encGCond))),(5,(.int .i64 (i_25:Int)))]) [] _ from ?_)
   rcases dropc a_1 i_25 with ⟨hie39,hd42⟩ | ⟨hlt37,x_43,hx38,hd42⟩
   ·rw [hd42,laws_eqCondS_L1.eq_1] at hc1
    have hq41:=dlf hie39
    refine awp_seq<|sr<|s_mov (.int .i64 (i_25:Int)) rfl<|s_mov (.lst 3 (a_1.map encGCond)) rfl<|s_dof (o_len (enc:=encGCond) rfl) fun hl44 => s_q (.bool (decide ((i_25:Int) < (a_1.length:Int)))) rfl rfl rfl<|dk<|w_condf rfl hq41<|w_exit<|k_seqx<|k_loopx<|k_blkx<|?_;obtain rfl:=os hc1;exact k_cutn ⟨_,rfl⟩ ⟨[],[],_,_,rfl,rfl,trivial,(.refl _)⟩
   ·rw [hd42,laws_eqCondS_L1.eq_2] at hc1
    have hq41:=dlt hlt37
    refine awp_seq<|sr<|s_mov (.int .i64 (i_25:Int)) rfl<|s_mov (.lst 3 (a_1.map encGCond)) rfl<|s_dof (o_len (enc:=encGCond) rfl) fun hl45 => s_q (.bool (decide ((i_25:Int) < (a_1.length:Int)))) rfl rfl rfl<|dk<|w_condt rfl hq41<|w_skip<|k_seq<|awp_seq<|w_blk<|sr<|?_
    obtain ⟨x_46,ex47,hc1⟩:=ob hc1
    obtain ⟨r_48,er49,hc1⟩:=ob hc1
    refine s_mov (.lst 3 (a_1.map encGCond)) rfl<|s_mov (.int .i64 (i_25:Int)) rfl<|s_do (o_iaddrn (enc:=encGCond) rfl rfl hx38)<|s_q (encGCond x_43) rfl nle rfl<|s_mov (.lst 3 (b_2.map encGCond)) rfl<|s_mov (.int .i64 (i_25:Int)) rfl<|s_do (o_iaddr (enc:=encGCond) rfl rfl (idx0 ex47) (idx1 ex47))<|s_q (encGCond x_46) rfl nle rfl<|s_dol (o_call (w_laws_eqCond _ _ _ er49) rfl (.refl _) rfl) a_same trivial<|s_q (.bool (!r_48)) rfl trivial rfl<|dk<|?_
    rcases oi hc1 with ⟨c50,hc1⟩ | ⟨c50,hc1⟩
    ·refine w_condt rfl c50<|sr<|s_mov (.bool false) rfl<|dk<|w_ret<|?_;obtain rfl:=os hc1;obtain rfl:=os hf;exact r_flat ⟨trivial,trivial⟩ rfl (.refl _)
    ·refine w_condf rfl (bf c50)<|w_skip<|k_blk<|k_seq<|w_reg<|s_mov (.int .i64 (i_25:Int)) rfl<|s_q (.int .i64 (w64 ((i_25:Int) + 1))) rfl rfl rfl<|s_mov (.int .i64 (w64 ((i_25:Int) + 1))) rfl<|w_done<|?_;exact k_loopn ⟨(i_25 + 1),hc1⟩ (mul hlt37) ⟨[],[],_,_,rfl,rfl,⟨.refl _,⟨.refl _,⟨.of_eq (congrArg (AV.int _) (w64_incr hlt37 hl45)),trivial⟩⟩⟩,(.refl _)⟩
  ·rintro ⟨_,rfl⟩
   refine sr<|s_mov (.bool true) rfl<|dk<|w_ret<|?_;obtain rfl:=os hf;exact r_flat ⟨trivial,trivial⟩ rfl (.refl _)

/- laws.eqStringS -/
def c45:ACode :=
 (.seq (.reg (tm 4 (.c (.bool false)) .done))
 (.seq (.seq (.reg (tm 6 (.t 0) (tq 7 (.len (.t 6)) (tm 8 (.t 1) (tq 9 (.len (.t 8)) (tq 10 (.bin .neq (.t 7) (.t 9)) .done))))))
 (.cond (.t 10) (.seq (.reg (tm 4 (.c (.bool false)) .done))
 .ret)
 .skip))
 (.seq (.seq (.reg (tm 5 (.c (.int .i64 0)) .done))
 (.block 0 (.loop (.seq (.seq (.reg (tm 11 (.t 5) (tm 12 (.t 0) (tq 13 (.len (.t 12)) (tq 14 (.bin .lss (.t 11) (.t 13)) .done)))))
 (.cond (.t 14) .skip
 (.exit 0)))
 (.seq (.block 1 (.seq (.reg (tm 17 (.t 0) (tm 18 (.t 5) (tq 19 (.iaddr 1 (.t 17) (.t 18)) (tq 20 (.load 1 false (.t 19)) (tm 21 (.t 1) (tm 22 (.t 5) (tq 23 (.iaddr 1 (.t 21) (.t 22)) (tq 24 (.load 1 false (.t 23)) (tq 25 (.bin .neq (.t 20) (.t 24)) .done))))))))))
 (.cond (.t 25) (.seq (.reg (tm 4 (.c (.bool false)) .done))
 .ret)
 .skip)))
 (.reg (tm 15 (.t 5) (tq 16 (.bin .add (.t 15) (.c (.int .i64 1))) (tm 5 (.t 16) .done)))))))))
 (.cut (.seq (.reg (tm 4 (.c (.bool true)) .done))
 .ret)))))
theorem fc45:fcomp Tryz.prog Tryz.f45 = some (c45.erase,[.mov (.t 4)],26):=by kernel_rfl
def laws_eqStringS_L1 (b_2:(List Str)):List Str → Nat → Option (Fl Bool Unit)
  | [],i_21 =>
    some (.go ())
  | x_37 :: xs,i_21 =>
    (idx b_2 (i_21:Int)).bind fun x_40 =>
    if (!(x_37 == x_40)) then
    some (.ret false)
    else
    laws_eqStringS_L1 b_2 xs (i_21 + 1)

def laws_eqStringS (a_1:(List Str)) (b_2:(List Str)):Option Bool :=
    if ((a_1.length:Int) != (b_2.length:Int)) then
    some false
    else
    (laws_eqStringS_L1 b_2 a_1 0).bind fun q => (match q with
    | .ret r => some r
    | .go _ =>
    some true)
theorem w_laws_eqStringS (a_1:(List Str)) (b_2:(List Str)) (r:Bool) (hf:laws_eqStringS a_1 b_2 = some r):CallOK Tryz.prog 45 .flat [(.lst 1 (a_1.map AV.str)),(.lst 1 (b_2.map AV.str))] (.bool r):=by
 refine CallOK.of_awp mixed Tryz.func45 fc45 nle ?_;rw [argT_eq];unfold laws_eqStringS at hf;unfold c45;refine (show awp Tryz.prog false 0 _ (ofL [(0,(.lst 1 (a_1.map AV.str))),(1,(.lst 1 (b_2.map AV.str)))]) [] _ from ?_);refine sr<|s_mov (.bool false) rfl<|dk<|awp_seq<|sr<|s_mov (.lst 1 (a_1.map AV.str)) rfl<|s_dof (o_len (enc:=AV.str) rfl) fun hl3 => s_mov (.lst 1 (b_2.map AV.str)) rfl<|s_dof (o_len (enc:=AV.str) rfl) fun hl4 => s_q (.bool ((a_1.length:Int) != (b_2.length:Int))) rfl rfl rfl<|dk<|?_
 rcases oi hf with ⟨c5,hf⟩ | ⟨c5,hf⟩
 ·refine w_condt rfl c5<|sr<|s_mov (.bool false) rfl<|dk<|w_ret<|?_;obtain rfl:=os hf;exact r_flat ⟨trivial,trivial⟩ rfl (.refl _)
 ·refine w_condf rfl (bf c5)<|w_skip<|k_seq<|awp_seq<|sr<|s_mov (.int .i64 0) rfl<|dk<|?_
  obtain ⟨p30,hb1,hf⟩:=ob hf
  refine awp_cutx (X:={q:Unit // p30 = .go q}) (fun q => ([],[])) ?_ ?_
  ·refine awp_loop (X:={q:Nat // laws_eqStringS_L1 b_2 (a_1.drop q) q = some p30}) (fun q => ([(0,(.lst 1 (a_1.map AV.str))),(1,(.lst 1 (b_2.map AV.str))),(5,(.int .i64 (q.1:Int)))],[])) (fun q => a_1.length - q.1) ⟨0,hb1⟩ ⟨[],[],_,_,rfl,rfl,⟨.refl _,⟨.refl _,⟨.refl _,trivial⟩⟩⟩,(.refl _)⟩ ?_
   rintro ⟨i_21,hc1⟩
   have hc1:laws_eqStringS_L1 b_2 (a_1.drop i_21) i_21 = some p30:=hc1
   refine (show awp Tryz.prog false 0 _ (ofL [(0,(.lst 1 (a_1.map AV.str))),(1,(.lst 1 (b_2.map AV.str))),(5,(.int .i64 (i_21:Int)))]) [] _ from ?_)
   rcases dropc a_1 i_21 with ⟨hie33,hd36⟩ | ⟨hlt31,x_37,hx32,hd36⟩
   ·rw [hd36,laws_eqStringS_L1.eq_1] at hc1
    have hq35:=dlf hie33
    refine awp_seq<|sr<|s_mov (.int .i64 (i_21:Int)) rfl<|s_mov (.lst 1 (a_1.map AV.str)) rfl<|s_dof (o_len (enc:=AV.str) rfl) fun hl38 => s_q (.bool (decide ((i_21:Int) < (a_1.length:Int)))) rfl rfl rfl<|dk<|w_condf rfl hq35<|w_exit<|k_seqx<|k_loopx<|k_blkx<|?_;obtain rfl:=os hc1;exact k_cutn ⟨_,rfl⟩ ⟨[],[],_,_,rfl,rfl,trivial,(.refl _)⟩
   ·rw [hd36,laws_eqStringS_L1.eq_2] at hc1
    have hq35:=dlt hlt31
    refine awp_seq<|sr<|s_mov (.int .i64 (i_21:Int)) rfl<|s_mov (.lst 1 (a_1.map AV.str)) rfl<|s_dof (o_len (enc:=AV.str) rfl) fun hl39 => s_q (.bool (decide ((i_21:Int) < (a_1.length:Int)))) rfl rfl rfl<|dk<|w_condt rfl hq35<|w_skip<|k_seq<|awp_seq<|w_blk<|sr<|?_
    obtain ⟨x_40,ex41,hc1⟩:=ob hc1
    refine s_mov (.lst 1 (a_1.map AV.str)) rfl<|s_mov (.int .i64 (i_21:Int)) rfl<|s_do (o_iaddrn (enc:=AV.str) rfl rfl hx32)<|s_q (.str x_37) rfl ⟨rfl,rfl⟩ rfl<|s_mov (.lst 1 (b_2.map AV.str)) rfl<|s_mov (.int .i64 (i_21:Int)) rfl<|s_do (o_iaddr (enc:=AV.str) rfl rfl (idx0 ex41) (idx1 ex41))<|s_q (.str x_40) rfl ⟨rfl,rfl⟩ rfl<|s_q (.bool (!(x_37 == x_40))) rfl trivial rfl<|dk<|?_
    rcases oi hc1 with ⟨c42,hc1⟩ | ⟨c42,hc1⟩
    ·refine w_condt rfl c42<|sr<|s_mov (.bool false) rfl<|dk<|w_ret<|?_;obtain rfl:=os hc1;obtain rfl:=os hf;exact r_flat ⟨trivial,trivial⟩ rfl (.refl _)
    ·refine w_condf rfl (bf c42)<|w_skip<|k_blk<|k_seq<|w_reg<|s_mov (.int .i64 (i_21:Int)) rfl<|s_q (.int .i64 (w64 ((i_21:Int) + 1))) rfl rfl rfl<|s_mov (.int .i64 (w64 ((i_21:Int) + 1))) rfl<|w_done<|?_;exact k_loopn ⟨(i_21 + 1),hc1⟩ (mul hlt31) ⟨[],[],_,_,rfl,rfl,⟨.refl _,⟨.refl _,⟨.of_eq (congrArg (AV.int _) (w64_incr hlt31 hl39)),trivial⟩⟩⟩,(.refl _)⟩
  ·rintro ⟨_,rfl⟩
   refine sr<|s_mov (.bool true) rfl<|dk<|w_ret<|?_;obtain rfl:=os hf;exact r_flat ⟨trivial,trivial⟩ rfl (.refl _)

/- laws.eqSet -/
def c98:ACode :=
 (.seq (.reg (tq 2 (.box 3 (.t 0)) (tq 3 (.box 3 (.t 1)) (tm 4 (.c (.bool false)) .done))))
 (.seq (.seq (.reg (tq 5 (.faddr 0 (.t 2)) (tq 6 (.load 1 false (.t 5)) (tq 7 (.faddr 0 (.t 3)) (tq 8 (.load 1 false (.t 7)) (tq 9 (.bin .neq (.t 6) (.t 8)) .done))))))
 (.cond (.t 9) (.seq (.reg (tm 4 (.c (.bool false)) .done))
 .ret)
 .skip))
 (.seq (.seq (.reg (tq 10 (.faddr 1 (.t 2)) (tq 11 (.load 1 false (.t 10)) (tq 12 (.faddr 1 (.t 3)) (tq 13 (.load 1 false (.t 12)) (tq 14 (.call 151 [(.t 11),(.t 13)]) (tq 15 (.not (.t 14)) .done)))))))
 (.cond (.t 15) (.seq (.reg (tm 4 (.c (.bool false)) .done))
 .ret)
 .skip))
 (.seq (.seq (.reg (tq 16 (.faddr 2 (.t 2)) (tq 17 (.load 1 false (.t 16)) (tq 18 (.faddr 2 (.t 3)) (tq 19 (.load 1 false (.t 18)) (tq 20 (.call 45 [(.t 17),(.t 19)]) (tq 21 (.not (.t 20)) .done)))))))
 (.cond (.t 21) (.seq (.reg (tm 4 (.c (.bool false)) .done))
 .ret)
 .skip))
 (.seq (.reg (tm 4 (.c (.bool true)) .done))
 .ret)))))
theorem fc98:fcomp Tryz.prog Tryz.f98 = some (c98.erase,[.mov (.t 4)],22):=by kernel_rfl
def laws_eqSet (a_1:GSet) (b_2:GSet):Option Bool :=
    if (!(a_1.Column == b_2.Column)) then
    some false
    else
    (laws_eqAtomS a_1.Value b_2.Value).bind fun r_4 =>
    if (!r_4) then
    some false
    else
    (laws_eqStringS a_1.Names b_2.Names).bind fun r_7 =>
    if (!r_7) then
    some false
    else
    some true
theorem w_laws_eqSet (a_1:GSet) (b_2:GSet) (r:Bool) (hf:laws_eqSet a_1 b_2 = some r):CallOK Tryz.prog 98 .flat [(encGSet a_1),(encGSet b_2)] (.bool r):=by
 refine CallOK.of_awp mixed Tryz.func98 fc98 nle ?_;rw [argT_eq];unfold laws_eqSet at hf;unfold c98;refine (show awp Tryz.prog false 0 _ (ofL [(0,(encGSet a_1)),(1,(encGSet b_2))]) [] _ from ?_);refine sr<|s_do (o_box (j:=0) (c:=(.agg [(.str a_1.Column),(.lst 3 (a_1.Value.map encGAtom)),(.lst 1 (a_1.Names.map AV.str))])) rfl trivial rfl rfl)<|s_do (o_box (j:=1) (c:=(.agg [(.str b_2.Column),(.lst 3 (b_2.Value.map encGAtom)),(.lst 1 (b_2.Names.map AV.str))])) rfl trivial rfl rfl)<|s_mov (.bool false) rfl<|dk<|awp_seq<|sr<|s_q (.ptr 0 0 0) rfl trivial rfl<|s_q (.str a_1.Column) rfl nle rfl<|s_q (.ptr 1 0 0) rfl trivial rfl<|s_q (.str b_2.Column) rfl nle rfl<|?_
 refine s_q (.bool (!(a_1.Column == b_2.Column))) rfl trivial rfl<|dk<|?_
 rcases oi hf with ⟨c3,hf⟩ | ⟨c3,hf⟩
 ·refine w_condt rfl c3<|sr<|s_mov (.bool false) rfl<|dk<|w_ret<|?_;obtain rfl:=os hf;exact r_flat ⟨trivial,trivial⟩ rfl (.refl _)
 ·refine w_condf rfl (bf c3)<|w_skip<|k_seq<|awp_seq<|sr<|?_
  obtain ⟨r_4,er5,hf⟩:=ob hf
  refine s_q (.ptr 0 0 1) rfl trivial rfl<|s_q (.lst 3 (a_1.Value.map encGAtom)) rfl nle rfl<|s_q (.ptr 1 0 1) rfl trivial rfl<|s_q (.lst 3 (b_2.Value.map encGAtom)) rfl nle rfl<|s_do (o_call (w_laws_eqAtomS _ _ _ er5) rfl (.refl _) rfl)<|s_q (.bool (!r_4)) rfl trivial rfl<|dk<|?_
  rcases oi hf with ⟨c6,hf⟩ | ⟨c6,hf⟩
  ·refine w_condt rfl c6<|sr<|s_mov (.bool false) rfl<|dk<|w_ret<|?_;obtain rfl:=os hf;exact r_flat ⟨trivial,trivial⟩ rfl (.refl _)
  ·refine w_condf rfl (bf c6)<|w_skip<|k_seq<|awp_seq<|sr<|?_
   obtain ⟨r_7,er8,hf⟩:=ob hf
   refine s_q (.ptr 0 0 2) rfl trivial rfl<|s_q (.lst 1 (a_1.Names.map AV.str)) rfl nle rfl<|s_q (.ptr 1 0 2) rfl trivial rfl<|s_q (.lst 1 (b_2.Names.map AV.str)) rfl nle rfl<|s_do (o_call (w_laws_eqStringS _ _ _ er8) rfl (.refl _) rfl)<|s_q (.bool (!r_7)) rfl trivial rfl<|dk<|?_
   rcases oi hf with ⟨c9,hf⟩ | ⟨c9,hf⟩
   ·refine w_condt rfl c9<|sr<|s_mov (.bool false) rfl<|dk<|w_ret<|?_;obtain rfl:=os hf;exact r_flat ⟨trivial,trivial⟩ rfl (.refl _)
   ·refine w_condf rfl (bf c9)<|w_skip<|k_seq<|sr<|s_mov (.bool true) rfl<|dk<|w_ret<|?_;obtain rfl:=os hf;exact r_flat ⟨trivial,trivial⟩ rfl (.refl _)

/- laws.eqSetS -/
def c43:ACode :=
 (.seq (.reg (tm 4 (.c (.bool false)) .done))
 (.seq (.seq (.reg (tm 6 (.t 0) (tq 7 (.len (.t 6)) (tm 8 (.t 1) (tq 9 (.len (.t 8)) (tq 10 (.bin .neq (.t 7) (.t 9)) .done))))))
 (.cond (.t 10) (.seq (.reg (tm 4 (.c (.bool false)) .done))
 .ret)
 .skip))
 (.seq (.seq (.reg (tm 5 (.c (.int .i64 0)) .done))
 (.block 0 (.loop (.seq (.seq (.reg (tm 11 (.t 5) (tm 12 (.t 0) (tq 13 (.len (.t 12)) (tq 14 (.bin .lss (.t 11) (.t 13)) .done)))))
 (.cond (.t 14) .skip
 (.exit 0)))
 (.seq (.block 1 (.seq (.reg (tm 17 (.t 0) (tm 18 (.t 5) (tq 19 (.iaddr 3 (.t 17) (.t 18)) (tq 20 (.load 3 true (.t 19)) (tm 21 (.t 1) (tm 22 (.t 5) (tq 23 (.iaddr 3 (.t 21) (.t 22)) (tq 24 (.load 3 true (.t 23)) (.l ⟨(some 25),none,.call 98 [(.t 20),(.t 24)]⟩ []
 (tq 26 (.not (.t 25)) .done) .non))))))))))
 (.cond (.t 26) (.seq (.reg (tm 4 (.c (.bool false)) .done))
 .ret)
 .skip)))
 (.reg (tm 15 (.t 5) (tq 16 (.bin .add (.t 15) (.c (.int .i64 1))) (tm 5 (.t 16) .done)))))))))
 (.cut (.seq (.reg (tm 4 (.c (.bool true)) .done))
 .ret)))))
theorem fc43:fcomp Tryz.prog Tryz.f43 = some (c43.erase,[.mov (.t 4)],27):=by kernel_rfl
def laws_eqSetS_L1 (b_2:(List GSet)):List GSet → Nat → Option (Fl Bool Unit)
  | [],i_25 =>
    some (.go ())
  | x_43 :: xs,i_25 =>
    (idx b_2 (i_25:Int)).bind fun x_46 =>
    (laws_eqSet x_43 x_46).bind fun r_48 =>
    if (!r_48) then
    some (.ret false)
    else
    laws_eqSetS_L1 b_2 xs (i_25 + 1)

def laws_eqSetS (a_1:(List GSet)) (b_2:(List GSet)):Option Bool :=
    if ((a_1.length:Int) != (b_2.length:Int)) then
    some false
    else
    (laws_eqSetS_L1 b_2 a_1 0).bind fun q => (match q with
    | .ret r => some r
    | .go _ =>
    some true)
theorem w_laws_eqSetS (a_1:(List GSet)) (b_2:(List GSet)) (r:Bool) (hf:laws_eqSetS a_1 b_2 = some r):CallOK Tryz.prog 43 .flat [(.lst 3 (a_1.map encGSet)),(.lst 3 (b_2.map encGSet))] (.bool r):=by
 refine CallOK.of_awp mixed Tryz.func43 fc43 nle ?_;rw [argT_eq];unfold laws_eqSetS at hf;unfold c43;refine (show awp Tryz.prog false 0 _ (ofL [(0,(.lst 3 (a_1.map encGSet))),(1,(.lst 3 (b_2.map encGSet)))]) [] _ from ?_);refine sr<|s_mov (.bool false) rfl<|dk<|awp_seq<|sr<|s_mov (.lst 3 (a_1.map encGSet)) rfl<|s_dof (o_len (enc:=encGSet) rfl) fun hl3 => s_mov (.lst 3 (b_2.map encGSet)) rfl<|s_dof (o_len (enc:=encGSet) rfl) fun hl4 => s_q (.bool ((a_1.length:Int) != (b_2.length:Int))) rfl rfl rfl<|dk<|?_
 rcases oi hf with ⟨c5,hf⟩ | ⟨c5,hf⟩
 ·refine w_condt rfl c5<|sr<|s_mov (.bool false) rfl<|dk<|w_ret<|?_;obtain rfl:=os hf;exact r_flat ⟨trivial,trivial⟩ rfl (.refl _)
 ·refine w_condf rfl (bf c5)<|w_skip<|k_seq<|awp_seq<|sr<|s_mov (.int .i64 0) rfl<|dk<|?_
  obtain ⟨p36,hb1,hf⟩:=ob hf
  refine awp_cutx (X:={q:Unit // p36 = .go q}) (fun q => ([],[])) ?_ ?_
  ·refine awp_loop (X:={q:Nat // laws_eqSetS_L1 b_2 (a_1.drop q) q = some p36}) (fun q => ([(0,(.lst 3 (a_1.map encGSet))),(1,(.lst 3 (b_2.map encGSet))),(5,(.int .i64 (q.1:Int)))],[])) (fun q => a_1.length - q.1) ⟨0,hb1⟩ ⟨[],[],_,_,rfl,rfl,⟨.refl _,⟨.refl _,⟨.refl _,trivial⟩⟩⟩,(.refl _)⟩ ?_
   rintro ⟨i_25,hc1⟩
   have hc1:laws_eqSetS_L1 b_2 (a_1.drop i_25) i_25 = some p36:=hc1
   refine (show awp Tryz.prog false 0 _ (ofL [(0,(.lst 3 (a_1.map encGSet))),(1,(.lst 3 (b_2.map encGSet))),(5,(.int .i64 (i_25:Int)))]) [] _ from ?_)
   rcases dropc a_1 i_25 with ⟨hie39,hd42⟩ | ⟨hlt37,x_43,hx38,hd42⟩
   ·rw [hd42,laws_eqSetS_L1.eq_1] at hc1
    have hq41:=dlf hie39
    refine awp_seq<|sr<|s_mov (.int .i64 (i_25:Int)) rfl<|s_mov (.lst 3 (a_1.map encGSet)) rfl<|s_dof (o_len (enc:=encGSet) rfl) fun hl44 => s_q (.bool (decide ((i_25:Int) < (a_1.length:Int)))) rfl rfl rfl<|dk<|w_condf rfl hq41<|w_exit<|k_seqx<|k_loopx<|k_blkx<|?_;obtain rfl:=os hc1;exact k_cutn ⟨_,rfl⟩ ⟨[],[],_,_,rfl,rfl,trivial,(.refl _)⟩
   ·rw [hd42,laws_eqSetS_L1.eq_2] at hc1
    have hq41:=dlt hlt37
    refine awp_seq<|sr<|s_mov (.int .i64 (i_25:Int)) rfl<|s_mov (.lst 3 (a_1.map encGSet)) rfl<|s_dof (o_len (enc:=encGSet) rfl) fun hl45 => s_q (.bool (decide ((i_25:Int) < (a_1.length:Int)))) rfl rfl rfl<|dk<|w_condt rfl hq41<|w_skip<|k_seq<|awp_seq<|w_blk<|sr<|?_
    obtain ⟨x_46,ex47,hc1⟩:=ob hc1
    obtain ⟨r_48,er49,hc1⟩:=ob hc1
    refine s_mov (.lst 3 (a_1.map encGSet)) rfl<|s_mov (.int .i64 (i_25:Int)) rfl<|s_do (o_iaddrn (enc:=encGSet) rfl rfl hx38)<|s_q (encGSet x_43) rfl nle rfl<|s_mov (.lst 3 (b_2.map encGSet)) rfl<|s_mov (.int .i64 (i_25:Int)) rfl<|s_do (o_iaddr (enc:=encGSet) rfl rfl (idx0 ex47) (idx1 ex47))<|s_q (encGSet x_46) rfl nle rfl<|s_dol (o_call (w_laws_eqSet _ _ _ er49) rfl (.refl _) rfl) a_same trivial<|s_q (.bool (!r_48)) rfl trivial rfl<|dk<|?_
    rcases oi hc1 with ⟨c50,hc1⟩ | ⟨c50,hc1⟩
    ·refine w_condt rfl c50<|sr<|s_mov (.bool false) rfl<|dk<|w_ret<|?_;obtain rfl:=os hc1;obtain rfl:=os hf;exact r_flat ⟨trivial,trivial⟩ rfl (.refl _)
    ·refine w_condf rfl (bf c50)<|w_skip<|k_blk<|k_seq<|w_reg<|s_mov (.int .i64 (i_25:Int)) rfl<|s_q (.int .i64 (w64 ((i_25:Int) + 1))) rfl rfl rfl<|s_mov (.int .i64 (w64 ((i_25:Int) + 1))) rfl<|w_done<|?_;exact k_loopn ⟨(i_25 + 1),hc1⟩ (mul hlt37) ⟨[],[],_,_,rfl,rfl,⟨.refl _,⟨.refl _,⟨.of_eq (congrArg (AV.int _) (w64_incr hlt37 hl45)),trivial⟩⟩⟩,(.refl _)⟩
  ·rintro ⟨_,rfl⟩
   refine sr<|s_mov (.bool true) rfl<|dk<|w_ret<|?_;obtain rfl:=os hf;exact r_flat ⟨trivial,trivial⟩ rfl (.refl _)

/- laws.eqMut -/
def c99:ACode :=
 (.seq (.reg (tq 2 (.box 3 (.t 0)) (tq 3 (.box 3 (.t 1)) (tm 4 (.c (.bool false)) .done))))
 (.seq (.seq (.reg (tq 5 (.faddr 0 (.t 2)) (tq 6 (.load 1 false (.t 5)) (tq 7 (.faddr 0 (.t 3)) (tq 8 (.load 1 false (.t 7)) (tq 9 (.bin .neq (.t 6) (.t 8)) .done))))))
 (.cond (.t 9) (.seq (.reg (tm 4 (.c (.bool false)) .done))
 .ret)
 .skip))
 (.seq (.seq (.reg (tq 10 (.faddr 1 (.t 2)) (tq 11 (.load 1 false (.t 10)) (tq 12 (.faddr 1 (.t 3)) (tq 13 (.load 1 false (.t 12)) (tq 14 (.bin .neq (.t 11) (.t 13)) .done))))))
 (.cond (.t 14) (.seq (.reg (tm 4 (.c (.bool false)) .done))
 .ret)
 .skip))
 (.seq (.seq (.reg (tq 15 (.faddr 2 (.t 2)) (tq 16 (.load 1 false (.t 15)) (tq 17 (.faddr 2 (.t 3)) (tq 18 (.load 1 false (.t 17)) (tq 19 (.call 151 [(.t 16),(.t 18)]) (tq 20 (.not (.t 19)) .done)))))))
 (.cond (.t 20) (.seq (.reg (tm 4 (.c (.bool false)) .done))
 .ret)
 .skip))
 (.seq (.reg (tm 4 (.c (.bool true)) .done))
 .ret)))))
theorem fc99:fcomp Tryz.prog Tryz.f99 = some (c99.erase,[.mov (.t 4)],21):=by kernel_rfl
def laws_eqMut (a_1:GMut) (b_2:GMut):Option Bool :=
    if (!(a_1.Column == b_2.Column)) then
    some false
    else
    if (a_1.Func != b_2.Func) then
    some false
    else
    (laws_eqAtomS a_1.Value b_2.Value).bind fun r_5 =>
    if (!r_5) then
    some false
    else
    some true
theorem w_laws_eqMut (a_1:GMut) (b_2:GMut) (r:Bool) (hf:laws_eqMut a_1 b_2 = some r):CallOK Tryz.prog 99 .flat [(encGMut a_1),(encGMut b_2)] (.bool r):=by
 refine CallOK.of_awp mixed Tryz.func99 fc99 nle ?_;rw [argT_eq];unfold laws_eqMut at hf;unfold c99;refine (show awp Tryz.prog false 0 _ (ofL [(0,(encGMut a_1)),(1,(encGMut b_2))]) [] _ from ?_);refine sr<|s_do (o_box (j:=0) (c:=(.agg [(.str a_1.Column),(.int .i64 a_1.Func),(.lst 3 (a_1.Value.map encGAtom))])) rfl trivial rfl rfl)<|s_do (o_box (j:=1) (c:=(.agg [(.str b_2.Column),(.int .i64 b_2.Func),(.lst 3 (b_2.Value.map encGAtom))])) rfl trivial rfl rfl)<|s_mov (.bool false) rfl<|dk<|awp_seq<|sr<|s_q (.ptr 0 0 0) rfl trivial rfl<|s_q (.str a_1.Column) rfl nle rfl<|s_q (.ptr 1 0 0) rfl trivial rfl<|s_q (.str b_2.Column) rfl nle rfl<|s_q (.bool (!(a_1.Column == b_2.Column))) rfl trivial rfl<|?_
 refine dk<|?_
 rcases oi hf with ⟨c3,hf⟩ | ⟨c3,hf⟩
 ·refine w_condt rfl c3<|sr<|s_mov (.bool false) rfl<|dk<|w_ret<|?_;obtain rfl:=os hf;exact r_flat ⟨trivial,trivial⟩ rfl (.refl _)
 ·refine w_condf rfl (bf c3)<|w_skip<|k_seq<|awp_seq<|sr<|s_q (.ptr 0 0 1) rfl trivial rfl<|s_q (.int .i64 a_1.Func) rfl nle rfl<|s_q (.ptr 1 0 1) rfl trivial rfl<|s_q (.int .i64 b_2.Func) rfl nle rfl<|s_q (.bool (a_1.Func != b_2.Func)) rfl rfl rfl<|dk<|?_
  rcases oi hf with ⟨c4,hf⟩ | ⟨c4,hf⟩
  ·refine w_condt rfl c4<|sr<|s_mov (.bool false) rfl<|dk<|w_ret<|?_;obtain rfl:=os hf;exact r_flat ⟨trivial,trivial⟩ rfl (.refl _)
  ·refine w_condf rfl (bf c4)<|w_skip<|k_seq<|awp_seq<|sr<|?_
   obtain ⟨r_5,er6,hf⟩:=ob hf
   refine s_q (.ptr 0 0 2) rfl trivial rfl<|s_q (.lst 3 (a_1.Value.map encGAtom)) rfl nle rfl<|s_q (.ptr 1 0 2) rfl trivial rfl<|s_q (.lst 3 (b_2.Value.map encGAtom)) rfl nle rfl<|s_do (o_call (w_laws_eqAtomS _ _ _ er6) rfl (.refl _) rfl)<|s_q (.bool (!r_5)) rfl trivial rfl<|dk<|?_
   rcases oi hf with ⟨c7,hf⟩ | ⟨c7,hf⟩
   ·refine w_condt rfl c7<|sr<|s_mov (.bool false) rfl<|dk<|w_ret<|?_;obtain rfl:=os hf;exact r_flat ⟨trivial,trivial⟩ rfl (.refl _)
   ·refine w_condf rfl (bf c7)<|w_skip<|k_seq<|sr<|s_mov (.bool true) rfl<|dk<|w_ret<|?_;obtain rfl:=os hf;exact r_flat ⟨trivial,trivial⟩ rfl (.refl _)

/- laws.eqMutS -/
def c44:ACode :=
 (.seq (.reg (tm 4 (.c (.bool false)) .done))
 (.seq (.seq (.reg (tm 6 (.t 0) (tq 7 (.len (.t 6)) (tm 8 (.t 1) (tq 9 (.len (.t 8)) (tq 10 (.bin .neq (.t 7) (.t 9)) .done))))))
 (.cond (.t 10) (.seq (.reg (tm 4 (.c (.bool false)) .done))
 .ret)
 .skip))
 (.seq (.seq (.reg (tm 5 (.c (.int .i64 0)) .done))
 (.block 0 (.loop (.seq (.seq (.reg (tm 11 (.t 5) (tm 12 (.t 0) (tq 13 (.len (.t 12)) (tq 14 (.bin .lss (.t 11) (.t 13)) .done)))))
 (.cond (.t 14) .skip
 (.exit 0)))
 (.seq (.block 1 (.seq (.reg (tm 17 (.t 0) (tm 18 (.t 5) (tq 19 (.iaddr 3 (.t 17) (.t 18)) (tq 20 (.load 3 true (.t 19)) (tm 21 (.t 1) (tm 22 (.t 5) (tq 23 (.iaddr 3 (.t 21) (.t 22)) (tq 24 (.load 3 true (.t 23)) (.l ⟨(some 25),none,.call 99 [(.t 20),(.t 24)]⟩ []
 (tq 26 (.not (.t 25)) .done) .non))))))))))
 (.cond (.t 26) (.seq (.reg (tm 4 (.c (.bool false)) .done))
 .ret)
 .skip)))
 (.reg (tm 15 (.t 5) (tq 16 (.bin .add (.t 15) (.c (.int .i64 1))) (tm 5 (.t 16) .done)))))))))
 (.cut (.seq (.reg (tm 4 (.c (.bool true)) .done))
 .ret)))))
theorem fc44:fcomp Tryz.prog Tryz.f44 = some (c44.erase,[.mov (.t 4)],27):=by kernel_rfl
def laws_eqMutS_L1 (b_2:(List GMut)):List GMut → Nat → Option (Fl Bool Unit)
  | [],i_25 =>
    some (.go ())
  | x_43 :: xs,i_25 =>
    (idx b_2 (i_25:Int)).bind fun x_46 =>
    (laws_eqMut x_43 x_46).bind fun r_48 =>
    if (!r_48) then
    some (.ret false)
    else
    laws_eqMutS_L1 b_2 xs (i_25 + 1)

def laws_eqMutS (a_1:(List GMut)) (b_2:(List GMut)):Option Bool :=
    if ((a_1.length:Int) != (b_2.length:Int)) then
    some false
    else
    (laws_eqMutS_L1 b_2 a_1 0).bind fun q => (match q with
    | .ret r => some r
    | .go _ =>
    some true)
theorem w_laws_eqMutS (a_1:(List GMut)) (b_2:(List GMut)) (r:Bool) (hf:laws_eqMutS a_1 b_2 = some r):CallOK Tryz.prog 44 .flat [(.lst 3 (a_1.map encGMut)),(.lst 3 (b_2.map encGMut))] (.bool r):=by
 refine CallOK.of_awp mixed Tryz.func44 fc44 nle ?_;rw [argT_eq];unfold laws_eqMutS at hf;unfold c44;refine (show awp Tryz.prog false 0 _ (ofL [(0,(.lst 3 (a_1.map encGMut))),(1,(.lst 3 (b_2.map encGMut)))]) [] _ from ?_);refine sr<|s_mov (.bool false) rfl<|dk<|awp_seq<|sr<|s_mov (.lst 3 (a_1.map encGMut)) rfl<|s_dof (o_len (enc:=encGMut) rfl) fun hl3 => s_mov (.lst 3 (b_2.map encGMut)) rfl<|s_dof (o_len (enc:=encGMut) rfl) fun hl4 => s_q (.bool ((a_1.length:Int) != (b_2.length:Int))) rfl rfl rfl<|dk<|?_
 rcases oi hf with ⟨c5,hf⟩ | ⟨c5,hf⟩
 ·refine w_condt rfl c5<|sr<|s_mov (.bool false) rfl<|dk<|w_ret<|?_;obtain rfl:=os hf;exact r_flat ⟨trivial,trivial⟩ rfl (.refl _)
 ·refine w_condf rfl (bf c5)<|w_skip<|k_seq<|awp_seq<|sr<|s_mov (.int .i64 0) rfl<|dk<|?_
  obtain ⟨p36,hb1,hf⟩:=ob hf
  refine awp_cutx (X:={q:Unit // p36 = .go q}) (fun q => ([],[])) ?_ ?_
  ·refine awp_loop (X:={q:Nat // laws_eqMutS_L1 b_2 (a_1.drop q) q = some p36}) (fun q => ([(0,(.lst 3 (a_1.map encGMut))),(1,(.lst 3 (b_2.map encGMut))),(5,(.int .i64 (q.1:Int)))],[])) (fun q => a_1.length - q.1) ⟨0,hb1⟩ ⟨[],[],_,_,rfl,rfl,⟨.refl _,⟨.refl _,⟨.refl _,trivial⟩⟩⟩,(.refl _)⟩ ?_
   rintro ⟨i_25,hc1⟩
   have hc1:laws_eqMutS_L1 b_2 (a_1.drop i_25) i_25 = some p36:=hc1
   refine (show awp Tryz.prog false 0 _ (ofL [(0,(.lst 3 (a_1.map encGMut))),(1,(.lst 3 (b_2.map encGMut))),(5,(.int .i64 (i_25:Int)))]) [] _ from ?_)
   rcases dropc a_1 i_25 with ⟨hie39,hd42⟩ | ⟨hlt37,x_43,hx38,hd42⟩
   ·rw [hd42,laws_eqMutS_L1.eq_1] at hc1
    have hq41:=dlf hie39
    refine awp_seq<|sr<|s_mov (.int .i64 (i_25:Int)) rfl<|s_mov (.lst 3 (a_1.map encGMut)) rfl<|s_dof (o_len (enc:=encGMut) rfl) fun hl44 => s_q (.bool (decide ((i_25:Int) < (a_1.length:Int)))) rfl rfl rfl<|dk<|w_condf rfl hq41<|w_exit<|k_seqx<|k_loopx<|k_blkx<|?_;obtain rfl:=os hc1;exact k_cutn ⟨_,rfl⟩ ⟨[],[],_,_,rfl,rfl,trivial,(.refl _)⟩
   ·rw [hd42,laws_eqMutS_L1.eq_2] at hc1
    have hq41:=dlt hlt37
    refine awp_seq<|sr<|s_mov (.int .i64 (i_25:Int)) rfl<|s_mov (.lst 3 (a_1.map encGMut)) rfl<|s_dof (o_len (enc:=encGMut) rfl) fun hl45 => s_q (.bool (decide ((i_25:Int) < (a_1.length:Int)))) rfl rfl rfl<|dk<|w_condt rfl hq41<|w_skip<|k_seq<|awp_seq<|w_blk<|sr<|?_
    obtain ⟨x_46,ex47,hc1⟩:=ob hc1
    obtain ⟨r_48,er49,hc1⟩:=ob hc1
    refine s_mov (.lst 3 (a_1.map encGMut)) rfl<|s_mov (.int .i64 (i_25:Int)) rfl<|s_do (o_iaddrn (enc:=encGMut) rfl rfl hx38)<|s_q (encGMut x_43) rfl nle rfl<|s_mov (.lst 3 (b_2.map encGMut)) rfl<|s_mov (.int .i64 (i_25:Int)) rfl<|s_do (o_iaddr (enc:=encGMut) rfl rfl (idx0 ex47) (idx1 ex47))<|s_q (encGMut x_46) rfl nle rfl<|s_dol (o_call (w_laws_eqMut _ _ _ er49) rfl (.refl _) rfl) a_same trivial<|s_q (.bool (!r_48)) rfl trivial rfl<|dk<|?_
    rcases oi hc1 with ⟨c50,hc1⟩ | ⟨c50,hc1⟩
    ·refine w_condt rfl c50<|sr<|s_mov (.bool false) rfl<|dk<|w_ret<|?_;obtain rfl:=os hc1;obtain rfl:=os hf;exact r_flat ⟨trivial,trivial⟩ rfl (.refl _)
    ·refine w_condf rfl (bf c50)<|w_skip<|k_blk<|k_seq<|w_reg<|s_mov (.int .i64 (i_25:Int)) rfl<|s_q (.int .i64 (w64 ((i_25:Int) + 1))) rfl rfl rfl<|s_mov (.int .i64 (w64 ((i_25:Int) + 1))) rfl<|w_done<|?_;exact k_loopn ⟨(i_25 + 1),hc1⟩ (mul hlt37) ⟨[],[],_,_,rfl,rfl,⟨.refl _,⟨.refl _,⟨.of_eq (congrArg (AV.int _) (w64_incr hlt37 hl45)),trivial⟩⟩⟩,(.refl _)⟩
  ·rintro ⟨_,rfl⟩
   refine sr<|s_mov (.bool true) rfl<|dk<|w_ret<|?_;obtain rfl:=os hf;exact r_flat ⟨trivial,trivial⟩ rfl (.refl _)

/- laws.eqOp -/
def c17:ACode :=
 (.seq (.reg (tq 2 (.box 8 (.t 0)) (tq 3 (.box 8 (.t 1)) (tm 4 (.c (.bool false)) .done))))
 (.seq (.seq (.reg (tq 5 (.faddr 0 (.t 2)) (tq 6 (.load 1 false (.t 5)) (tq 7 (.faddr 0 (.t 3)) (tq 8 (.load 1 false (.t 7)) (tq 9 (.bin .neq (.t 6) (.t 8)) .done))))))
 (.cond (.t 9) (.seq (.reg (tm 4 (.c (.bool false)) .done))
 .ret)
 .skip))
 (.seq (.seq (.reg (tq 10 (.faddr 1 (.t 2)) (tq 11 (.load 1 false (.t 10)) (tq 12 (.faddr 1 (.t 3)) (tq 13 (.load 1 false (.t 12)) (tq 14 (.bin .neq (.t 11) (.t 13)) .done))))))
 (.cond (.t 14) (.seq (.reg (tm 4 (.c (.bool false)) .done))
 .ret)
 .skip))
 (.seq (.seq (.reg (tq 15 (.faddr 2 (.t 2)) (tq 16 (.load 1 false (.t 15)) (tq 17 (.faddr 2 (.t 3)) (tq 18 (.load 1 false (.t 17)) (tq 19 (.bin .neq (.t 16) (.t 18)) .done))))))
 (.cond (.t 19) (.seq (.reg (tm 4 (.c (.bool false)) .done))
 .ret)
 .skip))
 (.seq (.seq (.reg (tq 20 (.faddr 3 (.t 2)) (tq 21 (.load 1 false (.t 20)) (tq 22 (.faddr 3 (.t 3)) (tq 23 (.load 1 false (.t 22)) (tq 24 (.call 42 [(.t 21),(.t 23)]) (tq 25 (.not (.t 24)) .done)))))))
 (.cond (.t 25) (.seq (.reg (tm 4 (.c (.bool false)) .done))
 .ret)
 .skip))
 (.seq (.seq (.reg (tq 26 (.faddr 4 (.t 2)) (tq 27 (.load 1 false (.t 26)) (tq 28 (.faddr 4 (.t 3)) (tq 29 (.load 1 false (.t 28)) (tq 30 (.call 43 [(.t 27),(.t 29)]) (tq 31 (.not (.t 30)) .done)))))))
 (.cond (.t 31) (.seq (.reg (tm 4 (.c (.bool false)) .done))
 .ret)
 .skip))
 (.seq (.seq (.reg (tq 32 (.faddr 5 (.t 2)) (tq 33 (.load 1 false (.t 32)) (tq 34 (.faddr 5 (.t 3)) (tq 35 (.load 1 false (.t 34)) (tq 36 (.call 44 [(.t 33),(.t 35)]) (tq 37 (.not (.t 36)) .done)))))))
 (.cond (.t 37) (.seq (.reg (tm 4 (.c (.bool false)) .done))
 .ret)
 .skip))
 (.seq (.seq (.reg (tq 38 (.faddr 6 (.t 2)) (tq 39 (.load 1 false (.t 38)) (tq 40 (.faddr 6 (.t 3)) (tq 41 (.load 1 false (.t 40)) (tq 42 (.call 45 [(.t 39),(.t 41)]) (tq 43 (.not (.t 42)) .done)))))))
 (.cond (.t 43) (.seq (.reg (tm 4 (.c (.bool false)) .done))
 .ret)
 .skip))
 (.seq (.seq (.reg (tq 44 (.faddr 7 (.t 2)) (tq 45 (.load 1 false (.t 44)) (tq 46 (.faddr 7 (.t 3)) (tq 47 (.load 1 false (.t 46)) (tq 48 (.eqB true (.t 45) (.t 47)) .done))))))
 (.cond (.t 48) (.seq (.reg (tm 4 (.c (.bool false)) .done))
 .ret)
 .skip))
 (.seq (.reg (tm 4 (.c (.bool true)) .done))
 .ret))))))))))
theorem fc17:fcomp Tryz.prog Tryz.f17 = some (c17.erase,[.mov (.t 4)],49):=by kernel_rfl
def laws_eqOp (a_1:GOp) (b_2:GOp):Option Bool :=
    if (a_1.Kind != b_2.Kind) then
    some false
    else
    if (!(a_1.Table == b_2.Table)) then
    some false
    else
    if (!(a_1.Name == b_2.Name)) then
    some false
    else
    (laws_eqCondS a_1.Where b_2.Where).bind fun r_6 =>
    if (!r_6) then
    some false
    else
    (laws_eqSetS a_1.Row b_2.Row).bind fun r_9 =>
    if (!r_9) then
    some false
    else
    (laws_eqMutS a_1.Muts b_2.Muts).bind fun r_12 =>
    if (!r_12) then
    some false
    else
    (laws_eqStringS a_1.Columns b_2.Columns).bind fun r_15 =>
    if (!r_15) then
    some false
    else
    if (!(a_1.Until == b_2.Until)) then
    some false
    else
    some true
theorem w_laws_eqOp (a_1:GOp) (b_2:GOp) (r:Bool) (hf:laws_eqOp a_1 b_2 = some r):CallOK Tryz.prog 17 .flat [(encGOp a_1),(encGOp b_2)] (.bool r):=by
 refine CallOK.of_awp mixed Tryz.func17 fc17 nle ?_;rw [argT_eq];unfold laws_eqOp at hf;unfold c17;refine (show awp Tryz.prog false 0 _ (ofL [(0,(encGOp a_1)),(1,(encGOp b_2))]) [] _ from ?_);refine sr<|s_do (o_box (j:=0) (c:=(.agg [(.int .i64 a_1.Kind),(.str a_1.Table),(.str a_1.Name),(.lst 3 (a_1.Where.map encGCond)),(.lst 3 (a_1.Row.map encGSet)),(.lst 3 (a_1.Muts.map encGMut)),(.lst 1 (a_1.Columns.map AV.str)),(.bool a_1.Until)])) rfl trivial rfl rfl)<|s_do (o_box (j:=1) (c:=(.agg [(.int .i64 b_2.Kind),(.str b_2.Table),(.str b_2.Name),(.lst 3 (b_2.Where.map encGCond)),(.lst 3 (b_2.Row.map encGSet)),(.lst 3 (b_2.Muts.map encGMut)),(.lst 1 (b_2.Columns.map AV.str)),(.bool b_2.Until)])) rfl trivial rfl rfl)<|?_
 refine s_mov (.bool false) rfl<|dk<|awp_seq<|sr<|s_q (.ptr 0 0 0) rfl trivial rfl<|s_q (.int .i64 a_1.Kind) rfl nle rfl<|s_q (.ptr 1 0 0) rfl trivial rfl<|s_q (.int .i64 b_2.Kind) rfl nle rfl<|s_q (.bool (a_1.Kind != b_2.Kind)) rfl rfl rfl<|dk<|?_
 rcases oi hf with ⟨c3,hf⟩ | ⟨c3,hf⟩
 ·refine w_condt rfl c3<|sr<|s_mov (.bool false) rfl<|dk<|w_ret<|?_;obtain rfl:=os hf;exact r_flat ⟨trivial,trivial⟩ rfl (.refl _)
 ·refine w_condf rfl (bf c3)<|w_skip<|k_seq<|awp_seq<|sr<|s_q (.ptr 0 0 1) rfl trivial rfl<|s_q (.str a_1.Table) rfl nle rfl<|s_q (.ptr 1 0 1) rfl trivial rfl<|s_q (.str b_2.Table) rfl nle rfl<|s_q (.bool (!(a_1.Table == b_2.Table))) rfl trivial rfl<|dk<|?_
  rcases oi hf with ⟨c4,hf⟩ | ⟨c4,hf⟩
  ·refine w_condt rfl c4<|sr<|s_mov (.bool false) rfl<|dk<|w_ret<|?_;obtain rfl:=os hf;exact r_flat ⟨trivial,trivial⟩ rfl (.refl _)
  ·refine w_condf rfl (bf c4)<|w_skip<|k_seq<|awp_seq<|sr<|s_q (.ptr 0 0 2) rfl trivial rfl<|s_q (.str a_1.Name) rfl nle rfl<|s_q (.ptr 1 0 2) rfl trivial rfl<|s_q (.str b_2.Name) rfl nle rfl<|s_q (.bool (!(a_1.Name == b_2.Name))) rfl trivial rfl<|dk<|?_
   rcases oi hf with ⟨c5,hf⟩ | ⟨c5,hf⟩
   ·refine w_condt rfl c5<|sr<|s_mov (.bool false) rfl<|dk<|w_ret<|?_;obtain rfl:=os hf;exact r_flat ⟨trivial,trivial⟩ rfl (.refl _)
   ·refine w_condf rfl (bf c5)<|w_skip<|k_seq<|awp_seq<|sr<|?_
    obtain ⟨r_6,er7,hf⟩:=ob hf
    refine s_q (.ptr 0 0 3) rfl trivial rfl<|s_q (.lst 3 (a_1.Where.map encGCond)) rfl nle rfl<|s_q (.ptr 1 0 3) rfl trivial rfl<|s_q (.lst 3 (b_2.Where.map encGCond)) rfl nle rfl<|s_do (o_call (w_laws_eqCondS _ _ _ er7) rfl (.refl _) rfl)<|s_q (.bool (!r_6)) rfl trivial rfl<|dk<|?_
    rcases oi hf with ⟨c8,hf⟩ | ⟨c8,hf⟩
    ·refine w_condt rfl c8<|sr<|s_mov (.bool false) rfl<|dk<|w_ret<|?_;obtain rfl:=os hf;exact r_flat ⟨trivial,trivial⟩ rfl (.refl _)
    ·refine w_condf rfl (bf c8)<|w_skip<|k_seq<|awp_seq<|sr<|?_
     obtain ⟨r_9,er10,hf⟩:=ob hf
     refine s_q (.ptr 0 0 4) rfl trivial rfl<|s_q (.lst 3 (a_1.Row.map encGSet)) rfl nle rfl<|s_q (.ptr 1 0 4) rfl trivial rfl<|s_q (.lst 3 (b_2.Row.map encGSet)) rfl nle rfl<|s_do (o_call (w_laws_eqSetS _ _ _ er10) rfl (.refl _) rfl)<|s_q (.bool (!r_9)) rfl trivial rfl<|dk<|?_
     rcases oi hf with ⟨c11,hf⟩ | ⟨c11,hf⟩
     ·refine w_condt rfl c11<|sr<|s_mov (.bool false) rfl<|dk<|w_ret<|?_;obtain rfl:=os hf;exact r_flat ⟨trivial,trivial⟩ rfl (.refl _)
     ·refine w_condf rfl (bf c11)<|w_skip<|k_seq<|awp_seq<|sr<|?_
      obtain ⟨r_12,er13,hf⟩:=ob hf
      refine s_q (.ptr 0 0 5) rfl trivial rfl<|s_q (.lst 3 (a_1.Muts.map encGMut)) rfl nle rfl<|s_q (.ptr 1 0 5) rfl trivial rfl<|s_q (.lst 3 (b_2.Muts.map encGMut)) rfl nle rfl<|s_do (o_call (w_laws_eqMutS _ _ _ er13) rfl (.refl _) rfl)<|s_q (.bool (!r_12)) rfl trivial rfl<|dk<|?_
      rcases oi hf with ⟨c14,hf⟩ | ⟨c14,hf⟩
      ·refine w_condt rfl c14<|sr<|s_mov (.bool false) rfl<|dk<|w_ret<|?_;obtain rfl:=os hf;exact r_flat ⟨trivial,trivial⟩ rfl (.refl _)
      ·refine w_condf rfl (bf c14)<|w_skip<|k_seq<|awp_seq<|sr<|?_
       obtain ⟨r_15,er16,hf⟩:=ob hf
       refine s_q (.ptr 0 0 6) rfl trivial rfl<|s_q (.lst 1 (a_1.Columns.map AV.str)) rfl nle rfl<|s_q (.ptr 1 0 6) rfl trivial rfl<|s_q (.lst 1 (b_2.Columns.map AV.str)) rfl nle rfl<|s_do (o_call (w_laws_eqStringS _ _ _ er16) rfl (.refl _) rfl)<|s_q (.bool (!r_15)) rfl trivial rfl<|dk<|?_
       rcases oi hf with ⟨c17,hf⟩ | ⟨c17,hf⟩
       ·refine w_condt rfl c17<|sr<|s_mov (.bool false) rfl<|dk<|w_ret<|?_;obtain rfl:=os hf;exact r_flat ⟨trivial,trivial⟩ rfl (.refl _)
       ·refine w_condf rfl (bf c17)<|w_skip<|k_seq<|awp_seq<|sr<|s_q (.ptr 0 0 7) rfl trivial rfl<|s_q (.bool a_1.Until) rfl nle rfl<|s_q (.ptr 1 0 7) rfl trivial rfl<|s_q (.bool b_2.Until) rfl nle rfl<|s_q (.bool (!(a_1.Until == b_2.Until))) rfl trivial rfl<|dk<|?_
        rcases oi hf with ⟨c18,hf⟩ | ⟨c18,hf⟩
        ·refine w_condt rfl c18<|sr<|s_mov (.bool false) rfl<|dk<|w_ret<|?_;obtain rfl:=os hf;exact r_flat ⟨trivial,trivial⟩ rfl (.refl _)
        ·refine w_condf rfl (bf c18)<|w_skip<|k_seq<|sr<|s_mov (.bool true) rfl<|dk<|w_ret<|?_;obtain rfl:=os hf;exact r_flat ⟨trivial,trivial⟩ rfl (.refl _)

/- laws.FnExactOpCode -/
def c4:ACode :=
 (.seq (.reg (tq 2 (.box 1 (.t 0)) (tq 3 (.box 8 (.t 1)) (tm 4 (.c (.bool false)) .done))))
 (.seq (.reg (tm 5 (.c (.int .i64 1048576)) .done))
 (.seq (.reg (tq 12 (.load 1 true (.t 2)) (tm 13 (.t 5) (tq 14 (.call 5 [(.t 12),(.t 13)]) (tm 5 (.t 14) .done)))))
 (.seq (.seq (.reg (tm 15 (.t 5) (tq 16 (.bin .lss (.t 15) (.c (.int .i64 0))) .done)))
 (.cond (.t 16) (.seq (.reg (tm 4 (.c (.bool true)) .done))
 .ret)
 .skip))
 (.seq (.reg (tq 17 (.load 8 true (.t 3)) (tm 18 (.t 5) (tq 19 (.call 13 [(.t 17),(.t 18)]) (tm 5 (.t 19) .done)))))
 (.seq (.seq (.reg (tm 20 (.t 5) (tq 21 (.bin .lss (.t 20) (.c (.int .i64 0))) .done)))
 (.cond (.t 21) (.seq (.reg (tm 4 (.c (.bool true)) .done))
 .ret)
 .skip))
 (.seq (.reg (tq 23 (.load 1 true (.t 2)) (tq 25 (.load 8 true (.t 3)) (.l ⟨(some 24),none,.call 8 [(.t 23)]⟩ [⟨(some 25),none,.load 8 true (.t 3)⟩]
 (.l ⟨(some 26),none,.call 15 [(.t 25)]⟩ []
 (.l ⟨(some 27),none,.call 14 [(.t 24),(.t 26)]⟩ []
 (tm 22 (.t 27) (tq 28 (.extract 0 (.t 22)) (tq 29 (.extract 1 (.t 22)) (tm 6 (.t 28) (tm 7 (.t 29) .done))))) .non) .non) .non))))
 (.seq (.reg (tq 30 (.load 1 true (.t 2)) (tq 31 (.call 8 [(.t 30)]) (tq 8 (.box 1 (.c (.agg [.nil]))) (.q ⟨none,none,.store 1 (.t 8) (.t 31)⟩
 .done)))))
 (.seq (.reg (tq 32 (.load 8 true (.t 3)) (tq 33 (.call 15 [(.t 32)]) (tq 9 (.box 8 (.c (.agg [(.int .i64 0),(.str []),(.str []),.nil,.nil,.nil,.nil,(.bool false)]))) (.q ⟨none,none,.store 8 (.t 9) (.t 33)⟩
 .done)))))
 (.seq (.reg (tq 35 (.load 1 true (.t 8)) (tq 36 (.load 8 true (.t 9)) (tq 37 (.call 16 [(.t 35),(.t 36)]) (tm 34 (.t 37) (tq 38 (.extract 0 (.t 34)) (tq 39 (.extract 1 (.t 34)) (tm 10 (.t 38) (tm 11 (.t 39) .done)))))))))
 (.seq (.seq (.reg (tm 40 (.t 10) (tm 41 (.t 6) (tq 42 (.bin .neq (.t 40) (.t 41)) (tm 43 (.t 42) (tg 44 43 false (.mov (.t 11)) (tg 45 43 false (.mov (.t 7)) (tg 46 43 false (.bin .neq (.t 44) (.t 45)) (tq 47 (.pick (.t 43) (.c (.bool true)) (.t 46)) .done)))))))))
 (.cut (.cond (.t 47) (.seq (.reg (tm 4 (.c (.bool false)) .done))
 .ret)
 .skip)))
 (.seq (.seq (.reg (tq 48 (.load 1 true (.t 8)) (tq 49 (.load 1 true (.t 2)) (.l ⟨(some 50),none,.call 8 [(.t 49)]⟩ [⟨(some 48),none,.load 1 true (.t 8)⟩]
 (.l ⟨(some 51),none,.call 11 [(.t 48),(.t 50)]⟩ []
 (tq 52 (.not (.t 51)) .done) .non) .non))))
 (.cond (.t 52) (.seq (.reg (tm 4 (.c (.bool false)) .done))
 .ret)
 .skip))
 (.seq (.seq (.reg (tq 53 (.load 8 true (.t 9)) (tq 54 (.load 8 true (.t 3)) (.l ⟨(some 55),none,.call 15 [(.t 54)]⟩ [⟨(some 53),none,.load 8 true (.t 9)⟩]
 (.l ⟨(some 56),none,.call 17 [(.t 53),(.t 55)]⟩ []
 (tq 57 (.not (.t 56)) .done) .non) .non))))
 (.cond (.t 57) (.seq (.reg (tm 4 (.c (.bool false)) .done))
 .ret)
 .skip))
 (.seq (.reg (tm 4 (.c (.bool true)) .done))
 .ret))))))))))))))
theorem fc4:fcomp Tryz.prog Tryz.f4 = some (c4.erase,[.mov (.t 4)],58):=by kernel_rfl
def laws_FnExactOpCode (aS_1:GSchema) (aO_2:GOp):Option Bool :=
    (laws_szSchema aS_1 1048576).bind fun r_3 =>
    if (decide (r_3 < 0)) then
    some true
    else
    (laws_szOp aO_2 r_3).bind fun r_6 =>
    if (decide (r_6 < 0)) then
    some true
    else
    (laws_toSchema aS_1).bind fun r_9 =>
    (laws_toOp aO_2).bind fun r_11 =>
    (spec_OpCode r_9 r_11).bind fun r_13 =>
    (laws_toSchema aS_1).bind fun r_15 =>
    (laws_toOp aO_2).bind fun r_17 =>
    (impl_OpCode r_15 r_17).bind fun r_19 =>
    ((if (r_19.1 != r_13.1) then
    some true
    else
    some (r_19.2 != r_13.2):Option Bool)).bind fun s47_22 =>
    if s47_22 then
    some false
    else
    (laws_toSchema aS_1).bind fun r_26 =>
    (laws_eqSchema r_15 r_26).bind fun r_28 =>
    if (!r_28) then
    some false
    else
    (laws_toOp aO_2).bind fun r_31 =>
    (laws_eqOp r_17 r_31).bind fun r_33 =>
    if (!r_33) then
    some false
    else
    some true
theorem w_laws_FnExactOpCode (aS_1:GSchema) (aO_2:GOp) (r:Bool) (hf:laws_FnExactOpCode aS_1 aO_2 = some r):CallOK Tryz.prog 4 .flat [(encGSchema aS_1),(encGOp aO_2)] (.bool r):=by
 refine CallOK.of_awp mixed Tryz.func4 fc4 nle ?_;rw [argT_eq];unfold laws_FnExactOpCode at hf;unfold c4;refine (show awp Tryz.prog false 0 _ (ofL [(0,(encGSchema aS_1)),(1,(encGOp aO_2))]) [] _ from ?_);refine sr<|s_do (o_box (j:=0) (c:=(.agg [(.lst 4 (aS_1.Tables.map encGTable))])) rfl trivial rfl rfl)<|s_do (o_box (j:=1) (c:=(.agg [(.int .i64 aO_2.Kind),(.str aO_2.Table),(.str aO_2.Name),(.lst 3 (aO_2.Where.map encGCond)),(.lst 3 (aO_2.Row.map encGSet)),(.lst 3 (aO_2.Muts.map encGMut)),(.lst 1 (aO_2.Columns.map AV.str)),(.bool aO_2.Until)])) rfl trivial rfl rfl)<|s_mov (.bool false) rfl<|dk<|sr<|s_mov (.int .i64 1048576) rfl<|dk<|?_
 refine sr<|?_
 obtain ⟨r_3,er4,hf⟩:=ob hf
 refine s_q (.agg [(.lst 4 (aS_1.Tables.map encGTable))]) rfl nle rfl<|s_mov (.int .i64 1048576) rfl<|s_do (o_call (w_laws_szSchema _ _ _ er4) rfl (.refl _) rfl)<|s_mov (.int .i64 r_3) rfl<|dk<|awp_seq<|sr<|s_mov (.int .i64 r_3) rfl<|s_q (.bool (decide (r_3 < 0))) rfl rfl rfl<|dk<|?_
 rcases oi hf with ⟨c5,hf⟩ | ⟨c5,hf⟩
 ·refine w_condt rfl c5<|sr<|s_mov (.bool true) rfl<|dk<|w_ret<|?_;obtain rfl:=os hf;exact r_flat ⟨trivial,trivial⟩ rfl (.refl _)
 ·refine w_condf rfl (bf c5)<|w_skip<|k_seq<|sr<|?_
  obtain ⟨r_6,er7,hf⟩:=ob hf
  refine s_q (.agg [(.int .i64 aO_2.Kind),(.str aO_2.Table),(.str aO_2.Name),(.lst 3 (aO_2.Where.map encGCond)),(.lst 3 (aO_2.Row.map encGSet)),(.lst 3 (aO_2.Muts.map encGMut)),(.lst 1 (aO_2.Columns.map AV.str)),(.bool aO_2.Until)]) rfl nle rfl<|s_mov (.int .i64 r_3) rfl<|s_do (o_call (w_laws_szOp _ _ _ er7) rfl (.refl _) rfl)<|s_mov (.int .i64 r_6) rfl<|dk<|awp_seq<|sr<|s_mov (.int .i64 r_6) rfl<|s_q (.bool (decide (r_6 < 0))) rfl rfl rfl<|dk<|?_
  rcases oi hf with ⟨c8,hf⟩ | ⟨c8,hf⟩
  ·refine w_condt rfl c8<|sr<|s_mov (.bool true) rfl<|dk<|w_ret<|?_;obtain rfl:=os hf;exact r_flat ⟨trivial,trivial⟩ rfl (.refl _)
  ·refine w_condf rfl (bf c8)<|w_skip<|k_seq<|sr<|?_
   obtain ⟨r_9,er10,hf⟩:=ob hf
   obtain ⟨r_11,er12,hf⟩:=ob hf
   obtain ⟨r_13,er14,hf⟩:=ob hf
   refine s_q (.agg [(.lst 4 (aS_1.Tables.map encGTable))]) rfl nle rfl<|s_q (.agg [(.int .i64 aO_2.Kind),(.str aO_2.Table),(.str aO_2.Name),(.lst 3 (aO_2.Where.map encGCond)),(.lst 3 (aO_2.Row.map encGSet)),(.lst 3 (aO_2.Muts.map encGMut)),(.lst 1 (aO_2.Columns.map AV.str)),(.bool aO_2.Until)]) rfl nle rfl<|s_dol (o_callc (w_laws_toSchema _ _ er10) rfl (.refl _) rfl) a_same trivial<|s_dol (o_callc (w_laws_toOp _ _ er12) rfl (.refl _) rfl) a_same trivial<|s_dol (o_call (w_spec_OpCode _ _ _ er14) rfl (.refl _) rfl) a_same trivial<|s_mov (.tup [(.int .i64 r_13.1),(.int .i64 r_13.2)]) rfl<|s_q (.int .i64 r_13.1) rfl nle rfl<|s_q (.int .i64 r_13.2) rfl nle rfl<|s_mov (.int .i64 r_13.1) rfl<|?_
   refine s_mov (.int .i64 r_13.2) rfl<|dk<|sr<|?_
   obtain ⟨r_15,er16,hf⟩:=ob hf
   refine s_q (.agg [(.lst 4 (aS_1.Tables.map encGTable))]) rfl nle rfl<|s_do (o_callc (w_laws_toSchema _ _ er16) rfl (.refl _) rfl)<|s_do (o_box (j:=2) (c:=(.agg [.nil])) rfl trivial rfl rfl)<|s_do0 (o_storebox (v:=(.agg [(.lst 4 (r_15.Tables.map encGTable))])) (y':=(.agg [(.lst 4 (r_15.Tables.map encGTable))])) rfl rfl rfl trivial ⟨rfl,nle⟩ ⟨⟨rfl,trivial⟩,trivial⟩ rfl)<|dk<|sr<|?_
   obtain ⟨r_17,er18,hf⟩:=ob hf
   refine s_q (.agg [(.int .i64 aO_2.Kind),(.str aO_2.Table),(.str aO_2.Name),(.lst 3 (aO_2.Where.map encGCond)),(.lst 3 (aO_2.Row.map encGSet)),(.lst 3 (aO_2.Muts.map encGMut)),(.lst 1 (aO_2.Columns.map AV.str)),(.bool aO_2.Until)]) rfl nle rfl<|s_do (o_callc (w_laws_toOp _ _ er18) rfl (.refl _) rfl)<|s_do (o_box (j:=3) (c:=(.agg [(.int .i64 0),(.str []),(.str []),.nil,.nil,.nil,.nil,(.bool false)])) rfl trivial rfl rfl)<|s_do0 (o_storebox (v:=(.agg [(.int .i64 r_17.Kind),(.str r_17.Table),(.str r_17.Name),(.lst 3 (r_17.Where.map encGCond)),(.lst 3 (r_17.Row.map encGSet)),(.lst 3 (r_17.Muts.map encGMut)),(.lst 1 (r_17.Columns.map AV.str)),(.bool r_17.Until)])) (y':=(.agg [(.int .i64 r_17.Kind),(.str r_17.Table),(.str r_17.Name),(.lst 3 (r_17.Where.map encGCond)),(.lst 3 (r_17.Row.map encGSet)),(.lst 3 (r_17.Muts.map encGMut)),(.lst 1 (r_17.Columns.map AV.str)),(.bool r_17.Until)])) rfl rfl rfl trivial ⟨rfl,nle⟩ ⟨⟨rfl,trivial⟩,⟨⟨rfl,trivial⟩,⟨⟨rfl,trivial⟩,⟨⟨rfl,trivial⟩,⟨⟨rfl,trivial⟩,⟨⟨rfl,trivial⟩,⟨⟨rfl,trivial⟩,⟨⟨rfl,trivial⟩,trivial⟩⟩⟩⟩⟩⟩⟩⟩ rfl)<|?_
   refine dk<|sr<|?_
   obtain ⟨r_19,er20,hf⟩:=ob hf
   refine s_q (.agg [(.lst 4 (r_15.Tables.map encGTable))]) rfl nle rfl<|s_q (.agg [(.int .i64 r_17.Kind),(.str r_17.Table),(.str r_17.Name),(.lst 3 (r_17.Where.map encGCond)),(.lst 3 (r_17.Row.map encGSet)),(.lst 3 (r_17.Muts.map encGMut)),(.lst 1 (r_17.Columns.map AV.str)),(.bool r_17.Until)]) rfl nle rfl<|s_do (o_call (w_impl_OpCode _ _ _ er20) rfl (.refl _) rfl)<|s_mov (.tup [(.int .i64 r_19.1),(.int .i64 r_19.2)]) rfl<|s_q (.int .i64 r_19.1) rfl nle rfl<|s_q (.int .i64 r_19.2) rfl nle rfl<|s_mov (.int .i64 r_19.1) rfl<|s_mov (.int .i64 r_19.2) rfl<|dk<|awp_seq<|awp_seq<|?_
   obtain ⟨s47_22,hb1,hf⟩:=ob hf
   refine awp_cut ([(2,(.ptr 0 0 0)),(3,(.ptr 1 0 0)),(8,(.ptr 2 0 0)),(9,(.ptr 3 0 0)),(47,(.bool s47_22))],[.box 1 (.agg [(.lst 4 (aS_1.Tables.map encGTable))]),.box 8 (.agg [(.int .i64 aO_2.Kind),(.str aO_2.Table),(.str aO_2.Name),(.lst 3 (aO_2.Where.map encGCond)),(.lst 3 (aO_2.Row.map encGSet)),(.lst 3 (aO_2.Muts.map encGMut)),(.lst 1 (aO_2.Columns.map AV.str)),(.bool aO_2.Until)]),.box 1 (.agg [(.lst 4 (r_15.Tables.map encGTable))]),.box 8 (.agg [(.int .i64 r_17.Kind),(.str r_17.Table),(.str r_17.Name),(.lst 3 (r_17.Where.map encGCond)),(.lst 3 (r_17.Row.map encGSet)),(.lst 3 (r_17.Muts.map encGMut)),(.lst 1 (r_17.Columns.map AV.str)),(.bool r_17.Until)])]) ?_ ?_
   ·refine w_reg ?_
    rcases oi hb1 with ⟨c24,hb1⟩ | ⟨c24,hb1⟩
    ·refine s_mov (.int .i64 r_19.1) rfl<|s_mov (.int .i64 r_13.1) rfl<|s_q (.bool (r_19.1 != r_13.1)) rfl rfl rfl<|s_mov (.bool (r_19.1 != r_13.1)) rfl<|s_lit (s:=43) (b:=true) rfl c24<|s_off rfl rfl<|s_off rfl rfl<|s_off rfl rfl<|s_q (.bool true) rfl trivial rfl<|w_done<|?_;obtain rfl:=os hb1;exact ⟨[],[0,1,2,3],_,_,rfl,rfl,⟨.refl _,⟨.refl _,⟨.refl _,⟨.refl _,⟨.refl _,trivial⟩⟩⟩⟩⟩,(.refl _)⟩
    ·refine s_mov (.int .i64 r_19.1) rfl<|s_mov (.int .i64 r_13.1) rfl<|s_q (.bool (r_19.1 != r_13.1)) rfl rfl rfl<|s_mov (.bool (r_19.1 != r_13.1)) rfl<|s_lit (s:=43) (b:=false) rfl (bf c24)<|s_on rfl<|s_mov (.int .i64 r_19.2) rfl<|s_on rfl<|s_mov (.int .i64 r_13.2) rfl<|s_on rfl<|s_q (.bool (r_19.2 != r_13.2)) rfl rfl rfl<|s_q (.bool (r_19.2 != r_13.2)) rfl trivial rfl<|w_done<|?_;obtain rfl:=os hb1;exact ⟨[],[0,1,2,3],_,_,rfl,rfl,⟨.refl _,⟨.refl _,⟨.refl _,⟨.refl _,⟨.refl _,trivial⟩⟩⟩⟩⟩,(.refl _)⟩
   ·rcases oi hf with ⟨c25,hf⟩ | ⟨c25,hf⟩
    ·refine w_condt rfl c25<|sr<|s_mov (.bool false) rfl<|dk<|w_ret<|?_;obtain rfl:=os hf;exact r_flat ⟨trivial,trivial⟩ rfl (.refl _)
    ·refine w_condf rfl (bf c25)<|w_skip<|k_seq<|awp_seq<|sr<|?_
     obtain ⟨r_26,er27,hf⟩:=ob hf
     obtain ⟨r_28,er29,hf⟩:=ob hf
     refine s_q (.agg [(.lst 4 (r_15.Tables.map encGTable))]) rfl nle rfl<|s_q (.agg [(.lst 4 (aS_1.Tables.map encGTable))]) rfl nle rfl<|s_dol (o_callc (w_laws_toSchema _ _ er27) rfl (.refl _) rfl) a_same trivial<|s_dol (o_call (w_laws_eqSchema _ _ _ er29) rfl (.refl _) rfl) a_same trivial<|s_q (.bool (!r_28)) rfl trivial rfl<|dk<|?_
     rcases oi hf with ⟨c30,hf⟩ | ⟨c30,hf⟩
     ·refine w_condt rfl c30<|sr<|s_mov (.bool false) rfl<|dk<|w_ret<|?_;obtain rfl:=os hf;exact r_flat ⟨trivial,trivial⟩ rfl (.refl _)
     ·refine w_condf rfl (bf c30)<|w_skip<|k_seq<|awp_seq<|sr<|?_
      obtain ⟨r_31,er32,hf⟩:=ob hf
      obtain ⟨r_33,er34,hf⟩:=ob hf
      refine s_q (.agg [(.int .i64 r_17.Kind),(.str r_17.Table),(.str r_17.Name),(.lst 3 (r_17.Where.map encGCond)),(.lst 3 (r_17.Row.map encGSet)),(.lst 3 (r_17.Muts.map encGMut)),(.lst 1 (r_17.Columns.map AV.str)),(.bool r_17.Until)]) rfl nle rfl<|s_q (.agg [(.int .i64 aO_2.Kind),(.str aO_2.Table),(.str aO_2.Name),(.lst 3 (aO_2.Where.map encGCond)),(.lst 3 (aO_2.Row.map encGSet)),(.lst 3 (aO_2.Muts.map encGMut)),(.lst 1 (aO_2.Columns.map AV.str)),(.bool aO_2.Until)]) rfl nle rfl<|s_dol (o_callc (w_laws_toOp _ _ er32) rfl (.refl _) rfl) a_same trivial<|s_dol (o_call (w_laws_eqOp _ _ _ er34) rfl (.refl _) rfl) a_same trivial<|s_q (.bool (!r_33)) rfl trivial rfl<|dk<|?_
      rcases oi hf with ⟨c35,hf⟩ | ⟨c35,hf⟩
      ·refine w_condt rfl c35<|sr<|s_mov (.bool false) rfl<|dk<|w_ret<|?_;obtain rfl:=os hf;exact r_flat ⟨trivial,trivial⟩ rfl (.refl _)
      ·refine w_condf rfl (bf c35)<|w_skip<|k_seq<|sr<|s_mov (.bool true) rfl<|dk<|w_ret<|?_;obtain rfl:=os hf;exact r_flat ⟨trivial,trivial⟩ rfl (.refl _)

end Go.R
