/- Walks. -/
import Derived.Test.YtdlnekmchikddaaJOT
set_option linter.all false
namespace Go.R
open Go Go.Proofs
set_option linter.unusedVariables false
set_option linter.unusedSimpArgs false
set_option maxHeartbeats 8000000
/- laws.at -/
def c8:ACode :=
 (.seq (.reg (tm 6 (.c (.int .i64 0)) .done))
 (.seq (.seq (.reg (tm 7 (.t 2) (tq 8 (.bin .leq (.t 7) (.c (.int .i64 1))) .done)))
 (.cond (.t 8) (.seq (.reg (tm 6 (.c (.int .i64 0)) .done))
 .ret)
 .skip))
 (.seq (.seq (.reg (tm 9 (.t 0) (tq 10 (.len (.t 9)) (tq 11 (.bin .eql (.t 10) (.c (.int .i64 0))) .done))))
 (.cond (.t 11) (.seq (.reg (tm 12 (.t 1) (tq 13 (.bin .mul (.t 12) (.c (.int .i64 7))) (tm 14 (.t 2) (tq 15 (.bin .rem (.t 13) (.t 14)) (tm 6 (.t 15) .done))))))
 .ret)
 .skip))
 (.seq (.reg (tm 16 (.t 0) (tm 17 (.t 1) (tm 18 (.t 0) (tq 19 (.len (.t 18)) (tq 20 (.bin .rem (.t 17) (.t 19)) (tq 21 (.iaddr 1 (.t 16) (.t 20)) (tq 22 (.load 1 false (.t 21)) (tq 23 (.convI .i64 (.t 22)) (tq 24 (.bin .mul (.t 23) (.c (.int .i64 31))) (tm 25 (.t 0) (tm 26 (.t 1) (tq 27 (.bin .add (.t 26) (.c (.int .i64 1))) (tm 28 (.t 0) (tq 29 (.len (.t 28)) (tq 30 (.bin .rem (.t 27) (.t 29)) (tq 31 (.iaddr 1 (.t 25) (.t 30)) (tq 32 (.load 1 false (.t 31)) (tq 33 (.convI .i64 (.t 32)) (tq 34 (.bin .add (.t 24) (.t 33)) (tm 35 (.t 1) (tm 36 (.t 0) (tq 37 (.len (.t 36)) (tq 38 (.bin .quo (.t 35) (.t 37)) (tq 39 (.bin .add (.t 34) (.t 38)) (tm 40 (.t 2) (tq 41 (.bin .rem (.t 39) (.t 40)) (tm 6 (.t 41) .done))))))))))))))))))))))))))))
 .ret))))
theorem fc8:fcomp Try.prog Try.f8 = some (c8.erase,[.mov (.t 6)],42):=by kernel_rfl
def laws_at (more_1:(List Int)) (i_2:Int) (n_3:Int):Option Int :=
    if (decide (n_3 ≤ 1)) then
    some 0
    else
    if ((more_1.length:Int) == 0) then
    if n_3 ≠ 0 then
    some ((w64 (i_2 * 7)).tmod n_3)
    else none
    else
    if (more_1.length:Int) ≠ 0 then
    (idx more_1 (i_2.tmod (more_1.length:Int))).bind fun x_10 =>
    if (more_1.length:Int) ≠ 0 then
    (idx more_1 ((w64 (i_2 + 1)).tmod (more_1.length:Int))).bind fun x_14 =>
    if (more_1.length:Int) ≠ 0 then
    if n_3 ≠ 0 then
    some ((w64 ((w64 ((w64 ((w64 x_10) * 31)) + (w64 x_14))) + (w64 (i_2.tdiv (more_1.length:Int))))).tmod n_3)
    else none
    else none
    else none
    else none
theorem w_laws_at (more_1:(List Int)) (i_2:Int) (n_3:Int) (r:Int) (hf:laws_at more_1 i_2 n_3 = some r):CallOK Try.prog 8 .flat [(.lst 1 (more_1.map enc_u8)),(.int .i64 i_2),(.int .i64 n_3)] (.int .i64 r):=by
 refine CallOK.of_awp mixed Try.func8 fc8 nle ?_;rw [argT_eq];unfold laws_at at hf;unfold c8;refine (show awp Try.prog false 0 _ (ofL [(0,(.lst 1 (more_1.map enc_u8))),(1,(.int .i64 i_2)),(2,(.int .i64 n_3))]) [] _ from ?_);refine sr<|s_mov (.int .i64 0) rfl<|dk<|awp_seq<|sr<|s_mov (.int .i64 n_3) rfl<|s_q (.bool (decide (n_3 ≤ 1))) rfl rfl rfl<|dk<|?_
 rcases oi hf with ⟨c4,hf⟩ | ⟨c4,hf⟩
 ·refine w_condt rfl c4<|sr<|s_mov (.int .i64 0) rfl<|dk<|w_ret<|?_;obtain rfl:=os hf;exact r_flat ⟨trivial,trivial⟩ rfl (.refl _)
 ·refine w_condf rfl (bf c4)<|w_skip<|k_seq<|awp_seq<|sr<|s_mov (.lst 1 (more_1.map enc_u8)) rfl<|s_dof (o_len (enc:=enc_u8) rfl) fun hl5 => s_q (.bool ((more_1.length:Int) == 0)) rfl rfl rfl<|dk<|?_
  rcases oi hf with ⟨c6,hf⟩ | ⟨c6,hf⟩
  ·refine w_condt rfl c6<|sr<|?_
   obtain ⟨g7,hf⟩:=og hf
   refine s_mov (.int .i64 i_2) rfl<|s_q (.int .i64 (w64 (i_2 * 7))) rfl rfl rfl<|s_mov (.int .i64 n_3) rfl<|s_q (.int .i64 ((w64 (i_2 * 7)).tmod n_3)) rfl ⟨rfl,g7⟩ rfl<|s_mov (.int .i64 ((w64 (i_2 * 7)).tmod n_3)) rfl<|dk<|w_ret<|?_;obtain rfl:=os hf;exact r_flat ⟨trivial,trivial⟩ rfl (.refl _)
  ·refine w_condf rfl (bf c6)<|w_skip<|k_seq<|sr<|s_mov (.lst 1 (more_1.map enc_u8)) rfl<|s_mov (.int .i64 i_2) rfl<|s_mov (.lst 1 (more_1.map enc_u8)) rfl<|s_dof (o_len (enc:=enc_u8) rfl) fun hl8 => ?_
   obtain ⟨g9,hf⟩:=og hf
   refine s_q (.int .i64 (i_2.tmod (more_1.length:Int))) rfl ⟨rfl,g9⟩ rfl ?_
   obtain ⟨x_10,ex11,hf⟩:=ob hf
   refine s_do (o_iaddr (enc:=enc_u8) rfl rfl (idx0 ex11) (idx1 ex11))<|s_q (.int .u8 x_10) rfl ⟨rfl,rfl⟩ rfl<|s_q (.int .i64 (w64 x_10)) rfl trivial rfl<|s_q (.int .i64 (w64 ((w64 x_10) * 31))) rfl rfl rfl<|s_mov (.lst 1 (more_1.map enc_u8)) rfl<|s_mov (.int .i64 i_2) rfl<|s_q (.int .i64 (w64 (i_2 + 1))) rfl rfl rfl<|s_mov (.lst 1 (more_1.map enc_u8)) rfl<|s_dof (o_len (enc:=enc_u8) rfl) fun hl12 => ?_
   obtain ⟨g13,hf⟩:=og hf
   refine s_q (.int .i64 ((w64 (i_2 + 1)).tmod (more_1.length:Int))) rfl ⟨rfl,g13⟩ rfl ?_
   obtain ⟨x_14,ex15,hf⟩:=ob hf
   refine s_do (o_iaddr (enc:=enc_u8) rfl rfl (idx0 ex15) (idx1 ex15))<|s_q (.int .u8 x_14) rfl ⟨rfl,rfl⟩ rfl<|s_q (.int .i64 (w64 x_14)) rfl trivial rfl<|s_q (.int .i64 (w64 ((w64 ((w64 x_10) * 31)) + (w64 x_14)))) rfl rfl rfl<|s_mov (.int .i64 i_2) rfl<|s_mov (.lst 1 (more_1.map enc_u8)) rfl<|s_dof (o_len (enc:=enc_u8) rfl) fun hl16 => ?_
   obtain ⟨g17,hf⟩:=og hf
   refine s_q (.int .i64 (w64 (i_2.tdiv (more_1.length:Int)))) rfl ⟨rfl,g17⟩ rfl<|s_q (.int .i64 (w64 ((w64 ((w64 ((w64 x_10) * 31)) + (w64 x_14))) + (w64 (i_2.tdiv (more_1.length:Int)))))) rfl rfl rfl<|s_mov (.int .i64 n_3) rfl<|?_
   obtain ⟨g18,hf⟩:=og hf
   refine s_q (.int .i64 ((w64 ((w64 ((w64 ((w64 x_10) * 31)) + (w64 x_14))) + (w64 (i_2.tdiv (more_1.length:Int))))).tmod n_3)) rfl ⟨rfl,g18⟩ rfl<|s_mov (.int .i64 ((w64 ((w64 ((w64 ((w64 x_10) * 31)) + (w64 x_14))) + (w64 (i_2.tdiv (more_1.length:Int))))).tmod n_3)) rfl<|dk<|w_ret<|?_;obtain rfl:=os hf;exact r_flat ⟨trivial,trivial⟩ rfl (.refl _)

/- spec.l00Source -/
def c27_h0:ACode :=
 (.seq (.reg (tm 2 (.c .undef) .done))
 (.seq (.reg (tm 3 (.t 0) (tm 4 (.t 0) (tq 5 (.len (.t 4)) (tq 6 (.bin .rem (.t 5) (.c (.int .i64 1000))) (tq 7 (.build [.nil,(.int .i64 0),(.int .i64 0)] [(0,1,(.t 3)),(2,1,(.t 6))]) (tq 8 (.box 3 (.t 7)) (tm 2 (.t 8) .done))))))))
 .ret))
theorem fc27_h0:fcomp Try.prog Try.f27 = some (c27_h0.erase,[.mov (.t 2)],9):=by kernel_rfl
def spec_l00Source (code_1:(List Int)):Option GL00Src :=
    some (⟨code_1,0,(code_1.length:Int).tmod 1000⟩:GL00Src)
theorem w_spec_l00Source (code_1:(List Int)) (r:GL00Src) (hf:spec_l00Source code_1 = some r):CallHeap Try.prog true 27 [(.lst 1 (code_1.map enc_u8))] [] (.ptr 0 0 0) [.box 3 (.agg [(.lst 1 (r.Code.map enc_u8)),(.int .i64 r.At),(.int .i64 r.Seed)])]:=by
  refine CallHeap.of_awp mixed Try.func27 fc27_h0 nle ?_
  rw [argT_eq]
  unfold spec_l00Source at hf
  unfold c27_h0
  refine (show awp Try.prog true 0 _ (ofL [(0,(.lst 1 (code_1.map enc_u8)))]) [] _ from ?_)
  refine awp_seq ?_
  refine w_reg ?_
  refine s_do (o_mov .undef rfl) ?_
  refine w_done ?_
  refine k_seq ?_
  refine awp_seq ?_
  refine w_reg ?_
  refine s_do (o_mov (.lst 1 (code_1.map enc_u8)) rfl) ?_
  refine s_do (o_mov (.lst 1 (code_1.map enc_u8)) rfl) ?_
  refine s_dof (o_len (enc:=enc_u8) rfl) fun hl2 => ?_
  refine s_do (o_q (.int .i64 ((code_1.length:Int).tmod 1000)) rfl ⟨rfl,by decide⟩ rfl) ?_
  refine s_do (o_q (.agg [(.lst 1 (code_1.map enc_u8)),(.int .i64 0),(.int .i64 ((code_1.length:Int).tmod 1000))]) rfl ⟨⟨rfl,nle,trivial⟩,⟨⟨rfl,nle,trivial⟩,trivial⟩⟩ rfl) ?_
  refine s_do (o_box (j:=0) (c:=(.agg [(.lst 1 (code_1.map enc_u8)),(.int .i64 0),(.int .i64 ((code_1.length:Int).tmod 1000))])) rfl trivial rfl rfl) ?_
  refine s_do (o_mov (.ptr 0 0 0) rfl) ?_
  refine w_done ?_
  refine k_seq ?_
  refine w_ret ?_
  obtain rfl:=os hf
  exact r_heap [] [0] rfl ⟨trivial,trivial⟩ rfl (.refl _) (.refl _)

/- (*spec.l00Src).byte -/
def c64_h0:ACode :=
 (.seq (.reg (tm 2 (.c (.int .i64 0)) .done))
 (.seq (.reg (tm 3 (.t 0) (tq 4 (.nilck (.t 3)) (tq 5 (.faddr 1 (.t 4)) (tq 6 (.load 1 false (.t 5)) (tq 7 (.bin .add (.t 6) (.c (.int .i64 1))) (tq 8 (.nilck (.t 3)) (tq 9 (.faddr 1 (.t 8)) (.q ⟨none,none,.store 1 (.t 9) (.t 7)⟩
 .done)))))))))
 (.seq (.seq (.reg (tm 10 (.t 0) (tq 11 (.nilck (.t 10)) (tq 12 (.faddr 1 (.t 11)) (tq 13 (.load 1 false (.t 12)) (tm 14 (.t 0) (tq 15 (.nilck (.t 14)) (tq 16 (.faddr 0 (.t 15)) (tq 17 (.load 1 false (.t 16)) (tq 18 (.len (.t 17)) (tq 19 (.bin .leq (.t 13) (.t 18)) .done)))))))))))
 (.cond (.t 19) (.seq (.reg (tm 20 (.t 0) (tm 21 (.t 0) (tq 22 (.nilck (.t 21)) (tq 23 (.faddr 2 (.t 22)) (tq 24 (.load 1 false (.t 23)) (tq 25 (.bin .mul (.t 24) (.c (.int .i64 31))) (tm 26 (.t 0) (tq 27 (.nilck (.t 26)) (tq 28 (.faddr 0 (.t 27)) (tq 29 (.load 1 false (.t 28)) (tm 30 (.t 0) (tq 31 (.nilck (.t 30)) (tq 32 (.faddr 1 (.t 31)) (tq 33 (.load 1 false (.t 32)) (tq 34 (.bin .sub (.t 33) (.c (.int .i64 1))) (tq 35 (.iaddr 1 (.t 29) (.t 34)) (tq 36 (.load 1 false (.t 35)) (tq 37 (.convI .i64 (.t 36)) (tq 38 (.bin .add (.t 25) (.t 37)) (tq 39 (.bin .add (.t 38) (.c (.int .i64 7))) (tq 40 (.bin .rem (.t 39) (.c (.int .i64 2147483648))) (tq 41 (.nilck (.t 20)) (tq 42 (.faddr 2 (.t 41)) (.l ⟨none,none,.store 1 (.t 42) (.t 40)⟩ []
 .done .non)))))))))))))))))))))))))
 (.seq (.reg (tm 43 (.t 0) (tq 44 (.nilck (.t 43)) (tq 45 (.faddr 0 (.t 44)) (tq 46 (.load 1 false (.t 45)) (tm 47 (.t 0) (tq 48 (.nilck (.t 47)) (tq 49 (.faddr 1 (.t 48)) (tq 50 (.load 1 false (.t 49)) (tq 51 (.bin .sub (.t 50) (.c (.int .i64 1))) (tq 52 (.iaddr 1 (.t 46) (.t 51)) (tq 53 (.load 1 false (.t 52)) (tq 54 (.convI .i64 (.t 53)) (tm 2 (.t 54) .done))))))))))))))
 .ret))
 .skip))
 (.seq (.seq (.reg (tm 55 (.t 0) (tq 56 (.nilck (.t 55)) (tq 57 (.faddr 1 (.t 56)) (tq 58 (.load 1 false (.t 57)) (tq 59 (.bin .gtr (.t 58) (.c (.int .i64 3000))) .done))))))
 (.cond (.t 59) (.seq (.reg (tm 2 (.c (.int .i64 0)) .done))
 .ret)
 .skip))
 (.seq (.reg (tm 60 (.t 0) (tm 61 (.t 0) (tq 62 (.nilck (.t 61)) (tq 63 (.faddr 2 (.t 62)) (tq 64 (.load 1 false (.t 63)) (tq 65 (.bin .mul (.t 64) (.c (.int .i64 1103515245))) (tq 66 (.bin .add (.t 65) (.c (.int .i64 12345))) (tq 67 (.bin .rem (.t 66) (.c (.int .i64 2147483648))) (tq 68 (.nilck (.t 60)) (tq 69 (.faddr 2 (.t 68)) (.q ⟨none,none,.store 1 (.t 69) (.t 67)⟩
 .done))))))))))))
 (.seq (.reg (tm 70 (.t 0) (tq 71 (.nilck (.t 70)) (tq 72 (.faddr 2 (.t 71)) (tq 73 (.load 1 false (.t 72)) (tq 74 (.bin .quo (.t 73) (.c (.int .i64 65536))) (tq 75 (.bin .rem (.t 74) (.c (.int .i64 256))) (tm 2 (.t 75) .done))))))))
 .ret))))))
theorem fc64_h0:fcomp Try.prog Try.f64 = some (c64_h0.erase,[.mov (.t 2)],76):=by kernel_rfl
def spec_l00Src_byte (s_1:GL00Src):Option (Int × GL00Src) :=
    if (decide (w64 (s_1.At + 1) ≤ (s_1.Code.length:Int))) then
    (idx s_1.Code (w64 ((w64 (s_1.At + 1)) - 1))).bind fun x_4 =>
    (idx s_1.Code (w64 ((w64 (s_1.At + 1)) - 1))).bind fun x_6 =>
    some (w64 x_6,(⟨s_1.Code,w64 (s_1.At + 1),(w64 ((w64 ((w64 (s_1.Seed * 31)) + (w64 x_4))) + 7)).tmod 2147483648⟩:GL00Src))
    else
    if (decide (w64 (s_1.At + 1) > 3000)) then
    some (0,(⟨s_1.Code,w64 (s_1.At + 1),s_1.Seed⟩:GL00Src))
    else
    some ((w64 (((w64 ((w64 (s_1.Seed * 1103515245)) + 12345)).tmod 2147483648).tdiv 65536)).tmod 256,(⟨s_1.Code,w64 (s_1.At + 1),(w64 ((w64 (s_1.Seed * 1103515245)) + 12345)).tmod 2147483648⟩:GL00Src))
theorem w_spec_l00Src_byte (s_1:GL00Src) (r:(Int × GL00Src)) (hf:spec_l00Src_byte s_1 = some r):CallHeap Try.prog true 64 [(.ptr 0 0 0)] [.box 3 (.agg [(.lst 1 (s_1.Code.map enc_u8)),(.int .i64 s_1.At),(.int .i64 s_1.Seed)])] (.int .i64 r.1) [.box 3 (.agg [(.lst 1 (r.2.Code.map enc_u8)),(.int .i64 r.2.At),(.int .i64 r.2.Seed)])]:=by
 refine CallHeap.of_awp mixed Try.func64 fc64_h0 nle ?_;rw [argT_eq];unfold spec_l00Src_byte at hf;unfold c64_h0;refine (show awp Try.prog true 1 _ (ofL [(0,(.ptr 0 0 0))]) [.box 3 (.agg [(.lst 1 (s_1.Code.map enc_u8)),(.int .i64 s_1.At),(.int .i64 s_1.Seed)])] _ from ?_);refine sr<|s_mov (.int .i64 0) rfl<|dk<|sr<|s_mov (.ptr 0 0 0) rfl<|s_q (.ptr 0 0 0) rfl trivial rfl<|s_q (.ptr 0 0 1) rfl trivial rfl<|s_q (.int .i64 s_1.At) rfl nle rfl<|s_q (.int .i64 (w64 (s_1.At + 1))) rfl rfl rfl<|s_q (.ptr 0 0 0) rfl trivial rfl<|s_q (.ptr 0 0 1) rfl trivial rfl<|s_do0 (o_storebox (v:=(.int .i64 (w64 (s_1.At + 1)))) (y':=(.agg [(.lst 1 (s_1.Code.map enc_u8)),(.int .i64 (w64 (s_1.At + 1))),(.int .i64 s_1.Seed)])) rfl rfl rfl trivial ⟨rfl,nle⟩ ⟨⟨rfl,trivial⟩,trivial⟩ rfl)<|?_
 refine dk<|awp_seq<|sr<|s_mov (.ptr 0 0 0) rfl<|s_q (.ptr 0 0 0) rfl trivial rfl<|s_q (.ptr 0 0 1) rfl trivial rfl<|s_q (.int .i64 (w64 (s_1.At + 1))) rfl nle rfl<|s_mov (.ptr 0 0 0) rfl<|s_q (.ptr 0 0 0) rfl trivial rfl<|s_q (.ptr 0 0 0) rfl trivial rfl<|s_q (.lst 1 (s_1.Code.map enc_u8)) rfl nle rfl<|s_dof (o_len (enc:=enc_u8) rfl) fun hl2 => s_q (.bool (decide (w64 (s_1.At + 1) ≤ (s_1.Code.length:Int)))) rfl rfl rfl<|dk<|?_
 rcases oi hf with ⟨c3,hf⟩ | ⟨c3,hf⟩
 ·refine w_condt rfl c3<|sr<|s_mov (.ptr 0 0 0) rfl<|s_mov (.ptr 0 0 0) rfl<|s_q (.ptr 0 0 0) rfl trivial rfl<|s_q (.ptr 0 0 2) rfl trivial rfl<|s_q (.int .i64 s_1.Seed) rfl nle rfl<|s_q (.int .i64 (w64 (s_1.Seed * 31))) rfl rfl rfl<|s_mov (.ptr 0 0 0) rfl<|s_q (.ptr 0 0 0) rfl trivial rfl<|s_q (.ptr 0 0 0) rfl trivial rfl<|s_q (.lst 1 (s_1.Code.map enc_u8)) rfl nle rfl<|s_mov (.ptr 0 0 0) rfl<|s_q (.ptr 0 0 0) rfl trivial rfl<|s_q (.ptr 0 0 1) rfl trivial rfl<|s_q (.int .i64 (w64 (s_1.At + 1))) rfl nle rfl<|s_q (.int .i64 (w64 ((w64 (s_1.At + 1)) - 1))) rfl rfl rfl<|?_
  obtain ⟨x_4,ex5,hf⟩:=ob hf
  refine s_do (o_iaddr (enc:=enc_u8) rfl rfl (idx0 ex5) (idx1 ex5))<|s_q (.int .u8 x_4) rfl ⟨rfl,rfl⟩ rfl<|s_q (.int .i64 (w64 x_4)) rfl trivial rfl<|s_q (.int .i64 (w64 ((w64 (s_1.Seed * 31)) + (w64 x_4)))) rfl rfl rfl<|s_q (.int .i64 (w64 ((w64 ((w64 (s_1.Seed * 31)) + (w64 x_4))) + 7))) rfl rfl rfl<|s_q (.int .i64 ((w64 ((w64 ((w64 (s_1.Seed * 31)) + (w64 x_4))) + 7)).tmod 2147483648)) rfl ⟨rfl,by decide⟩ rfl<|s_q (.ptr 0 0 0) rfl trivial rfl<|s_q (.ptr 0 0 2) rfl trivial rfl<|s_dol0 (o_storebox (v:=(.int .i64 ((w64 ((w64 ((w64 (s_1.Seed * 31)) + (w64 x_4))) + 7)).tmod 2147483648))) (y':=(.agg [(.lst 1 (s_1.Code.map enc_u8)),(.int .i64 (w64 (s_1.At + 1))),(.int .i64 ((w64 ((w64 ((w64 (s_1.Seed * 31)) + (w64 x_4))) + 7)).tmod 2147483648))])) rfl rfl rfl trivial ⟨rfl,nle⟩ ⟨⟨rfl,trivial⟩,trivial⟩ rfl) trivial trivial<|?_
  refine dk<|sr<|s_mov (.ptr 0 0 0) rfl<|s_q (.ptr 0 0 0) rfl trivial rfl<|s_q (.ptr 0 0 0) rfl trivial rfl<|s_q (.lst 1 (s_1.Code.map enc_u8)) rfl nle rfl<|s_mov (.ptr 0 0 0) rfl<|s_q (.ptr 0 0 0) rfl trivial rfl<|s_q (.ptr 0 0 1) rfl trivial rfl<|s_q (.int .i64 (w64 (s_1.At + 1))) rfl nle rfl<|s_q (.int .i64 (w64 ((w64 (s_1.At + 1)) - 1))) rfl rfl rfl<|?_
  obtain ⟨x_6,ex7,hf⟩:=ob hf
  refine s_do (o_iaddr (enc:=enc_u8) rfl rfl (idx0 ex7) (idx1 ex7))<|s_q (.int .u8 x_6) rfl ⟨rfl,rfl⟩ rfl<|s_q (.int .i64 (w64 x_6)) rfl trivial rfl<|s_mov (.int .i64 (w64 x_6)) rfl<|dk<|w_ret<|?_;obtain rfl:=os hf;exact r_heap [] [0] rfl ⟨trivial,trivial⟩ rfl (.refl _) (.refl _)
 ·refine w_condf rfl (bf c3)<|w_skip<|k_seq<|awp_seq<|sr<|s_mov (.ptr 0 0 0) rfl<|s_q (.ptr 0 0 0) rfl trivial rfl<|s_q (.ptr 0 0 1) rfl trivial rfl<|s_q (.int .i64 (w64 (s_1.At + 1))) rfl nle rfl<|s_q (.bool (decide (w64 (s_1.At + 1) > 3000))) rfl rfl rfl<|dk<|?_
  rcases oi hf with ⟨c8,hf⟩ | ⟨c8,hf⟩
  ·refine w_condt rfl c8<|sr<|s_mov (.int .i64 0) rfl<|dk<|w_ret<|?_;obtain rfl:=os hf;exact r_heap [] [0] rfl ⟨trivial,trivial⟩ rfl (.refl _) (.refl _)
  ·refine w_condf rfl (bf c8)<|w_skip<|k_seq<|sr<|s_mov (.ptr 0 0 0) rfl<|s_mov (.ptr 0 0 0) rfl<|s_q (.ptr 0 0 0) rfl trivial rfl<|s_q (.ptr 0 0 2) rfl trivial rfl<|s_q (.int .i64 s_1.Seed) rfl nle rfl<|s_q (.int .i64 (w64 (s_1.Seed * 1103515245))) rfl rfl rfl<|s_q (.int .i64 (w64 ((w64 (s_1.Seed * 1103515245)) + 12345))) rfl rfl rfl<|s_q (.int .i64 ((w64 ((w64 (s_1.Seed * 1103515245)) + 12345)).tmod 2147483648)) rfl ⟨rfl,by decide⟩ rfl<|s_q (.ptr 0 0 0) rfl trivial rfl<|s_q (.ptr 0 0 2) rfl trivial rfl<|s_do0 (o_storebox (v:=(.int .i64 ((w64 ((w64 (s_1.Seed * 1103515245)) + 12345)).tmod 2147483648))) (y':=(.agg [(.lst 1 (s_1.Code.map enc_u8)),(.int .i64 (w64 (s_1.At + 1))),(.int .i64 ((w64 ((w64 (s_1.Seed * 1103515245)) + 12345)).tmod 2147483648))])) rfl rfl rfl trivial ⟨rfl,nle⟩ ⟨⟨rfl,trivial⟩,trivial⟩ rfl)<|?_
   refine dk<|sr<|s_mov (.ptr 0 0 0) rfl<|s_q (.ptr 0 0 0) rfl trivial rfl<|s_q (.ptr 0 0 2) rfl trivial rfl<|s_q (.int .i64 ((w64 ((w64 (s_1.Seed * 1103515245)) + 12345)).tmod 2147483648)) rfl nle rfl<|s_q (.int .i64 (w64 (((w64 ((w64 (s_1.Seed * 1103515245)) + 12345)).tmod 2147483648).tdiv 65536))) rfl ⟨rfl,by decide⟩ rfl<|s_q (.int .i64 ((w64 (((w64 ((w64 (s_1.Seed * 1103515245)) + 12345)).tmod 2147483648).tdiv 65536)).tmod 256)) rfl ⟨rfl,by decide⟩ rfl<|s_mov (.int .i64 ((w64 (((w64 ((w64 (s_1.Seed * 1103515245)) + 12345)).tmod 2147483648).tdiv 65536)).tmod 256)) rfl<|dk<|w_ret<|?_;obtain rfl:=os hf;exact r_heap [] [0] rfl ⟨trivial,trivial⟩ rfl (.refl _) (.refl _)

/- (*spec.l00Src).next -/
def c28_h0:ACode :=
 (.seq (.reg (tm 4 (.c (.int .i64 0)) .done))
 (.seq (.seq (.reg (tm 8 (.t 1) (tq 9 (.bin .leq (.t 8) (.c (.int .i64 1))) .done)))
 (.cond (.t 9) (.seq (.reg (tm 4 (.c (.int .i64 0)) .done))
 .ret)
 .skip))
 (.seq (.seq (.reg (tm 10 (.t 1) (tq 11 (.bin .leq (.t 10) (.c (.int .i64 256))) .done)))
 (.cond (.t 11) (.seq (.reg (tm 12 (.t 0) (tq 13 (.call 64 [(.t 12)]) (tm 14 (.t 1) (tq 15 (.bin .rem (.t 13) (.t 14)) (tm 4 (.t 15) .done))))))
 .ret)
 .skip))
 (.seq (.reg (tm 16 (.t 0) (tq 17 (.call 64 [(.t 16)]) (tm 5 (.t 17) .done))))
 (.seq (.reg (tm 18 (.t 0) (tq 19 (.call 64 [(.t 18)]) (tm 6 (.t 19) .done))))
 (.seq (.reg (tm 20 (.t 0) (tq 21 (.call 64 [(.t 20)]) (tm 7 (.t 21) .done))))
 (.seq (.reg (tm 22 (.t 5) (tq 23 (.bin .mul (.t 22) (.c (.int .i64 65536))) (tm 24 (.t 6) (tq 25 (.bin .mul (.t 24) (.c (.int .i64 256))) (tq 26 (.bin .add (.t 23) (.t 25)) (tm 27 (.t 7) (tq 28 (.bin .add (.t 26) (.t 27)) (tm 29 (.t 1) (tq 30 (.bin .rem (.t 28) (.t 29)) (tm 4 (.t 30) .done)))))))))))
 .ret)))))))
theorem fc28_h0:fcomp Try.prog Try.f28 = some (c28_h0.erase,[.mov (.t 4)],31):=by kernel_rfl
def spec_l00Src_next (n_1:Int) (s_2:GL00Src):Option (Int × GL00Src) :=
    if (decide (n_1 ≤ 1)) then
    some (0,s_2)
    else
    if (decide (n_1 ≤ 256)) then
    (spec_l00Src_byte s_2).bind fun r_5 =>
    if n_1 ≠ 0 then
    some (r_5.1.tmod n_1,r_5.2)
    else none
    else
    (spec_l00Src_byte s_2).bind fun r_8 =>
    (spec_l00Src_byte r_8.2).bind fun r_10 =>
    (spec_l00Src_byte r_10.2).bind fun r_12 =>
    if n_1 ≠ 0 then
    some ((w64 ((w64 ((w64 (r_8.1 * 65536)) + (w64 (r_10.1 * 256)))) + r_12.1)).tmod n_1,r_12.2)
    else none
theorem w_spec_l00Src_next (n_1:Int) (s_2:GL00Src) (r:(Int × GL00Src)) (hf:spec_l00Src_next n_1 s_2 = some r):CallHeap Try.prog true 28 [(.ptr 0 0 0),(.int .i64 n_1)] [.box 3 (.agg [(.lst 1 (s_2.Code.map enc_u8)),(.int .i64 s_2.At),(.int .i64 s_2.Seed)])] (.int .i64 r.1) [.box 3 (.agg [(.lst 1 (r.2.Code.map enc_u8)),(.int .i64 r.2.At),(.int .i64 r.2.Seed)])]:=by
 refine CallHeap.of_awp mixed Try.func28 fc28_h0 nle ?_;rw [argT_eq];unfold spec_l00Src_next at hf;unfold c28_h0;refine (show awp Try.prog true 1 _ (ofL [(0,(.ptr 0 0 0)),(1,(.int .i64 n_1))]) [.box 3 (.agg [(.lst 1 (s_2.Code.map enc_u8)),(.int .i64 s_2.At),(.int .i64 s_2.Seed)])] _ from ?_);refine sr<|s_mov (.int .i64 0) rfl<|dk<|awp_seq<|sr<|s_mov (.int .i64 n_1) rfl<|s_q (.bool (decide (n_1 ≤ 1))) rfl rfl rfl<|dk<|?_
 rcases oi hf with ⟨c3,hf⟩ | ⟨c3,hf⟩
 ·refine w_condt rfl c3<|sr<|s_mov (.int .i64 0) rfl<|dk<|w_ret<|?_;obtain rfl:=os hf;exact r_heap [] [0] rfl ⟨trivial,trivial⟩ rfl (.refl _) (.refl _)
 ·refine w_condf rfl (bf c3)<|w_skip<|k_seq<|awp_seq<|sr<|s_mov (.int .i64 n_1) rfl<|s_q (.bool (decide (n_1 ≤ 256))) rfl rfl rfl<|dk<|?_
  rcases oi hf with ⟨c4,hf⟩ | ⟨c4,hf⟩
  ·refine w_condt rfl c4<|sr<|?_
   obtain ⟨r_5,er6,hf⟩:=ob hf
   obtain ⟨g7,hf⟩:=og hf
   refine s_mov (.ptr 0 0 0) rfl ?_;refine s_do (o_callh (v:=(.int .i64 r_5.1)) (h2:=[.box 3 (.agg [(.lst 1 (r_5.2.Code.map enc_u8)),(.int .i64 r_5.2.At),(.int .i64 r_5.2.Seed)])]) [] [0] (fun _ => rfl) (w_spec_l00Src_byte _ _ er6) rfl (.refl _) (.refl _) rfl rfl) ?_;refine s_mov (.int .i64 n_1) rfl<|s_q (.int .i64 (r_5.1.tmod n_1)) rfl ⟨rfl,g7⟩ rfl<|s_mov (.int .i64 (r_5.1.tmod n_1)) rfl<|dk<|w_ret<|?_;obtain rfl:=os hf;exact r_heap [] [0] rfl ⟨trivial,trivial⟩ rfl (.refl _) (.refl _)
  ·refine w_condf rfl (bf c4)<|w_skip<|k_seq<|sr<|?_
   obtain ⟨r_8,er9,hf⟩:=ob hf
   refine s_mov (.ptr 0 0 0) rfl ?_;refine s_do (o_callh (v:=(.int .i64 r_8.1)) (h2:=[.box 3 (.agg [(.lst 1 (r_8.2.Code.map enc_u8)),(.int .i64 r_8.2.At),(.int .i64 r_8.2.Seed)])]) [] [0] (fun _ => rfl) (w_spec_l00Src_byte _ _ er9) rfl (.refl _) (.refl _) rfl rfl) ?_;refine s_mov (.int .i64 r_8.1) rfl<|dk<|sr<|?_
   obtain ⟨r_10,er11,hf⟩:=ob hf
   refine s_mov (.ptr 0 0 0) rfl ?_;refine s_do (o_callh (v:=(.int .i64 r_10.1)) (h2:=[.box 3 (.agg [(.lst 1 (r_10.2.Code.map enc_u8)),(.int .i64 r_10.2.At),(.int .i64 r_10.2.Seed)])]) [] [0] (fun _ => rfl) (w_spec_l00Src_byte _ _ er11) rfl (.refl _) (.refl _) rfl rfl) ?_;refine s_mov (.int .i64 r_10.1) rfl<|dk<|sr<|?_
   obtain ⟨r_12,er13,hf⟩:=ob hf
   refine s_mov (.ptr 0 0 0) rfl ?_;refine s_do (o_callh (v:=(.int .i64 r_12.1)) (h2:=[.box 3 (.agg [(.lst 1 (r_12.2.Code.map enc_u8)),(.int .i64 r_12.2.At),(.int .i64 r_12.2.Seed)])]) [] [0] (fun _ => rfl) (w_spec_l00Src_byte _ _ er13) rfl (.refl _) (.refl _) rfl rfl) ?_;refine s_mov (.int .i64 r_12.1) rfl<|dk<|sr<|?_
   obtain ⟨g14,hf⟩:=og hf
   refine s_mov (.int .i64 r_8.1) rfl<|s_q (.int .i64 (w64 (r_8.1 * 65536))) rfl rfl rfl<|s_mov (.int .i64 r_10.1) rfl<|s_q (.int .i64 (w64 (r_10.1 * 256))) rfl rfl rfl<|s_q (.int .i64 (w64 ((w64 (r_8.1 * 65536)) + (w64 (r_10.1 * 256))))) rfl rfl rfl<|s_mov (.int .i64 r_12.1) rfl<|s_q (.int .i64 (w64 ((w64 ((w64 (r_8.1 * 65536)) + (w64 (r_10.1 * 256)))) + r_12.1))) rfl rfl rfl<|s_mov (.int .i64 n_1) rfl<|s_q (.int .i64 ((w64 ((w64 ((w64 (r_8.1 * 65536)) + (w64 (r_10.1 * 256)))) + r_12.1)).tmod n_1)) rfl ⟨rfl,g14⟩ rfl<|s_mov (.int .i64 ((w64 ((w64 ((w64 (r_8.1 * 65536)) + (w64 (r_10.1 * 256)))) + r_12.1)).tmod n_1)) rfl<|dk<|w_ret<|?_;obtain rfl:=os hf;exact r_heap [] [0] rfl ⟨trivial,trivial⟩ rfl (.refl _) (.refl _)

/- (*spec.l00Src).pick -/
def c65_h0:ACode :=
 (.seq (.reg (tm 4 (.c (.str [])) .done))
 (.seq (.seq (.reg (tm 5 (.t 1) (tq 6 (.len (.t 5)) (tq 7 (.bin .eql (.t 6) (.c (.int .i64 0))) .done))))
 (.cond (.t 7) (.seq (.reg (tm 4 (.c (.str [])) .done))
 .ret)
 .skip))
 (.seq (.reg (tm 8 (.t 1) (tm 9 (.t 0) (tm 10 (.t 1) (tq 11 (.len (.t 10)) (tq 12 (.call 28 [(.t 9),(.t 11)]) (tq 13 (.iaddr 1 (.t 8) (.t 12)) (tq 14 (.load 1 false (.t 13)) (tm 4 (.t 14) .done)))))))))
 .ret)))
theorem fc65_h0:fcomp Try.prog Try.f65 = some (c65_h0.erase,[.mov (.t 4)],15):=by kernel_rfl
def spec_l00Src_pick (list_1:(List Str)) (s_2:GL00Src):Option (Str × GL00Src) :=
    if ((list_1.length:Int) == 0) then
    some ([],s_2)
    else
    (spec_l00Src_next (list_1.length:Int) s_2).bind fun r_6 =>
    (idx list_1 r_6.1).bind fun x_8 =>
    some (x_8,r_6.2)
theorem w_spec_l00Src_pick (list_1:(List Str)) (s_2:GL00Src) (r:(Str × GL00Src)) (hf:spec_l00Src_pick list_1 s_2 = some r):CallHeap Try.prog true 65 [(.ptr 0 0 0),(.lst 1 (list_1.map AV.str))] [.box 3 (.agg [(.lst 1 (s_2.Code.map enc_u8)),(.int .i64 s_2.At),(.int .i64 s_2.Seed)])] (.str r.1) [.box 3 (.agg [(.lst 1 (r.2.Code.map enc_u8)),(.int .i64 r.2.At),(.int .i64 r.2.Seed)])]:=by
 refine CallHeap.of_awp mixed Try.func65 fc65_h0 nle ?_;rw [argT_eq];unfold spec_l00Src_pick at hf;unfold c65_h0;refine (show awp Try.prog true 1 _ (ofL [(0,(.ptr 0 0 0)),(1,(.lst 1 (list_1.map AV.str)))]) [.box 3 (.agg [(.lst 1 (s_2.Code.map enc_u8)),(.int .i64 s_2.At),(.int .i64 s_2.Seed)])] _ from ?_);refine sr<|s_mov (.str []) rfl<|dk<|awp_seq<|sr<|s_mov (.lst 1 (list_1.map AV.str)) rfl<|s_dof (o_len (enc:=AV.str) rfl) fun hl3 => s_q (.bool ((list_1.length:Int) == 0)) rfl rfl rfl<|dk<|?_
 rcases oi hf with ⟨c4,hf⟩ | ⟨c4,hf⟩
 ·refine w_condt rfl c4<|sr<|s_mov (.str []) rfl<|dk<|w_ret<|?_;obtain rfl:=os hf;exact r_heap [] [0] rfl ⟨trivial,trivial⟩ rfl (.refl _) (.refl _)
 ·refine w_condf rfl (bf c4)<|w_skip<|k_seq<|sr<|?_
  obtain ⟨r_6,er7,hf⟩:=ob hf
  obtain ⟨x_8,ex9,hf⟩:=ob hf
  refine s_mov (.lst 1 (list_1.map AV.str)) rfl<|s_mov (.ptr 0 0 0) rfl<|s_mov (.lst 1 (list_1.map AV.str)) rfl<|s_dof (o_len (enc:=AV.str) rfl) fun hl5 => ?_;refine s_do (o_callh (v:=(.int .i64 r_6.1)) (h2:=[.box 3 (.agg [(.lst 1 (r_6.2.Code.map enc_u8)),(.int .i64 r_6.2.At),(.int .i64 r_6.2.Seed)])]) [] [0] (fun _ => rfl) (w_spec_l00Src_next _ _ _ er7) rfl (.refl _) (.refl _) rfl rfl) ?_;refine s_do (o_iaddr (enc:=AV.str) rfl rfl (idx0 ex9) (idx1 ex9))<|s_q (.str x_8) rfl ⟨rfl,rfl⟩ rfl<|s_mov (.str x_8) rfl<|dk<|w_ret<|?_;obtain rfl:=os hf;exact r_heap [] [0] rfl ⟨trivial,trivial⟩ rfl (.refl _) (.refl _)

/- (*spec.l00Src).atom -/
def c29_h0:ACode :=
 (.seq (.reg (tq 4 (.box 3 (.c (.agg [(.int .i64 0),(.int .i64 0),(.str [])]))) .done))
 (.seq (.seq (.reg (tm 5 (.t 1) .done))
 (.block 0 (.seq (.reg (tq 7 (.bin .eql (.t 5) (.c (.int .i64 1))) (tm 6 (.t 7) .done)))
 (.cond (.t 6) (.seq (.reg (tm 8 (.t 1) (tm 9 (.t 0) (tq 10 (.call 28 [(.t 9),(.c (.int .i64 12))]) (tq 11 (.bin .sub (.t 10) (.c (.int .i64 4))) (tq 12 (.build [(.int .i64 0),(.int .i64 0),(.str [])] [(0,1,(.t 8)),(1,1,(.t 11))]) (.q ⟨none,none,.store 3 (.t 4) (.t 12)⟩
 .done)))))))
 .ret)
 (.seq (.reg (tq 14 (.bin .eql (.t 5) (.c (.int .i64 2))) (tm 13 (.t 14) .done)))
 (.cond (.t 13) (.seq (.reg (tm 15 (.t 1) (tm 16 (.t 0) (tq 17 (.bslice 1 [(.c (.str [])),(.c (.str [97])),(.c (.str [98])),(.c (.str [99])),(.c (.str [110,101,116]))]) (tq 18 (.call 65 [(.t 16),(.t 17)]) (tq 19 (.build [(.int .i64 0),(.int .i64 0),(.str [])] [(0,1,(.t 15)),(2,1,(.t 18))]) (.q ⟨none,none,.store 3 (.t 4) (.t 19)⟩
 .done)))))))
 .ret)
 (.seq (.reg (tq 21 (.bin .eql (.t 5) (.c (.int .i64 3))) (tm 20 (.t 21) .done)))
 (.cond (.t 20) (.seq (.reg (tm 22 (.t 1) (tm 23 (.t 0) (tq 24 (.call 28 [(.t 23),(.c (.int .i64 2))]) (tq 25 (.build [(.int .i64 0),(.int .i64 0),(.str [])] [(0,1,(.t 22)),(1,1,(.t 24))]) (.q ⟨none,none,.store 3 (.t 4) (.t 25)⟩
 .done))))))
 .ret)
 .skip))))))))
 (.seq (.reg (tm 26 (.t 0) (tq 27 (.call 28 [(.t 26),(.c (.int .i64 6))]) (tq 28 (.bin .add (.c (.int .i64 1)) (.t 27)) (tq 29 (.build [(.int .i64 0),(.int .i64 0),(.str [])] [(0,1,(.c (.int .i64 4))),(1,1,(.t 28))]) (.q ⟨none,none,.store 3 (.t 4) (.t 29)⟩
 .done))))))
 .ret)))
theorem fc29_h0:fcomp Try.prog Try.f29 = some (c29_h0.erase,[.load 3 true (.t 4)],30):=by kernel_rfl
def spec_l00Src_atom (kind_1:Int) (s_2:GL00Src):Option (GAtom × GL00Src) :=
    if (kind_1 == 1) then
    (spec_l00Src_next 12 s_2).bind fun r_4 =>
    some ((⟨kind_1,w64 (r_4.1 - 4),[]⟩:GAtom),r_4.2)
    else
    if (kind_1 == 2) then
    (spec_l00Src_pick [[],[97],[98],[99],[110,101,116]] s_2).bind fun r_7 =>
    some ((⟨kind_1,0,r_7.1⟩:GAtom),r_7.2)
    else
    if (kind_1 == 3) then
    (spec_l00Src_next 2 s_2).bind fun r_10 =>
    some ((⟨kind_1,r_10.1,[]⟩:GAtom),r_10.2)
    else
    (spec_l00Src_next 6 s_2).bind fun r_12 =>
    some ((⟨4,w64 (1 + r_12.1),[]⟩:GAtom),r_12.2)
theorem w_spec_l00Src_atom (kind_1:Int) (s_2:GL00Src) (r:(GAtom × GL00Src)) (hf:spec_l00Src_atom kind_1 s_2 = some r):CallHeap Try.prog true 29 [(.ptr 0 0 0),(.int .i64 kind_1)] [.box 3 (.agg [(.lst 1 (s_2.Code.map enc_u8)),(.int .i64 s_2.At),(.int .i64 s_2.Seed)])] (encGAtom r.1) [.box 3 (.agg [(.lst 1 (r.2.Code.map enc_u8)),(.int .i64 r.2.At),(.int .i64 r.2.Seed)])]:=by
 refine CallHeap.of_awp mixed Try.func29 fc29_h0 nle ?_;rw [argT_eq];unfold spec_l00Src_atom at hf;unfold c29_h0;refine (show awp Try.prog true 1 _ (ofL [(0,(.ptr 0 0 0)),(1,(.int .i64 kind_1))]) [.box 3 (.agg [(.lst 1 (s_2.Code.map enc_u8)),(.int .i64 s_2.At),(.int .i64 s_2.Seed)])] _ from ?_);refine sr<|s_do (o_box (j:=1) (c:=(.agg [(.int .i64 0),(.int .i64 0),(.str [])])) rfl trivial rfl rfl)<|dk<|awp_seq<|sr<|s_mov (.int .i64 kind_1) rfl<|dk<|w_blk<|sr<|s_q (.bool (kind_1 == 1)) rfl rfl rfl<|s_mov (.bool (kind_1 == 1)) rfl<|dk<|?_
 rcases oi hf with ⟨c3,hf⟩ | ⟨c3,hf⟩
 ·refine w_condt rfl c3<|sr<|?_
  obtain ⟨r_4,er5,hf⟩:=ob hf
  refine s_mov (.int .i64 kind_1) rfl<|s_mov (.ptr 0 0 0) rfl<|?_;refine s_do (o_callh (v:=(.int .i64 r_4.1)) (h2:=[.box 3 (.agg [(.lst 1 (r_4.2.Code.map enc_u8)),(.int .i64 r_4.2.At),(.int .i64 r_4.2.Seed)]),.box 3 (.agg [(.int .i64 0),(.int .i64 0),(.str [])])]) [] [0] (fun _ => rfl) (w_spec_l00Src_next _ _ _ er5) rfl (.refl _) (.refl _) rfl rfl) ?_;refine s_q (.int .i64 (w64 (r_4.1 - 4))) rfl rfl rfl<|s_q (.agg [(.int .i64 kind_1),(.int .i64 (w64 (r_4.1 - 4))),(.str [])]) rfl ⟨⟨rfl,nle,trivial⟩,⟨⟨rfl,nle,trivial⟩,trivial⟩⟩ rfl<|s_do0 (o_storebox (v:=(.agg [(.int .i64 kind_1),(.int .i64 (w64 (r_4.1 - 4))),(.str [])])) (y':=(.agg [(.int .i64 kind_1),(.int .i64 (w64 (r_4.1 - 4))),(.str [])])) rfl rfl rfl trivial ⟨rfl,nle⟩ ⟨⟨rfl,trivial⟩,⟨⟨rfl,trivial⟩,⟨⟨rfl,trivial⟩,trivial⟩⟩⟩ rfl)<|?_
  refine dk<|w_ret<|?_;obtain rfl:=os hf;exact r_heap [] [0] rfl ⟨nle,trivial⟩ rfl (.refl _) (.refl _)
 ·refine w_condf rfl (bf c3)<|sr<|s_q (.bool (kind_1 == 2)) rfl rfl rfl<|s_mov (.bool (kind_1 == 2)) rfl<|dk<|?_
  rcases oi hf with ⟨c6,hf⟩ | ⟨c6,hf⟩
  ·refine w_condt rfl c6<|sr<|?_
   obtain ⟨r_7,er8,hf⟩:=ob hf
   refine s_mov (.int .i64 kind_1) rfl<|s_mov (.ptr 0 0 0) rfl<|?_;refine s_do (o_bslice (j:=2) (as':=[(.str []),(.str [97]),(.str [98]),(.str [99]),(.str [110,101,116])]) rfl (fun _ => by decide) ⟨rfl,⟨rfl,⟨rfl,⟨rfl,⟨rfl,trivial⟩⟩⟩⟩⟩ (.refl _) rfl rfl rfl) ?_;refine s_do (o_callh (v:=(.str r_7.1)) (h2:=[.box 3 (.agg [(.lst 1 (r_7.2.Code.map enc_u8)),(.int .i64 r_7.2.At),(.int .i64 r_7.2.Seed)]),.box 3 (.agg [(.int .i64 0),(.int .i64 0),(.str [])]),.dead]) [false,true] [0] (fun h => absurd (show false = true from h) (by decide)) (w_spec_l00Src_pick _ _ _ er8) rfl (.cons (.refl _) (.cons (.of_eq (congrArg (AV.lst _) (tko [[],[97],[98],[99],[110,101,116]]))) .nil)) (.refl _) rfl rfl) ?_
   refine s_q (.agg [(.int .i64 kind_1),(.int .i64 0),(.str r_7.1)]) rfl ⟨⟨rfl,nle,trivial⟩,⟨⟨rfl,nle,trivial⟩,trivial⟩⟩ rfl<|s_do0 (o_storebox (v:=(.agg [(.int .i64 kind_1),(.int .i64 0),(.str r_7.1)])) (y':=(.agg [(.int .i64 kind_1),(.int .i64 0),(.str r_7.1)])) rfl rfl rfl trivial ⟨rfl,nle⟩ ⟨⟨rfl,trivial⟩,⟨⟨rfl,trivial⟩,⟨⟨rfl,trivial⟩,trivial⟩⟩⟩ rfl)<|dk<|w_ret<|?_;obtain rfl:=os hf;exact r_heap [] [0] rfl ⟨nle,trivial⟩ rfl (.refl _) (.refl _)
  ·refine w_condf rfl (bf c6)<|sr<|s_q (.bool (kind_1 == 3)) rfl rfl rfl<|s_mov (.bool (kind_1 == 3)) rfl<|dk<|?_
   rcases oi hf with ⟨c9,hf⟩ | ⟨c9,hf⟩
   ·refine w_condt rfl c9<|sr<|?_
    obtain ⟨r_10,er11,hf⟩:=ob hf
    refine s_mov (.int .i64 kind_1) rfl<|s_mov (.ptr 0 0 0) rfl<|?_;refine s_do (o_callh (v:=(.int .i64 r_10.1)) (h2:=[.box 3 (.agg [(.lst 1 (r_10.2.Code.map enc_u8)),(.int .i64 r_10.2.At),(.int .i64 r_10.2.Seed)]),.box 3 (.agg [(.int .i64 0),(.int .i64 0),(.str [])])]) [] [0] (fun _ => rfl) (w_spec_l00Src_next _ _ _ er11) rfl (.refl _) (.refl _) rfl rfl) ?_;refine s_q (.agg [(.int .i64 kind_1),(.int .i64 r_10.1),(.str [])]) rfl ⟨⟨rfl,nle,trivial⟩,⟨⟨rfl,nle,trivial⟩,trivial⟩⟩ rfl<|s_do0 (o_storebox (v:=(.agg [(.int .i64 kind_1),(.int .i64 r_10.1),(.str [])])) (y':=(.agg [(.int .i64 kind_1),(.int .i64 r_10.1),(.str [])])) rfl rfl rfl trivial ⟨rfl,nle⟩ ⟨⟨rfl,trivial⟩,⟨⟨rfl,trivial⟩,⟨⟨rfl,trivial⟩,trivial⟩⟩⟩ rfl)<|?_
    refine dk<|w_ret<|?_;obtain rfl:=os hf;exact r_heap [] [0] rfl ⟨nle,trivial⟩ rfl (.refl _) (.refl _)
   ·refine w_condf rfl (bf c9)<|w_skip<|k_blk<|k_seq<|sr<|?_
    obtain ⟨r_12,er13,hf⟩:=ob hf
    refine s_mov (.ptr 0 0 0) rfl ?_;refine s_do (o_callh (v:=(.int .i64 r_12.1)) (h2:=[.box 3 (.agg [(.lst 1 (r_12.2.Code.map enc_u8)),(.int .i64 r_12.2.At),(.int .i64 r_12.2.Seed)]),.box 3 (.agg [(.int .i64 0),(.int .i64 0),(.str [])])]) [] [0] (fun _ => rfl) (w_spec_l00Src_next _ _ _ er13) rfl (.refl _) (.refl _) rfl rfl) ?_;refine s_q (.int .i64 (w64 (1 + r_12.1))) rfl rfl rfl<|s_q (.agg [(.int .i64 4),(.int .i64 (w64 (1 + r_12.1))),(.str [])]) rfl ⟨⟨rfl,nle,trivial⟩,⟨⟨rfl,nle,trivial⟩,trivial⟩⟩ rfl<|s_do0 (o_storebox (v:=(.agg [(.int .i64 4),(.int .i64 (w64 (1 + r_12.1))),(.str [])])) (y':=(.agg [(.int .i64 4),(.int .i64 (w64 (1 + r_12.1))),(.str [])])) rfl rfl rfl trivial ⟨rfl,nle⟩ ⟨⟨rfl,trivial⟩,⟨⟨rfl,trivial⟩,⟨⟨rfl,trivial⟩,trivial⟩⟩⟩ rfl)<|?_
    refine dk<|w_ret<|?_;obtain rfl:=os hf;exact r_heap [] [0] rfl ⟨nle,trivial⟩ rfl (.refl _) (.refl _)

/- spec.l03Has -/
def c116:ACode :=
 (.seq (.reg (tq 3 (.box 3 (.t 1)) (tm 4 (.c (.bool false)) .done)))
 (.seq (.seq (.reg (tm 5 (.c (.int .i64 0)) .done))
 (.block 0 (.loop (.seq (.seq (.reg (tm 6 (.t 5) (tm 7 (.t 0) (tq 8 (.len (.t 7)) (tq 9 (.bin .lss (.t 6) (.t 8)) .done)))))
 (.cond (.t 9) .skip
 (.exit 0)))
 (.seq (.block 1 (.seq (.reg (tm 12 (.t 0) (tm 13 (.t 5) (tq 14 (.iaddr 3 (.t 12) (.t 13)) (tq 15 (.load 3 true (.t 14)) (tq 16 (.load 3 true (.t 3)) (tq 17 (.eqs false [0,0,2] (.t 15) (.t 16)) .done)))))))
 (.cond (.t 17) (.seq (.reg (tm 4 (.c (.bool true)) .done))
 .ret)
 .skip)))
 (.reg (tm 10 (.t 5) (tq 11 (.bin .add (.t 10) (.c (.int .i64 1))) (tm 5 (.t 11) .done)))))))))
 (.cut (.seq (.reg (tm 4 (.c (.bool false)) .done))
 .ret))))
theorem fc116:fcomp Try.prog Try.f116 = some (c116.erase,[.mov (.t 4)],18):=by kernel_rfl
def spec_l03Has_L1 (a_2:GAtom):List GAtom → Option (Fl Bool Unit)
  | [] =>
    some (.go ())
  | x_28 :: xs =>
    if (x_28.Kind == a_2.Kind && (x_28.N == a_2.N && (x_28.T == a_2.T && true))) then
    some (.ret true)
    else
    spec_l03Has_L1 a_2 xs 

def spec_l03Has (d_1:(List GAtom)) (a_2:GAtom):Option Bool :=
    (spec_l03Has_L1 a_2 d_1 ).bind fun q => (match q with
    | .ret r => some r
    | .go _ =>
    some false)
theorem w_spec_l03Has (d_1:(List GAtom)) (a_2:GAtom) (r:Bool) (hf:spec_l03Has d_1 a_2 = some r):CallOK Try.prog 116 .flat [(.lst 3 (d_1.map encGAtom)),(encGAtom a_2)] (.bool r):=by
 refine CallOK.of_awp mixed Try.func116 fc116 nle ?_;rw [argT_eq];unfold spec_l03Has at hf;unfold c116;refine (show awp Try.prog false 0 _ (ofL [(0,(.lst 3 (d_1.map encGAtom))),(1,(encGAtom a_2))]) [] _ from ?_);refine sr<|s_do (o_box (j:=0) (c:=(.agg [(.int .i64 a_2.Kind),(.int .i64 a_2.N),(.str a_2.T)])) rfl trivial rfl rfl)<|s_mov (.bool false) rfl<|dk<|awp_seq<|sr<|s_mov (.int .i64 0) rfl<|dk<|?_
 obtain ⟨p21,hb1,hf⟩:=ob hf
 refine awp_cutx (X:={q:Unit // p21 = .go q}) (fun q => ([],[])) ?_ ?_
 ·refine awp_loop (X:={q:Nat // spec_l03Has_L1 a_2 (d_1.drop q)  = some p21}) (fun q => ([(0,(.lst 3 (d_1.map encGAtom))),(3,(.ptr 0 0 0)),(5,(.int .i64 (q.1:Int)))],[.box 3 (.agg [(.int .i64 a_2.Kind),(.int .i64 a_2.N),(.str a_2.T)])])) (fun q => d_1.length - q.1) ⟨0,hb1⟩ ⟨[],[0],_,_,rfl,rfl,⟨.refl _,⟨.refl _,⟨.refl _,trivial⟩⟩⟩,(.refl _)⟩ ?_
  rintro ⟨i_14,hc1⟩
  have hc1:spec_l03Has_L1 a_2 (d_1.drop i_14)  = some p21:=hc1
  refine (show awp Try.prog false 0 _ (ofL [(0,(.lst 3 (d_1.map encGAtom))),(3,(.ptr 0 0 0)),(5,(.int .i64 (i_14:Int)))]) [.box 3 (.agg [(.int .i64 a_2.Kind),(.int .i64 a_2.N),(.str a_2.T)])] _ from ?_)
  rcases dropc d_1 i_14 with ⟨hie24,hd27⟩ | ⟨hlt22,x_28,hx23,hd27⟩
  ·rw [hd27,spec_l03Has_L1.eq_1] at hc1
   have hq26:=dlf hie24
   refine awp_seq<|sr<|s_mov (.int .i64 (i_14:Int)) rfl<|s_mov (.lst 3 (d_1.map encGAtom)) rfl<|s_dof (o_len (enc:=encGAtom) rfl) fun hl29 => s_q (.bool (decide ((i_14:Int) < (d_1.length:Int)))) rfl rfl rfl<|dk<|w_condf rfl hq26<|w_exit<|k_seqx<|k_loopx<|k_blkx<|?_;obtain rfl:=os hc1;exact k_cutn ⟨_,rfl⟩ ⟨[],[],_,_,rfl,rfl,trivial,(.refl _)⟩
  ·rw [hd27,spec_l03Has_L1.eq_2] at hc1
   have hq26:=dlt hlt22
   refine awp_seq<|sr<|s_mov (.int .i64 (i_14:Int)) rfl<|s_mov (.lst 3 (d_1.map encGAtom)) rfl<|s_dof (o_len (enc:=encGAtom) rfl) fun hl30 => s_q (.bool (decide ((i_14:Int) < (d_1.length:Int)))) rfl rfl rfl<|dk<|w_condt rfl hq26<|w_skip<|k_seq<|awp_seq<|w_blk<|sr<|s_mov (.lst 3 (d_1.map encGAtom)) rfl<|s_mov (.int .i64 (i_14:Int)) rfl<|s_do (o_iaddrn (enc:=encGAtom) rfl rfl hx23)<|s_q (encGAtom x_28) rfl nle rfl<|s_q (.agg [(.int .i64 a_2.Kind),(.int .i64 a_2.N),(.str a_2.T)]) rfl nle rfl<|s_q (.bool (x_28.Kind == a_2.Kind && (x_28.N == a_2.N && (x_28.T == a_2.T && true)))) rfl ⟨⟨rfl,rfl⟩,⟨⟨rfl,rfl⟩,⟨rfl,trivial⟩⟩⟩ rfl<|?_
   refine dk<|?_
   rcases oi hc1 with ⟨c31,hc1⟩ | ⟨c31,hc1⟩
   ·refine w_condt rfl c31<|sr<|s_mov (.bool true) rfl<|dk<|w_ret<|?_;obtain rfl:=os hc1;obtain rfl:=os hf;exact r_flat ⟨trivial,trivial⟩ rfl (.refl _)
   ·refine w_condf rfl (bf c31)<|w_skip<|k_blk<|k_seq<|w_reg<|s_mov (.int .i64 (i_14:Int)) rfl<|s_q (.int .i64 (w64 ((i_14:Int) + 1))) rfl rfl rfl<|s_mov (.int .i64 (w64 ((i_14:Int) + 1))) rfl<|w_done<|?_;exact k_loopn ⟨(i_14 + 1),hc1⟩ (mul hlt22) ⟨[],[0],_,_,rfl,rfl,⟨.refl _,⟨.refl _,⟨.of_eq (congrArg (AV.int _) (w64_incr hlt22 hl30)),trivial⟩⟩⟩,(.refl _)⟩
 ·rintro ⟨_,rfl⟩
  refine sr<|s_mov (.bool false) rfl<|dk<|w_ret<|?_;obtain rfl:=os hf;exact r_flat ⟨trivial,trivial⟩ rfl (.refl _)

/- spec.l01Bit -/
def c125:ACode :=
 (.seq (.reg (tm 2 (.c (.int .i64 0)) .done))
 (.seq (.seq (.reg (tm 3 (.t 0) .done))
 (.cond (.t 3) (.seq (.reg (tm 2 (.c (.int .i64 1)) .done))
 .ret)
 .skip))
 (.seq (.reg (tm 2 (.c (.int .i64 0)) .done))
 .ret)))
theorem fc125:fcomp Try.prog Try.f125 = some (c125.erase,[.mov (.t 2)],4):=by kernel_rfl
def spec_l01Bit (b_1:Bool):Option Int :=
    if b_1 then
    some 1
    else
    some 0
theorem w_spec_l01Bit (b_1:Bool) (r:Int) (hf:spec_l01Bit b_1 = some r):CallOK Try.prog 125 .flat [(.bool b_1)] (.int .i64 r):=by
  refine CallOK.of_awp mixed Try.func125 fc125 nle ?_
  rw [argT_eq]
  unfold spec_l01Bit at hf
  unfold c125
  refine (show awp Try.prog false 0 _ (ofL [(0,(.bool b_1))]) [] _ from ?_)
  refine awp_seq ?_
  refine w_reg ?_
  refine s_do (o_mov (.int .i64 0) rfl) ?_
  refine w_done ?_
  refine k_seq ?_
  refine awp_seq ?_
  refine awp_seq ?_
  refine w_reg ?_
  refine s_do (o_mov (.bool b_1) rfl) ?_
  refine w_done ?_
  refine k_seq ?_
  rcases oi hf with ⟨c2,hf⟩ | ⟨c2,hf⟩
  · refine w_condt rfl c2 ?_
    refine awp_seq ?_
    refine w_reg ?_
    refine s_do (o_mov (.int .i64 1) rfl) ?_
    refine w_done ?_
    refine k_seq ?_
    refine w_ret ?_
    obtain rfl:=os hf
    exact r_flat ⟨trivial,trivial⟩ rfl (.refl _)
  · refine w_condf rfl (bf c2) ?_
    refine w_skip ?_
    refine k_seq ?_
    refine awp_seq ?_
    refine w_reg ?_
    refine s_do (o_mov (.int .i64 0) rfl) ?_
    refine w_done ?_
    refine k_seq ?_
    refine w_ret ?_
    obtain rfl:=os hf
    exact r_flat ⟨trivial,trivial⟩ rfl (.refl _)

/- spec.l03Order -/
def c115:ACode :=
 (.seq (.reg (tq 2 (.box 3 (.t 0)) (tq 3 (.box 3 (.t 1)) (tm 4 (.c (.int .i64 0)) .done))))
 (.seq (.block 0 (.seq (.reg (tq 6 (.faddr 0 (.t 2)) (tq 7 (.load 1 false (.t 6)) (tq 8 (.faddr 0 (.t 3)) (tq 9 (.load 1 false (.t 8)) (tq 10 (.bin .neq (.t 7) (.t 9)) (tm 5 (.t 10) .done)))))))
 (.cond (.t 5) (.seq (.reg (tq 11 (.faddr 0 (.t 2)) (tq 12 (.load 1 false (.t 11)) (tq 13 (.faddr 0 (.t 3)) (tq 14 (.load 1 false (.t 13)) (tq 15 (.bin .lss (.t 12) (.t 14)) (tq 16 (.call 125 [(.t 15)]) (tq 17 (.bin .mul (.c (.int .i64 2)) (.t 16)) (tq 18 (.bin .sub (.c (.int .i64 1)) (.t 17)) (tm 4 (.t 18) .done))))))))))
 .ret)
 (.seq (.reg (tq 20 (.faddr 1 (.t 2)) (tq 21 (.load 1 false (.t 20)) (tq 22 (.faddr 1 (.t 3)) (tq 23 (.load 1 false (.t 22)) (tq 24 (.bin .neq (.t 21) (.t 23)) (tm 19 (.t 24) .done)))))))
 (.cond (.t 19) (.seq (.reg (tq 25 (.faddr 1 (.t 2)) (tq 26 (.load 1 false (.t 25)) (tq 27 (.faddr 1 (.t 3)) (tq 28 (.load 1 false (.t 27)) (tq 29 (.bin .lss (.t 26) (.t 28)) (tq 30 (.call 125 [(.t 29)]) (tq 31 (.bin .mul (.c (.int .i64 2)) (.t 30)) (tq 32 (.bin .sub (.c (.int .i64 1)) (.t 31)) (tm 4 (.t 32) .done))))))))))
 .ret)
 (.seq (.reg (tq 34 (.faddr 2 (.t 2)) (tq 35 (.load 1 false (.t 34)) (tq 36 (.faddr 2 (.t 3)) (tq 37 (.load 1 false (.t 36)) (tq 38 (.bin .neq (.t 35) (.t 37)) (tm 33 (.t 38) .done)))))))
 (.cond (.t 33) (.seq (.reg (tq 39 (.faddr 2 (.t 2)) (tq 40 (.load 1 false (.t 39)) (tq 41 (.faddr 2 (.t 3)) (tq 42 (.load 1 false (.t 41)) (tq 43 (.bin .lss (.t 40) (.t 42)) (tq 44 (.call 125 [(.t 43)]) (tq 45 (.bin .mul (.c (.int .i64 2)) (.t 44)) (tq 46 (.bin .sub (.c (.int .i64 1)) (.t 45)) (tm 4 (.t 46) .done))))))))))
 .ret)
 .skip)))))))
 (.seq (.reg (tm 4 (.c (.int .i64 0)) .done))
 .ret)))
theorem fc115:fcomp Try.prog Try.f115 = some (c115.erase,[.mov (.t 4)],47):=by kernel_rfl
def spec_l03Order (a_1:GAtom) (b_2:GAtom):Option Int :=
    if (a_1.Kind != b_2.Kind) then
    (spec_l01Bit (decide (a_1.Kind < b_2.Kind))).bind fun r_4 =>
    some (w64 (1 - (w64 (2 * r_4))))
    else
    if (a_1.N != b_2.N) then
    (spec_l01Bit (decide (a_1.N < b_2.N))).bind fun r_7 =>
    some (w64 (1 - (w64 (2 * r_7))))
    else
    if (!(a_1.T == b_2.T)) then
    (spec_l01Bit (Op.bytesLess a_1.T b_2.T)).bind fun r_10 =>
    some (w64 (1 - (w64 (2 * r_10))))
    else
    some 0
theorem w_spec_l03Order (a_1:GAtom) (b_2:GAtom) (r:Int) (hf:spec_l03Order a_1 b_2 = some r):CallOK Try.prog 115 .flat [(encGAtom a_1),(encGAtom b_2)] (.int .i64 r):=by
 refine CallOK.of_awp mixed Try.func115 fc115 nle ?_;rw [argT_eq];unfold spec_l03Order at hf;unfold c115;refine (show awp Try.prog false 0 _ (ofL [(0,(encGAtom a_1)),(1,(encGAtom b_2))]) [] _ from ?_);refine sr<|s_do (o_box (j:=0) (c:=(.agg [(.int .i64 a_1.Kind),(.int .i64 a_1.N),(.str a_1.T)])) rfl trivial rfl rfl)<|s_do (o_box (j:=1) (c:=(.agg [(.int .i64 b_2.Kind),(.int .i64 b_2.N),(.str b_2.T)])) rfl trivial rfl rfl)<|s_mov (.int .i64 0) rfl<|dk<|awp_seq<|w_blk<|sr<|s_q (.ptr 0 0 0) rfl trivial rfl<|s_q (.int .i64 a_1.Kind) rfl nle rfl<|s_q (.ptr 1 0 0) rfl trivial rfl<|s_q (.int .i64 b_2.Kind) rfl nle rfl<|s_q (.bool (a_1.Kind != b_2.Kind)) rfl rfl rfl<|?_
 refine s_mov (.bool (a_1.Kind != b_2.Kind)) rfl<|dk<|?_
 rcases oi hf with ⟨c3,hf⟩ | ⟨c3,hf⟩
 ·refine w_condt rfl c3<|sr<|?_
  obtain ⟨r_4,er5,hf⟩:=ob hf
  refine s_q (.ptr 0 0 0) rfl trivial rfl<|s_q (.int .i64 a_1.Kind) rfl nle rfl<|s_q (.ptr 1 0 0) rfl trivial rfl<|s_q (.int .i64 b_2.Kind) rfl nle rfl<|s_q (.bool (decide (a_1.Kind < b_2.Kind))) rfl rfl rfl<|s_do (o_call (w_spec_l01Bit _ _ er5) rfl (.refl _) rfl)<|s_q (.int .i64 (w64 (2 * r_4))) rfl rfl rfl<|s_q (.int .i64 (w64 (1 - (w64 (2 * r_4))))) rfl rfl rfl<|s_mov (.int .i64 (w64 (1 - (w64 (2 * r_4))))) rfl<|dk<|w_ret<|?_;obtain rfl:=os hf;exact r_flat ⟨trivial,trivial⟩ rfl (.refl _)
 ·refine w_condf rfl (bf c3)<|sr<|s_q (.ptr 0 0 1) rfl trivial rfl<|s_q (.int .i64 a_1.N) rfl nle rfl<|s_q (.ptr 1 0 1) rfl trivial rfl<|s_q (.int .i64 b_2.N) rfl nle rfl<|s_q (.bool (a_1.N != b_2.N)) rfl rfl rfl<|s_mov (.bool (a_1.N != b_2.N)) rfl<|dk<|?_
  rcases oi hf with ⟨c6,hf⟩ | ⟨c6,hf⟩
  ·refine w_condt rfl c6<|sr<|?_
   obtain ⟨r_7,er8,hf⟩:=ob hf
   refine s_q (.ptr 0 0 1) rfl trivial rfl<|s_q (.int .i64 a_1.N) rfl nle rfl<|s_q (.ptr 1 0 1) rfl trivial rfl<|s_q (.int .i64 b_2.N) rfl nle rfl<|s_q (.bool (decide (a_1.N < b_2.N))) rfl rfl rfl<|s_do (o_call (w_spec_l01Bit _ _ er8) rfl (.refl _) rfl)<|s_q (.int .i64 (w64 (2 * r_7))) rfl rfl rfl<|s_q (.int .i64 (w64 (1 - (w64 (2 * r_7))))) rfl rfl rfl<|s_mov (.int .i64 (w64 (1 - (w64 (2 * r_7))))) rfl<|dk<|w_ret<|?_;obtain rfl:=os hf;exact r_flat ⟨trivial,trivial⟩ rfl (.refl _)
  ·refine w_condf rfl (bf c6)<|sr<|s_q (.ptr 0 0 2) rfl trivial rfl<|s_q (.str a_1.T) rfl nle rfl<|s_q (.ptr 1 0 2) rfl trivial rfl<|s_q (.str b_2.T) rfl nle rfl<|s_q (.bool (!(a_1.T == b_2.T))) rfl trivial rfl<|s_mov (.bool (!(a_1.T == b_2.T))) rfl<|dk<|?_
   rcases oi hf with ⟨c9,hf⟩ | ⟨c9,hf⟩
   ·refine w_condt rfl c9<|sr<|?_
    obtain ⟨r_10,er11,hf⟩:=ob hf
    refine s_q (.ptr 0 0 2) rfl trivial rfl<|s_q (.str a_1.T) rfl nle rfl<|s_q (.ptr 1 0 2) rfl trivial rfl<|s_q (.str b_2.T) rfl nle rfl<|s_q (.bool (Op.bytesLess a_1.T b_2.T)) rfl trivial rfl<|s_do (o_call (w_spec_l01Bit _ _ er11) rfl (.refl _) rfl)<|s_q (.int .i64 (w64 (2 * r_10))) rfl rfl rfl<|s_q (.int .i64 (w64 (1 - (w64 (2 * r_10))))) rfl rfl rfl<|s_mov (.int .i64 (w64 (1 - (w64 (2 * r_10))))) rfl<|dk<|w_ret<|?_;obtain rfl:=os hf;exact r_flat ⟨trivial,trivial⟩ rfl (.refl _)
   ·refine w_condf rfl (bf c9)<|w_skip<|k_blk<|k_seq<|sr<|s_mov (.int .i64 0) rfl<|dk<|w_ret<|?_;obtain rfl:=os hf;exact r_flat ⟨trivial,trivial⟩ rfl (.refl _)

/- spec.l03Put -/
def c93:ACode :=
 (.seq (.reg (tq 3 (.box 3 (.t 1)) (tm 4 (.c .nil) .done)))
 (.seq (.seq (.reg (tm 6 (.t 0) (tq 7 (.load 3 true (.t 3)) (tq 8 (.call 116 [(.t 6),(.t 7)]) .done))))
 (.cond (.t 8) (.seq (.reg (tm 9 (.t 0) (tm 4 (.t 9) .done)))
 .ret)
 .skip))
 (.seq (.reg (tm 10 (.t 0) (tq 11 (.len (.t 10)) (tm 5 (.t 11) .done))))
 (.seq (.block 0 (.loop (.seq (.seq (.reg (tm 12 (.t 5) (tq 13 (.bin .gtr (.t 12) (.c (.int .i64 0))) (tm 14 (.t 13) (tg 15 14 true (.mov (.t 0)) (tg 16 14 true (.mov (.t 5)) (tg 17 14 true (.bin .sub (.t 16) (.c (.int .i64 1))) (tg 18 14 true (.iaddr 3 (.t 15) (.t 17)) (tg 19 14 true (.load 3 true (.t 18)) (tg 20 14 true (.load 3 true (.t 3)) (.l ⟨(some 21),(some (14,true)),.call 115 [(.t 19),(.t 20)]⟩ []
 (tg 22 14 true (.bin .gtr (.t 21) (.c (.int .i64 0))) (tq 23 (.pick (.t 14) (.t 22) (.c (.bool false))) .done)) .non)))))))))))
 (.cut (.cond (.t 23) .skip
 (.exit 0))))
 (.block 1 (.reg (tm 24 (.t 5) (tq 25 (.bin .sub (.t 24) (.c (.int .i64 1))) (tm 5 (.t 25) .done))))))))
 (.cut (.seq (.reg (tm 27 (.t 0) (tm 28 (.t 5) (tq 29 (.slice 3 (.t 27) none (some (.t 28))) (tq 31 (.load 3 true (.t 3)) (tm 34 (.t 0) (tm 35 (.t 5) (tq 36 (.slice 3 (.t 34) (some (.t 35)) none) (.l ⟨(some 26),none,.bslice 3 []⟩ [⟨(some 36),none,.slice 3 (.t 34) (some (.t 35)) none⟩,⟨(some 31),none,.load 3 true (.t 3)⟩,⟨(some 29),none,.slice 3 (.t 27) none (some (.t 28))⟩]
 (.l ⟨(some 30),none,.append 3 32 (.t 26) (.t 29)⟩ [⟨(some 36),none,.slice 3 (.t 34) (some (.t 35)) none⟩,⟨(some 31),none,.load 3 true (.t 3)⟩]
 (.l ⟨(some 32),none,.bslice 3 [(.t 31)]⟩ [⟨(some 36),none,.slice 3 (.t 34) (some (.t 35)) none⟩,⟨(some 29),none,.slice 3 (.t 27) none (some (.t 28))⟩]
 (.l ⟨(some 33),none,.append 3 32 (.t 30) (.t 32)⟩ [⟨(some 36),none,.slice 3 (.t 34) (some (.t 35)) none⟩]
 (.l ⟨(some 37),none,.append 3 32 (.t 33) (.t 36)⟩ []
 (tm 4 (.t 37) .done) .non) .non) .non) (.l ⟨(some 32),none,.bslice 3 [(.t 31)]⟩ [⟨(some 36),none,.slice 3 (.t 34) (some (.t 35)) none⟩,⟨(some 29),none,.slice 3 (.t 27) none (some (.t 28))⟩]
 (.l ⟨(some 30),none,.append 3 32 (.t 26) (.t 29)⟩ [⟨(some 36),none,.slice 3 (.t 34) (some (.t 35)) none⟩,⟨(some 31),none,.load 3 true (.t 3)⟩]
 (.l ⟨(some 33),none,.append 3 32 (.t 30) (.t 32)⟩ [⟨(some 36),none,.slice 3 (.t 34) (some (.t 35)) none⟩]
 (.l ⟨(some 37),none,.append 3 32 (.t 33) (.t 36)⟩ []
 (tm 4 (.t 37) .done) .non) .non) .non) .non)) (.l ⟨(some 32),none,.bslice 3 [(.t 31)]⟩ [⟨(some 36),none,.slice 3 (.t 34) (some (.t 35)) none⟩,⟨(some 29),none,.slice 3 (.t 27) none (some (.t 28))⟩]
 (.l ⟨(some 26),none,.bslice 3 []⟩ [⟨(some 36),none,.slice 3 (.t 34) (some (.t 35)) none⟩,⟨(some 31),none,.load 3 true (.t 3)⟩,⟨(some 29),none,.slice 3 (.t 27) none (some (.t 28))⟩]
 (.l ⟨(some 30),none,.append 3 32 (.t 26) (.t 29)⟩ [⟨(some 36),none,.slice 3 (.t 34) (some (.t 35)) none⟩,⟨(some 31),none,.load 3 true (.t 3)⟩]
 (.l ⟨(some 33),none,.append 3 32 (.t 30) (.t 32)⟩ [⟨(some 36),none,.slice 3 (.t 34) (some (.t 35)) none⟩]
 (.l ⟨(some 37),none,.append 3 32 (.t 33) (.t 36)⟩ []
 (tm 4 (.t 37) .done) .non) .non) .non) .non) .non))))))))))
 .ret))))))
theorem fc93:fcomp Try.prog Try.f93 = some (c93.erase,[.mov (.t 4)],38):=by kernel_rfl
def spec_l03Put_L1 (d_1:(List GAtom)) (a_2:GAtom):Nat → Int → Option Int
  | 0,_ => none
  | k + 1,k_34 =>
    ((if (decide (k_34 > 0)) then
    (idx d_1 (w64 (k_34 - 1))).bind fun x_58 =>
    (spec_l03Order x_58 a_2).bind fun r_60 =>
    some (decide (r_60 > 0))
    else
    some false:Option Bool)).bind fun s23_55 =>
    if s23_55 then
    spec_l03Put_L1 d_1 a_2 k (w64 (k_34 - 1))
    else
    some k_34

def spec_l03Put (d_1:(List GAtom)) (a_2:GAtom):Option (List GAtom) :=
    (spec_l03Has d_1 a_2).bind fun r_3 =>
    if r_3 then
    some d_1
    else
    (spec_l03Put_L1 d_1 a_2 FUEL (d_1.length:Int)).bind fun k_48 =>
    if (0:Int) ≤ k_48 ∧ k_48 ≤ (d_1.length:Int) then
    if (0:Int) ≤ k_48 ∧ k_48 ≤ (d_1.length:Int) then
    if ([] ++ (d_1.take k_48.toNat)).length ≤ 2 ^ 30 then
    if (([] ++ (d_1.take k_48.toNat)) ++ [a_2]).length ≤ 2 ^ 30 then
    if ((([] ++ (d_1.take k_48.toNat)) ++ [a_2]) ++ (d_1.drop k_48.toNat)).length ≤ 2 ^ 30 then
    some ((([] ++ (d_1.take k_48.toNat)) ++ [a_2]) ++ (d_1.drop k_48.toNat))
    else none
    else none
    else none
    else none
    else none
theorem w_spec_l03Put (d_1:(List GAtom)) (a_2:GAtom) (r:(List GAtom)) (hf:spec_l03Put d_1 a_2 = some r):CallOK Try.prog 93 .weak [(.lst 3 (d_1.map encGAtom)),(encGAtom a_2)] (.lst 3 (r.map encGAtom)):=by
 refine CallOK.of_awp mixed Try.func93 fc93 nle ?_;rw [argT_eq];unfold spec_l03Put at hf;unfold c93;refine (show awp Try.prog false 0 _ (ofL [(0,(.lst 3 (d_1.map encGAtom))),(1,(encGAtom a_2))]) [] _ from ?_);refine sr<|s_do (o_box (j:=0) (c:=(.agg [(.int .i64 a_2.Kind),(.int .i64 a_2.N),(.str a_2.T)])) rfl trivial rfl rfl)<|s_mov .nil rfl<|dk<|awp_seq<|sr<|?_
 obtain ⟨r_3,er4,hf⟩:=ob hf
 refine s_mov (.lst 3 (d_1.map encGAtom)) rfl<|s_q (.agg [(.int .i64 a_2.Kind),(.int .i64 a_2.N),(.str a_2.T)]) rfl nle rfl<|s_do (o_call (w_spec_l03Has _ _ _ er4) rfl (.refl _) rfl)<|dk<|?_
 rcases oi hf with ⟨c5,hf⟩ | ⟨c5,hf⟩
 ·refine w_condt rfl c5<|sr<|s_mov (.lst 3 (d_1.map encGAtom)) rfl<|s_mov (.lst 3 (d_1.map encGAtom)) rfl<|dk<|w_ret<|?_;obtain rfl:=os hf;exact r_weak ⟨trivial,trivial⟩ rfl (.refl _)
 ·refine w_condf rfl (bf c5)<|w_skip<|k_seq<|sr<|s_mov (.lst 3 (d_1.map encGAtom)) rfl<|s_dof (o_len (enc:=encGAtom) rfl) fun hl6 => s_mov (.int .i64 (d_1.length:Int)) rfl<|dk<|awp_seq<|?_
  obtain ⟨k_48,hb1,hf⟩:=ob hf
  refine awp_cut ([(0,(.lst 3 (d_1.map encGAtom))),(3,(.ptr 0 0 0)),(5,(.int .i64 k_48))],[.box 3 (.agg [(.int .i64 a_2.Kind),(.int .i64 a_2.N),(.str a_2.T)])]) ?_ ?_
  ·refine awp_loop (X:={q:(Nat × Int) // spec_l03Put_L1 d_1 a_2 q.1 q.2 = some k_48}) (fun q => ([(0,(.lst 3 (d_1.map encGAtom))),(3,(.ptr 0 0 0)),(5,(.int .i64 q.1.2))],[.box 3 (.agg [(.int .i64 a_2.Kind),(.int .i64 a_2.N),(.str a_2.T)])])) (fun q => q.1.1) ⟨(FUEL,(d_1.length:Int)),hb1⟩ ⟨[],[0],_,_,rfl,rfl,⟨.refl _,⟨.refl _,⟨.refl _,trivial⟩⟩⟩,(.refl _)⟩ ?_
   rintro ⟨⟨k,k_34⟩,hc1⟩
   have hc1:spec_l03Put_L1 d_1 a_2 k k_34 = some k_48:=hc1
   refine (show awp Try.prog false 0 _ (ofL [(0,(.lst 3 (d_1.map encGAtom))),(3,(.ptr 0 0 0)),(5,(.int .i64 k_34))]) [.box 3 (.agg [(.int .i64 a_2.Kind),(.int .i64 a_2.N),(.str a_2.T)])] _ from ?_)
   rcases k with _ | k
   ·rw [spec_l03Put_L1.eq_1] at hc1
    cases hc1
   ·rw [spec_l03Put_L1.eq_2] at hc1;refine awp_seq<|awp_seq<|?_
    obtain ⟨s23_55,hb2,hc1⟩:=ob hc1
    refine awp_cut ([(0,(.lst 3 (d_1.map encGAtom))),(3,(.ptr 0 0 0)),(5,(.int .i64 k_34)),(23,(.bool s23_55))],[.box 3 (.agg [(.int .i64 a_2.Kind),(.int .i64 a_2.N),(.str a_2.T)])]) ?_ ?_
    ·refine w_reg ?_
     rcases oi hb2 with ⟨c57,hb2⟩ | ⟨c57,hb2⟩
     ·obtain ⟨x_58,ex59,hb2⟩:=ob hb2
      obtain ⟨r_60,er61,hb2⟩:=ob hb2
      refine s_mov (.int .i64 k_34) rfl<|s_q (.bool (decide (k_34 > 0))) rfl rfl rfl<|s_mov (.bool (decide (k_34 > 0))) rfl<|s_lit (s:=14) (b:=true) rfl c57<|s_on rfl<|s_mov (.lst 3 (d_1.map encGAtom)) rfl<|s_on rfl<|s_mov (.int .i64 k_34) rfl<|s_on rfl<|s_q (.int .i64 (w64 (k_34 - 1))) rfl rfl rfl<|s_on rfl<|s_do (o_iaddr (enc:=encGAtom) rfl rfl (idx0 ex59) (idx1 ex59))<|s_on rfl<|s_q (encGAtom x_58) rfl nle rfl<|s_on rfl<|s_q (.agg [(.int .i64 a_2.Kind),(.int .i64 a_2.N),(.str a_2.T)]) rfl nle rfl<|s_onl rfl<|s_dol (o_call (w_spec_l03Order _ _ _ er61) rfl (.refl _) rfl) a_same trivial<|s_on rfl<|s_q (.bool (decide (r_60 > 0))) rfl rfl rfl<|s_q (.bool (decide (r_60 > 0))) rfl trivial rfl<|?_
      refine w_done ?_;obtain rfl:=os hb2;exact ⟨[],[0],_,_,rfl,rfl,⟨.refl _,⟨.refl _,⟨.refl _,⟨.refl _,trivial⟩⟩⟩⟩,(.refl _)⟩
     ·refine s_mov (.int .i64 k_34) rfl<|s_q (.bool (decide (k_34 > 0))) rfl rfl rfl<|s_mov (.bool (decide (k_34 > 0))) rfl<|s_lit (s:=14) (b:=false) rfl (bf c57)<|s_off rfl rfl<|s_off rfl rfl<|s_off rfl rfl<|s_off rfl rfl<|s_off rfl rfl<|s_off rfl rfl<|s_offl rfl rfl trivial<|s_off rfl rfl<|s_q (.bool false) rfl trivial rfl<|w_done<|?_;obtain rfl:=os hb2;exact ⟨[],[0],_,_,rfl,rfl,⟨.refl _,⟨.refl _,⟨.refl _,⟨.refl _,trivial⟩⟩⟩⟩,(.refl _)⟩
    ·rcases oi hc1 with ⟨c62,hc1⟩ | ⟨c62,hc1⟩
     ·refine w_condt rfl c62<|w_skip<|k_seq<|w_blk<|w_reg<|s_mov (.int .i64 k_34) rfl<|s_q (.int .i64 (w64 (k_34 - 1))) rfl rfl rfl<|s_mov (.int .i64 (w64 (k_34 - 1))) rfl<|w_done<|k_blk<|?_;exact k_loopn ⟨(k,w64 (k_34 - 1)),hc1⟩ (Nat.lt_succ_self _) ⟨[],[0],_,_,rfl,rfl,⟨.refl _,⟨.refl _,⟨.refl _,trivial⟩⟩⟩,(.refl _)⟩
     ·refine w_condf rfl (bf c62)<|w_exit<|k_seqx<|k_loopx<|k_blkx<|?_;obtain rfl:=os hc1;exact ⟨[],[0],_,_,rfl,rfl,⟨.refl _,⟨.refl _,⟨.refl _,trivial⟩⟩⟩,(.refl _)⟩
  ·refine sr<|?_
   obtain ⟨g63,hf⟩:=og hf
   obtain ⟨g64,hf⟩:=og hf
   obtain ⟨g65,hf⟩:=og hf
   obtain ⟨g66,hf⟩:=og hf
   obtain ⟨g67,hf⟩:=og hf
   refine s_mov (.lst 3 (d_1.map encGAtom)) rfl<|s_mov (.int .i64 k_48) rfl<|s_do (o_slt (enc:=encGAtom) rfl rfl g63.1 g63.2)<|s_q (.agg [(.int .i64 a_2.Kind),(.int .i64 a_2.N),(.str a_2.T)]) rfl nle rfl<|s_mov (.lst 3 (d_1.map encGAtom)) rfl<|s_mov (.int .i64 k_48) rfl<|s_do (o_sld (enc:=encGAtom) rfl rfl g64.1 g64.2)<|?_;refine s_dol (o_bslice (j:=1) (as':=[]) rfl (fun _ => by decide) trivial (.refl _) rfl rfl rfl) (.inr ⟨(ag_sld (enc:=encGAtom) rfl rfl g64.1 g64.2),⟨⟨nle,rfl⟩,⟨(ag_slt (enc:=encGAtom) rfl rfl g63.1 g63.2),trivial⟩⟩⟩) ?_ ?_
   ·refine s_dol (o_bslice (j:=1) (as':=[(encGAtom a_2)]) rfl (fun _ => by decide) ⟨rfl,trivial⟩ (.refl _) rfl rfl rfl) (.inr ⟨(ag_sld (enc:=encGAtom) rfl rfl g64.1 g64.2),⟨(ag_slt (enc:=encGAtom) rfl rfl g63.1 g63.2),trivial⟩⟩) trivial ?_;refine s_dol (o_bslice (j:=2) (as':=[]) rfl (fun _ => by decide) trivial (.refl _) rfl rfl rfl) (.inr ⟨(ag_sld (enc:=encGAtom) rfl rfl g64.1 g64.2),⟨⟨nle,rfl⟩,⟨(ag_slt (enc:=encGAtom) rfl rfl g63.1 g63.2),trivial⟩⟩⟩) trivial ?_
    refine s_dol (o_appendw (j:=3) (L:=(([] ++ (d_1.take k_48.toNat)).map encGAtom)) (len:=([] ++ (d_1.take k_48.toNat)).length) rfl rfl ((by simp)) (by simp <;> omega) g65 rfl rfl) (.inr ⟨(ag_sld (enc:=encGAtom) rfl rfl g64.1 g64.2),⟨⟨nle,rfl⟩,trivial⟩⟩) trivial ?_
    refine s_dol (o_appendw (j:=4) (L:=((([] ++ (d_1.take k_48.toNat)) ++ [a_2]).map encGAtom)) (len:=(([] ++ (d_1.take k_48.toNat)) ++ [a_2]).length) rfl rfl (apoc (enc:=encGAtom) ([] ++ (d_1.take k_48.toNat)) [a_2] _ (by rfl)) (by simp <;> omega) g66 rfl rfl) (.inr ⟨(ag_sld (enc:=encGAtom) rfl rfl g64.1 g64.2),trivial⟩) trivial ?_
    refine s_dol (o_appendw (j:=5) (L:=(((([] ++ (d_1.take k_48.toNat)) ++ [a_2]) ++ (d_1.drop k_48.toNat)).map encGAtom)) (len:=((([] ++ (d_1.take k_48.toNat)) ++ [a_2]) ++ (d_1.drop k_48.toNat)).length) rfl rfl (apl (enc:=encGAtom) (([] ++ (d_1.take k_48.toNat)) ++ [a_2]) (d_1.drop k_48.toNat)) (by simp <;> omega) g67 rfl rfl) trivial trivial ?_
    refine s_mov (.own 5 0 (((([] ++ (d_1.take k_48.toNat)) ++ [a_2]) ++ (d_1.drop k_48.toNat)).length)) rfl<|dk<|w_ret<|?_;obtain rfl:=os hf;exact r_weak ⟨trivial,trivial⟩ rfl (.of_eq (congrArg (AV.lst _) (tko (enc:=encGAtom) ((([] ++ (d_1.take k_48.toNat)) ++ [a_2]) ++ (d_1.drop k_48.toNat)))))
   ·refine s_dol (o_appendw (j:=2) (L:=(([] ++ (d_1.take k_48.toNat)).map encGAtom)) (len:=([] ++ (d_1.take k_48.toNat)).length) rfl rfl ((by simp)) (by simp <;> omega) g65 rfl rfl) (.inr ⟨(ag_sld (enc:=encGAtom) rfl rfl g64.1 g64.2),⟨⟨nle,rfl⟩,trivial⟩⟩) ?_ ?_
    ·refine s_dol (o_bslice (j:=2) (as':=[(encGAtom a_2)]) rfl (fun _ => by decide) ⟨rfl,trivial⟩ (.refl _) rfl rfl rfl) (.inr ⟨(ag_sld (enc:=encGAtom) rfl rfl g64.1 g64.2),⟨(ag_slt (enc:=encGAtom) rfl rfl g63.1 g63.2),trivial⟩⟩) trivial ?_
     refine s_dol (o_appendw (j:=3) (L:=(([] ++ (d_1.take k_48.toNat)).map encGAtom)) (len:=([] ++ (d_1.take k_48.toNat)).length) rfl rfl ((by simp)) (by simp <;> omega) g65 rfl rfl) (.inr ⟨(ag_sld (enc:=encGAtom) rfl rfl g64.1 g64.2),⟨⟨nle,rfl⟩,trivial⟩⟩) trivial ?_
     refine s_dol (o_appendw (j:=4) (L:=((([] ++ (d_1.take k_48.toNat)) ++ [a_2]).map encGAtom)) (len:=(([] ++ (d_1.take k_48.toNat)) ++ [a_2]).length) rfl rfl (apoc (enc:=encGAtom) ([] ++ (d_1.take k_48.toNat)) [a_2] _ (by rfl)) (by simp <;> omega) g66 rfl rfl) (.inr ⟨(ag_sld (enc:=encGAtom) rfl rfl g64.1 g64.2),trivial⟩) trivial ?_
     refine s_dol (o_appendw (j:=5) (L:=(((([] ++ (d_1.take k_48.toNat)) ++ [a_2]) ++ (d_1.drop k_48.toNat)).map encGAtom)) (len:=((([] ++ (d_1.take k_48.toNat)) ++ [a_2]) ++ (d_1.drop k_48.toNat)).length) rfl rfl (apl (enc:=encGAtom) (([] ++ (d_1.take k_48.toNat)) ++ [a_2]) (d_1.drop k_48.toNat)) (by simp <;> omega) g67 rfl rfl) trivial trivial ?_
     refine s_mov (.own 5 0 (((([] ++ (d_1.take k_48.toNat)) ++ [a_2]) ++ (d_1.drop k_48.toNat)).length)) rfl<|dk<|w_ret<|?_;obtain rfl:=os hf;exact r_weak ⟨trivial,trivial⟩ rfl (.of_eq (congrArg (AV.lst _) (tko (enc:=encGAtom) ((([] ++ (d_1.take k_48.toNat)) ++ [a_2]) ++ (d_1.drop k_48.toNat)))))
    ·refine s_dol (o_bslice (j:=3) (as':=[(encGAtom a_2)]) rfl (fun _ => by decide) ⟨rfl,trivial⟩ (.refl _) rfl rfl rfl) (.inr ⟨(ag_sld (enc:=encGAtom) rfl rfl g64.1 g64.2),⟨(ag_slt (enc:=encGAtom) rfl rfl g63.1 g63.2),trivial⟩⟩) trivial ?_
     refine s_dol (o_appendw (j:=4) (L:=((([] ++ (d_1.take k_48.toNat)) ++ [a_2]).map encGAtom)) (len:=(([] ++ (d_1.take k_48.toNat)) ++ [a_2]).length) rfl rfl (apoc (enc:=encGAtom) ([] ++ (d_1.take k_48.toNat)) [a_2] _ (by rfl)) (by simp <;> omega) g66 rfl rfl) (.inr ⟨(ag_sld (enc:=encGAtom) rfl rfl g64.1 g64.2),trivial⟩) trivial ?_
     refine s_dol (o_appendw (j:=5) (L:=(((([] ++ (d_1.take k_48.toNat)) ++ [a_2]) ++ (d_1.drop k_48.toNat)).map encGAtom)) (len:=((([] ++ (d_1.take k_48.toNat)) ++ [a_2]) ++ (d_1.drop k_48.toNat)).length) rfl rfl (apl (enc:=encGAtom) (([] ++ (d_1.take k_48.toNat)) ++ [a_2]) (d_1.drop k_48.toNat)) (by simp <;> omega) g67 rfl rfl) trivial trivial ?_
     refine s_mov (.own 5 0 (((([] ++ (d_1.take k_48.toNat)) ++ [a_2]) ++ (d_1.drop k_48.toNat)).length)) rfl<|dk<|w_ret<|?_;obtain rfl:=os hf;exact r_weak ⟨trivial,trivial⟩ rfl (.of_eq (congrArg (AV.lst _) (tko (enc:=encGAtom) ((([] ++ (d_1.take k_48.toNat)) ++ [a_2]) ++ (d_1.drop k_48.toNat)))))

/- spec.l03Put -/
def c93_h0:ACode :=
 (.seq (.reg (tq 3 (.box 3 (.t 1)) (tm 4 (.c .nil) .done)))
 (.seq (.seq (.reg (tm 6 (.t 0) (tq 7 (.load 3 true (.t 3)) (tq 8 (.call 116 [(.t 6),(.t 7)]) .done))))
 (.cond (.t 8) (.seq (.reg (tm 9 (.t 0) (tm 4 (.t 9) .done)))
 .ret)
 .skip))
 (.seq (.reg (tm 10 (.t 0) (tq 11 (.len (.t 10)) (tm 5 (.t 11) .done))))
 (.seq (.block 0 (.loop (.seq (.seq (.reg (tm 12 (.t 5) (tq 13 (.bin .gtr (.t 12) (.c (.int .i64 0))) (tm 14 (.t 13) (tg 15 14 true (.mov (.t 0)) (tg 16 14 true (.mov (.t 5)) (tg 17 14 true (.bin .sub (.t 16) (.c (.int .i64 1))) (tg 18 14 true (.iaddr 3 (.t 15) (.t 17)) (tg 19 14 true (.load 3 true (.t 18)) (tg 20 14 true (.load 3 true (.t 3)) (.l ⟨(some 21),(some (14,true)),.call 115 [(.t 19),(.t 20)]⟩ []
 (tg 22 14 true (.bin .gtr (.t 21) (.c (.int .i64 0))) (tq 23 (.pick (.t 14) (.t 22) (.c (.bool false))) .done)) .non)))))))))))
 (.cut (.cond (.t 23) .skip
 (.exit 0))))
 (.block 1 (.reg (tm 24 (.t 5) (tq 25 (.bin .sub (.t 24) (.c (.int .i64 1))) (tm 5 (.t 25) .done))))))))
 (.cut (.seq (.reg (tm 27 (.t 0) (tm 28 (.t 5) (tq 29 (.slice 3 (.t 27) none (some (.t 28))) (tq 31 (.load 3 true (.t 3)) (tm 34 (.t 0) (tm 35 (.t 5) (tq 36 (.slice 3 (.t 34) (some (.t 35)) none) (.l ⟨(some 26),none,.bslice 3 []⟩ [⟨(some 36),none,.slice 3 (.t 34) (some (.t 35)) none⟩,⟨(some 31),none,.load 3 true (.t 3)⟩,⟨(some 29),none,.slice 3 (.t 27) none (some (.t 28))⟩]
 (.l ⟨(some 30),none,.append 3 32 (.t 26) (.t 29)⟩ [⟨(some 36),none,.slice 3 (.t 34) (some (.t 35)) none⟩,⟨(some 31),none,.load 3 true (.t 3)⟩]
 (.l ⟨(some 32),none,.bslice 3 [(.t 31)]⟩ [⟨(some 36),none,.slice 3 (.t 34) (some (.t 35)) none⟩,⟨(some 29),none,.slice 3 (.t 27) none (some (.t 28))⟩]
 (.l ⟨(some 33),none,.append 3 32 (.t 30) (.t 32)⟩ [⟨(some 36),none,.slice 3 (.t 34) (some (.t 35)) none⟩]
 (.l ⟨(some 37),none,.append 3 32 (.t 33) (.t 36)⟩ []
 (tm 4 (.t 37) .done) .non) .non) .non) (.l ⟨(some 32),none,.bslice 3 [(.t 31)]⟩ [⟨(some 36),none,.slice 3 (.t 34) (some (.t 35)) none⟩,⟨(some 29),none,.slice 3 (.t 27) none (some (.t 28))⟩]
 (.l ⟨(some 30),none,.append 3 32 (.t 26) (.t 29)⟩ [⟨(some 36),none,.slice 3 (.t 34) (some (.t 35)) none⟩,⟨(some 31),none,.load 3 true (.t 3)⟩]
 (.l ⟨(some 33),none,.append 3 32 (.t 30) (.t 32)⟩ [⟨(some 36),none,.slice 3 (.t 34) (some (.t 35)) none⟩]
 (.l ⟨(some 37),none,.append 3 32 (.t 33) (.t 36)⟩ []
 (tm 4 (.t 37) .done) .non) .non) .non) .non)) (.l ⟨(some 32),none,.bslice 3 [(.t 31)]⟩ [⟨(some 36),none,.slice 3 (.t 34) (some (.t 35)) none⟩,⟨(some 29),none,.slice 3 (.t 27) none (some (.t 28))⟩]
 (.l ⟨(some 26),none,.bslice 3 []⟩ [⟨(some 36),none,.slice 3 (.t 34) (some (.t 35)) none⟩,⟨(some 31),none,.load 3 true (.t 3)⟩,⟨(some 29),none,.slice 3 (.t 27) none (some (.t 28))⟩]
 (.l ⟨(some 30),none,.append 3 32 (.t 26) (.t 29)⟩ [⟨(some 36),none,.slice 3 (.t 34) (some (.t 35)) none⟩,⟨(some 31),none,.load 3 true (.t 3)⟩]
 (.l ⟨(some 33),none,.append 3 32 (.t 30) (.t 32)⟩ [⟨(some 36),none,.slice 3 (.t 34) (some (.t 35)) none⟩]
 (.l ⟨(some 37),none,.append 3 32 (.t 33) (.t 36)⟩ []
 (tm 4 (.t 37) .done) .non) .non) .non) .non) .non))))))))))
 .ret))))))
theorem fc93_h0:fcomp Try.prog Try.f93 = some (c93_h0.erase,[.mov (.t 4)],38):=by kernel_rfl
def spec_l03Put_h0_L1 (d_1:(List GAtom)) (a_2:GAtom):Nat → Int → Option Int
  | 0,_ => none
  | k + 1,k_38 =>
    ((if (decide (k_38 > 0)) then
    if (0:Int) ≤ w64 (k_38 - 1) ∧ w64 (k_38 - 1) < (d_1.length:Int) then
    (d_1[(0 + (w64 (k_38 - 1)).toNat)]?).bind fun x_66 =>
    (spec_l03Order x_66 a_2).bind fun r_68 =>
    some (decide (r_68 > 0))
    else none
    else
    some false:Option Bool)).bind fun s23_62 =>
    if s23_62 then
    spec_l03Put_h0_L1 d_1 a_2 k (w64 (k_38 - 1))
    else
    some k_38

def spec_l03Put_h0 (d_1:(List GAtom)) (a_2:GAtom):Option (List GAtom) :=
    (spec_l03Has d_1 a_2).bind fun r_3 =>
    if r_3 then
    some d_1
    else
    (spec_l03Put_h0_L1 d_1 a_2 FUEL (d_1.length:Int)).bind fun k_54 =>
    if (0:Int) ≤ k_54 ∧ k_54 ≤ (d_1.length:Int) then
    if (0:Int) ≤ k_54 ∧ k_54 ≤ (d_1.length:Int) then
    if ([] ++ (d_1.take k_54.toNat)).length ≤ 2 ^ 30 then
    if (([] ++ (d_1.take k_54.toNat)) ++ [a_2]).length ≤ 2 ^ 30 then
    if ((([] ++ (d_1.take k_54.toNat)) ++ [a_2]) ++ ((d_1.drop k_54.toNat).take (d_1.length - k_54.toNat))).length ≤ 2 ^ 30 then
    some ((([] ++ (d_1.take k_54.toNat)) ++ [a_2]) ++ ((d_1.drop k_54.toNat).take (d_1.length - k_54.toNat)))
    else none
    else none
    else none
    else none
    else none
theorem w_spec_l03Put_h0 (d_1:(List GAtom)) (a_2:GAtom) (r:(List GAtom)) (hf:spec_l03Put_h0 d_1 a_2 = some r):CallHeap Try.prog true 93 [(.own 0 0 d_1.length),(encGAtom a_2)] [.row 3 (d_1.map encGAtom)] (.own 1 0 r.length) [.dead,.row 3 (r.map encGAtom)]:=by
 refine CallHeap.of_awp mixed Try.func93 fc93_h0 nle ?_;rw [argT_eq];unfold spec_l03Put_h0 at hf;unfold c93_h0;refine (show awp Try.prog true 1 _ (ofL [(0,(.own 0 0 d_1.length)),(1,(encGAtom a_2))]) [.row 3 (d_1.map encGAtom)] _ from ?_);refine sr<|s_do (o_box (j:=1) (c:=(.agg [(.int .i64 a_2.Kind),(.int .i64 a_2.N),(.str a_2.T)])) rfl trivial rfl rfl)<|s_mov .nil rfl<|dk<|awp_seq<|sr<|?_
 obtain ⟨r_3,er4,hf⟩:=ob hf
 refine s_mov (.own 0 0 d_1.length) rfl<|s_q (.agg [(.int .i64 a_2.Kind),(.int .i64 a_2.N),(.str a_2.T)]) rfl nle rfl<|s_do (o_call (w_spec_l03Has _ _ _ er4) rfl (.cons (.of_eq (congrArg (AV.lst _) (tko d_1))) (.cons (.refl _) .nil)) rfl)<|dk<|?_
 rcases oi hf with ⟨c5,hf⟩ | ⟨c5,hf⟩
 ·refine w_condt rfl c5<|sr<|s_mov (.own 0 0 d_1.length) rfl<|s_mov (.own 0 0 d_1.length) rfl<|dk<|w_ret<|?_;obtain rfl:=os hf;exact r_heap [.mv 0] [0,2] rfl ⟨trivial,trivial⟩ rfl (.refl _) (.refl _)
 ·refine w_condf rfl (bf c5)<|w_skip<|k_seq<|sr<|s_mov (.own 0 0 d_1.length) rfl<|s_dof (o_lenown rfl rfl) fun hl6 => s_mov (.int .i64 (d_1.length:Int)) rfl<|dk<|awp_seq<|?_
  obtain ⟨k_54,hb1,hf⟩:=ob hf
  refine awp_cut ([(0,(.own 0 0 d_1.length)),(3,(.ptr 1 0 0)),(5,(.int .i64 k_54))],[.row 3 (d_1.map encGAtom),.box 3 (.agg [(.int .i64 a_2.Kind),(.int .i64 a_2.N),(.str a_2.T)])]) ?_ ?_
  ·refine awp_loop (X:={q:(Nat × Int) // spec_l03Put_h0_L1 d_1 a_2 q.1 q.2 = some k_54}) (fun q => ([(0,(.own 0 0 d_1.length)),(3,(.ptr 1 0 0)),(5,(.int .i64 q.1.2))],[.row 3 (d_1.map encGAtom),.box 3 (.agg [(.int .i64 a_2.Kind),(.int .i64 a_2.N),(.str a_2.T)])])) (fun q => q.1.1) ⟨(FUEL,(d_1.length:Int)),hb1⟩ ⟨[],[0,1],_,_,rfl,rfl,⟨.refl _,⟨.refl _,⟨.refl _,trivial⟩⟩⟩,(.refl _)⟩ ?_
   rintro ⟨⟨k,k_38⟩,hc1⟩
   have hc1:spec_l03Put_h0_L1 d_1 a_2 k k_38 = some k_54:=hc1
   refine (show awp Try.prog true 1 _ (ofL [(0,(.own 0 0 d_1.length)),(3,(.ptr 1 0 0)),(5,(.int .i64 k_38))]) [.row 3 (d_1.map encGAtom),.box 3 (.agg [(.int .i64 a_2.Kind),(.int .i64 a_2.N),(.str a_2.T)])] _ from ?_)
   rcases k with _ | k
   ·rw [spec_l03Put_h0_L1.eq_1] at hc1
    cases hc1
   ·rw [spec_l03Put_h0_L1.eq_2] at hc1;refine awp_seq<|awp_seq<|?_
    obtain ⟨s23_62,hb2,hc1⟩:=ob hc1
    refine awp_cut ([(0,(.own 0 0 d_1.length)),(3,(.ptr 1 0 0)),(5,(.int .i64 k_38)),(23,(.bool s23_62))],[.row 3 (d_1.map encGAtom),.box 3 (.agg [(.int .i64 a_2.Kind),(.int .i64 a_2.N),(.str a_2.T)])]) ?_ ?_
    ·refine w_reg ?_
     rcases oi hb2 with ⟨c64,hb2⟩ | ⟨c64,hb2⟩
     ·obtain ⟨g65,hb2⟩:=og hb2
      obtain ⟨x_66,ex67,hb2⟩:=ob hb2
      obtain ⟨r_68,er69,hb2⟩:=ob hb2
      refine s_mov (.int .i64 k_38) rfl<|s_q (.bool (decide (k_38 > 0))) rfl rfl rfl<|s_mov (.bool (decide (k_38 > 0))) rfl<|s_lit (s:=14) (b:=true) rfl c64<|s_on rfl<|s_mov (.own 0 0 d_1.length) rfl<|s_on rfl<|s_mov (.int .i64 k_38) rfl<|s_on rfl<|s_q (.int .i64 (w64 (k_38 - 1))) rfl rfl rfl<|s_on rfl<|s_do (o_iaddrown rfl rfl g65.1 g65.2 rfl rfl)<|s_on rfl<|s_do (o_loadrow (enc:=encGAtom) (v:=(encGAtom x_66)) rfl rfl ex67 nle rfl)<|s_on rfl<|s_q (.agg [(.int .i64 a_2.Kind),(.int .i64 a_2.N),(.str a_2.T)]) rfl nle rfl<|s_onl rfl<|s_dol (o_call (w_spec_l03Order _ _ _ er69) rfl (.refl _) rfl) a_same trivial<|s_on rfl<|s_q (.bool (decide (r_68 > 0))) rfl rfl rfl<|?_
      refine s_q (.bool (decide (r_68 > 0))) rfl trivial rfl<|w_done<|?_;obtain rfl:=os hb2;exact ⟨[],[0,1],_,_,rfl,rfl,⟨.refl _,⟨.refl _,⟨.refl _,⟨.refl _,trivial⟩⟩⟩⟩,(.refl _)⟩
     ·refine s_mov (.int .i64 k_38) rfl<|s_q (.bool (decide (k_38 > 0))) rfl rfl rfl<|s_mov (.bool (decide (k_38 > 0))) rfl<|s_lit (s:=14) (b:=false) rfl (bf c64)<|s_off rfl rfl<|s_off rfl rfl<|s_off rfl rfl<|s_off rfl rfl<|s_off rfl rfl<|s_off rfl rfl<|s_offl rfl rfl trivial<|s_off rfl rfl<|s_q (.bool false) rfl trivial rfl<|w_done<|?_;obtain rfl:=os hb2;exact ⟨[],[0,1],_,_,rfl,rfl,⟨.refl _,⟨.refl _,⟨.refl _,⟨.refl _,trivial⟩⟩⟩⟩,(.refl _)⟩
    ·rcases oi hc1 with ⟨c70,hc1⟩ | ⟨c70,hc1⟩
     ·refine w_condt rfl c70<|w_skip<|k_seq<|w_blk<|w_reg<|s_mov (.int .i64 k_38) rfl<|s_q (.int .i64 (w64 (k_38 - 1))) rfl rfl rfl<|s_mov (.int .i64 (w64 (k_38 - 1))) rfl<|w_done<|k_blk<|?_;exact k_loopn ⟨(k,w64 (k_38 - 1)),hc1⟩ (Nat.lt_succ_self _) ⟨[],[0,1],_,_,rfl,rfl,⟨.refl _,⟨.refl _,⟨.refl _,trivial⟩⟩⟩,(.refl _)⟩
     ·refine w_condf rfl (bf c70)<|w_exit<|k_seqx<|k_loopx<|k_blkx<|?_;obtain rfl:=os hc1;exact ⟨[],[0,1],_,_,rfl,rfl,⟨.refl _,⟨.refl _,⟨.refl _,trivial⟩⟩⟩,(.refl _)⟩
  ·refine sr<|?_
   obtain ⟨g71,hf⟩:=og hf
   obtain ⟨g72,hf⟩:=og hf
   obtain ⟨g73,hf⟩:=og hf
   obtain ⟨g74,hf⟩:=og hf
   obtain ⟨g75,hf⟩:=og hf
   refine s_mov (.own 0 0 d_1.length) rfl<|s_mov (.int .i64 k_54) rfl<|s_do (o_slto rfl rfl rfl g71.1 g71.2)<|s_q (.agg [(.int .i64 a_2.Kind),(.int .i64 a_2.N),(.str a_2.T)]) rfl nle rfl<|s_mov (.own 0 0 d_1.length) rfl<|s_mov (.int .i64 k_54) rfl<|s_do (o_sldo rfl rfl rfl g72.1 g72.2)<|?_;refine s_dol (o_bslice (j:=2) (as':=[]) rfl (fun _ => by decide) trivial (.refl _) rfl rfl rfl) (.inr ⟨(ag_sldo rfl rfl rfl g72.1 g72.2),⟨⟨nle,rfl⟩,⟨(ag_slto rfl rfl rfl g71.1 g71.2),trivial⟩⟩⟩) ?_ ?_
   ·refine s_dol (o_bslice (j:=2) (as':=[(encGAtom a_2)]) rfl (fun _ => by decide) ⟨rfl,trivial⟩ (.refl _) rfl rfl rfl) (.inr ⟨(ag_sldo rfl rfl rfl g72.1 g72.2),⟨(ag_slto rfl rfl rfl g71.1 g71.2),trivial⟩⟩) trivial ?_;refine s_dol (o_bslice (j:=3) (as':=[]) rfl (fun _ => by decide) trivial (.refl _) rfl rfl rfl) (.inr ⟨(ag_sldo rfl rfl rfl g72.1 g72.2),⟨⟨nle,rfl⟩,⟨(ag_slto rfl rfl rfl g71.1 g71.2),trivial⟩⟩⟩) trivial ?_
    refine s_dol (o_appendd (j:=4) (L:=(([] ++ (d_1.take k_54.toNat)).map encGAtom)) (len:=([] ++ (d_1.take k_54.toNat)).length) rfl false rfl rfl (fun _ => flw (enc:=encGAtom) (fun _ => rfl) d_1 _ _) (fun _ _ h => (ownl (show AV.own _ _ _ = AV.lst _ _ from h)).elim) (by decide) ((by simp)) (by simp <;> omega) g73 rfl rfl) (.inr ⟨(ag_sldo rfl rfl rfl g72.1 g72.2),⟨⟨nle,rfl⟩,trivial⟩⟩) trivial ?_
    refine s_dol (o_appendd (j:=5) (L:=((([] ++ (d_1.take k_54.toNat)) ++ [a_2]).map encGAtom)) (len:=(([] ++ (d_1.take k_54.toNat)) ++ [a_2]).length) rfl false rfl rfl (fun _ => flo (enc:=encGAtom) (fun _ => rfl) [a_2] _) (fun _ _ h => (ownl (show AV.own _ _ _ = AV.lst _ _ from h)).elim) (by decide) (apoc (enc:=encGAtom) ([] ++ (d_1.take k_54.toNat)) [a_2] _ (by rfl)) (by simp <;> omega) g74 rfl rfl) (.inr ⟨(ag_sldo rfl rfl rfl g72.1 g72.2),trivial⟩) trivial ?_
    refine s_dol (o_appendd (j:=6) (L:=(((([] ++ (d_1.take k_54.toNat)) ++ [a_2]) ++ ((d_1.drop k_54.toNat).take (d_1.length - k_54.toNat))).map encGAtom)) (len:=((([] ++ (d_1.take k_54.toNat)) ++ [a_2]) ++ ((d_1.drop k_54.toNat).take (d_1.length - k_54.toNat))).length) rfl false rfl rfl (fun _ => flw (enc:=encGAtom) (fun _ => rfl) d_1 _ _) (fun _ _ h => (ownl (show AV.own _ _ _ = AV.lst _ _ from h)).elim) (by decide) ((apg (enc:=encGAtom) (([] ++ (d_1.take k_54.toNat)) ++ [a_2]) ((d_1.drop k_54.toNat).take (d_1.length - k_54.toNat)) (tkw _ _ _))) (by simp <;> omega) g75 rfl rfl) trivial trivial ?_
    refine s_mov (.own 6 0 (((([] ++ (d_1.take k_54.toNat)) ++ [a_2]) ++ ((d_1.drop k_54.toNat).take (d_1.length - k_54.toNat))).length)) rfl<|dk<|w_ret<|?_;obtain rfl:=os hf;exact r_heap [.kill 0] [0,6] rfl ⟨trivial,trivial⟩ rfl (.refl _) (.refl _)
   ·refine s_dol (o_appendd (j:=3) (L:=(([] ++ (d_1.take k_54.toNat)).map encGAtom)) (len:=([] ++ (d_1.take k_54.toNat)).length) rfl false rfl rfl (fun _ => flw (enc:=encGAtom) (fun _ => rfl) d_1 _ _) (fun _ _ h => (ownl (show AV.own _ _ _ = AV.lst _ _ from h)).elim) (by decide) ((by simp)) (by simp <;> omega) g73 rfl rfl) (.inr ⟨(ag_sldo rfl rfl rfl g72.1 g72.2),⟨⟨nle,rfl⟩,trivial⟩⟩) ?_ ?_
    ·refine s_dol (o_bslice (j:=3) (as':=[(encGAtom a_2)]) rfl (fun _ => by decide) ⟨rfl,trivial⟩ (.refl _) rfl rfl rfl) (.inr ⟨(ag_sldo rfl rfl rfl g72.1 g72.2),⟨(ag_slto rfl rfl rfl g71.1 g71.2),trivial⟩⟩) trivial ?_
     refine s_dol (o_appendd (j:=4) (L:=(([] ++ (d_1.take k_54.toNat)).map encGAtom)) (len:=([] ++ (d_1.take k_54.toNat)).length) rfl false rfl rfl (fun _ => flw (enc:=encGAtom) (fun _ => rfl) d_1 _ _) (fun _ _ h => (ownl (show AV.own _ _ _ = AV.lst _ _ from h)).elim) (by decide) ((by simp)) (by simp <;> omega) g73 rfl rfl) (.inr ⟨(ag_sldo rfl rfl rfl g72.1 g72.2),⟨⟨nle,rfl⟩,trivial⟩⟩) trivial ?_
     refine s_dol (o_appendd (j:=5) (L:=((([] ++ (d_1.take k_54.toNat)) ++ [a_2]).map encGAtom)) (len:=(([] ++ (d_1.take k_54.toNat)) ++ [a_2]).length) rfl false rfl rfl (fun _ => flo (enc:=encGAtom) (fun _ => rfl) [a_2] _) (fun _ _ h => (ownl (show AV.own _ _ _ = AV.lst _ _ from h)).elim) (by decide) (apoc (enc:=encGAtom) ([] ++ (d_1.take k_54.toNat)) [a_2] _ (by rfl)) (by simp <;> omega) g74 rfl rfl) (.inr ⟨(ag_sldo rfl rfl rfl g72.1 g72.2),trivial⟩) trivial ?_
     refine s_dol (o_appendd (j:=6) (L:=(((([] ++ (d_1.take k_54.toNat)) ++ [a_2]) ++ ((d_1.drop k_54.toNat).take (d_1.length - k_54.toNat))).map encGAtom)) (len:=((([] ++ (d_1.take k_54.toNat)) ++ [a_2]) ++ ((d_1.drop k_54.toNat).take (d_1.length - k_54.toNat))).length) rfl false rfl rfl (fun _ => flw (enc:=encGAtom) (fun _ => rfl) d_1 _ _) (fun _ _ h => (ownl (show AV.own _ _ _ = AV.lst _ _ from h)).elim) (by decide) ((apg (enc:=encGAtom) (([] ++ (d_1.take k_54.toNat)) ++ [a_2]) ((d_1.drop k_54.toNat).take (d_1.length - k_54.toNat)) (tkw _ _ _))) (by simp <;> omega) g75 rfl rfl) trivial trivial ?_
     refine s_mov (.own 6 0 (((([] ++ (d_1.take k_54.toNat)) ++ [a_2]) ++ ((d_1.drop k_54.toNat).take (d_1.length - k_54.toNat))).length)) rfl<|dk<|w_ret<|?_;obtain rfl:=os hf;exact r_heap [.kill 0] [0,6] rfl ⟨trivial,trivial⟩ rfl (.refl _) (.refl _)
    ·refine s_dol (o_bslice (j:=4) (as':=[(encGAtom a_2)]) rfl (fun _ => by decide) ⟨rfl,trivial⟩ (.refl _) rfl rfl rfl) (.inr ⟨(ag_sldo rfl rfl rfl g72.1 g72.2),⟨(ag_slto rfl rfl rfl g71.1 g71.2),trivial⟩⟩) trivial ?_
     refine s_dol (o_appendd (j:=5) (L:=((([] ++ (d_1.take k_54.toNat)) ++ [a_2]).map encGAtom)) (len:=(([] ++ (d_1.take k_54.toNat)) ++ [a_2]).length) rfl false rfl rfl (fun _ => flo (enc:=encGAtom) (fun _ => rfl) [a_2] _) (fun _ _ h => (ownl (show AV.own _ _ _ = AV.lst _ _ from h)).elim) (by decide) (apoc (enc:=encGAtom) ([] ++ (d_1.take k_54.toNat)) [a_2] _ (by rfl)) (by simp <;> omega) g74 rfl rfl) (.inr ⟨(ag_sldo rfl rfl rfl g72.1 g72.2),trivial⟩) trivial ?_
     refine s_dol (o_appendd (j:=6) (L:=(((([] ++ (d_1.take k_54.toNat)) ++ [a_2]) ++ ((d_1.drop k_54.toNat).take (d_1.length - k_54.toNat))).map encGAtom)) (len:=((([] ++ (d_1.take k_54.toNat)) ++ [a_2]) ++ ((d_1.drop k_54.toNat).take (d_1.length - k_54.toNat))).length) rfl false rfl rfl (fun _ => flw (enc:=encGAtom) (fun _ => rfl) d_1 _ _) (fun _ _ h => (ownl (show AV.own _ _ _ = AV.lst _ _ from h)).elim) (by decide) ((apg (enc:=encGAtom) (([] ++ (d_1.take k_54.toNat)) ++ [a_2]) ((d_1.drop k_54.toNat).take (d_1.length - k_54.toNat)) (tkw _ _ _))) (by simp <;> omega) g75 rfl rfl) trivial trivial ?_
     refine s_mov (.own 6 0 (((([] ++ (d_1.take k_54.toNat)) ++ [a_2]) ++ ((d_1.drop k_54.toNat).take (d_1.length - k_54.toNat))).length)) rfl<|dk<|w_ret<|?_;obtain rfl:=os hf;exact r_heap [.kill 0] [0,6] rfl ⟨trivial,trivial⟩ rfl (.refl _) (.refl _)

/- (*spec.l00Src).datum -/
def c53_h0:ACode :=
 (.seq (.reg (tm 4 (.c .nil) .done))
 (.seq (.reg (tq 7 (.bslice 3 []) (tm 5 (.t 7) .done)))
 (.seq (.seq (.reg (tm 8 (.t 0) (tq 9 (.call 28 [(.t 8),(.c (.int .i64 5))]) (tm 6 (.t 9) .done))))
 (.block 0 (.loop (.seq (.seq (.reg (tm 10 (.t 6) (tq 11 (.bin .gtr (.t 10) (.c (.int .i64 0))) .done)))
 (.cond (.t 11) .skip
 (.exit 0)))
 (.seq (.block 1 (.reg (tm 14 (.t 5) (tm 15 (.t 0) (tm 16 (.t 1) (tq 17 (.call 29 [(.t 15),(.t 16)]) (tq 18 (.call 93 [(.t 14),(.t 17)]) (tm 5 (.t 18) .done))))))))
 (.reg (tm 12 (.t 6) (tq 13 (.bin .sub (.t 12) (.c (.int .i64 1))) (tm 6 (.t 13) .done)))))))))
 (.cut (.seq (.reg (tm 19 (.t 5) (tm 4 (.t 19) .done)))
 .ret)))))
theorem fc53_h0:fcomp Try.prog Try.f53 = some (c53_h0.erase,[.mov (.t 4)],20):=by kernel_rfl
def spec_l00Src_datum_L1 (kind_1:Int):Nat → Int → (List Int) → Int → Int → (List GAtom) → Option ((List Int) × Int × Int × (List GAtom))
  | 0,_,_,_,_,_ => none
  | k + 1,i_20,x_21,x_22,x_23,out_24 =>
    if (decide (i_20 > 0)) then
    (spec_l00Src_atom kind_1 (⟨x_21,x_22,x_23⟩:GL00Src)).bind fun r_36 =>
    (spec_l03Put_h0 out_24 r_36.1).bind fun r_38 =>
    spec_l00Src_datum_L1 kind_1 k (w64 (i_20 - 1)) r_36.2.Code r_36.2.At r_36.2.Seed r_38
    else
    some (x_21,x_22,x_23,out_24)

def spec_l00Src_datum (kind_1:Int) (s_2:GL00Src):Option ((List GAtom) × GL00Src) :=
    (spec_l00Src_next 5 s_2).bind fun r_3 =>
    (spec_l00Src_datum_L1 kind_1 FUEL r_3.1 r_3.2.Code r_3.2.At r_3.2.Seed []).bind fun p34 =>
    (match p34 with
    | (x_30,x_31,x_32,out_33) =>
    some (out_33,(⟨x_30,x_31,x_32⟩:GL00Src)))
theorem w_spec_l00Src_datum (kind_1:Int) (s_2:GL00Src) (r:((List GAtom) × GL00Src)) (hf:spec_l00Src_datum kind_1 s_2 = some r):CallHeap Try.prog true 53 [(.ptr 0 0 0),(.int .i64 kind_1)] [.box 3 (.agg [(.lst 1 (s_2.Code.map enc_u8)),(.int .i64 s_2.At),(.int .i64 s_2.Seed)])] (.own 1 0 r.1.length) [.box 3 (.agg [(.lst 1 (r.2.Code.map enc_u8)),(.int .i64 r.2.At),(.int .i64 r.2.Seed)]),.row 3 (r.1.map encGAtom)]:=by
 refine CallHeap.of_awp mixed Try.func53 fc53_h0 nle ?_;rw [argT_eq];unfold spec_l00Src_datum at hf;unfold c53_h0;refine (show awp Try.prog true 1 _ (ofL [(0,(.ptr 0 0 0)),(1,(.int .i64 kind_1))]) [.box 3 (.agg [(.lst 1 (s_2.Code.map enc_u8)),(.int .i64 s_2.At),(.int .i64 s_2.Seed)])] _ from ?_);refine sr<|s_mov .nil rfl<|dk<|sr<|?_;refine s_do (o_bslice (j:=1) (as':=[]) rfl (fun _ => by decide) trivial (.refl _) rfl rfl rfl) ?_;refine s_mov (.own 1 0 0) rfl<|dk<|awp_seq<|sr<|?_
 obtain ⟨r_3,er4,hf⟩:=ob hf
 refine s_mov (.ptr 0 0 0) rfl ?_;refine s_do (o_callh (v:=(.int .i64 r_3.1)) (h2:=[.box 3 (.agg [(.lst 1 (r_3.2.Code.map enc_u8)),(.int .i64 r_3.2.At),(.int .i64 r_3.2.Seed)]),.row 3 ([].map encGAtom)]) [] [0] (fun _ => rfl) (w_spec_l00Src_next _ _ _ er4) rfl (.refl _) (.refl _) rfl rfl) ?_;refine s_mov (.int .i64 r_3.1) rfl<|dk<|?_
 obtain ⟨p34,hb1,hf⟩:=ob hf
 refine awp_cut ([(5,(.own 1 0 p34.2.2.2.length))],[.box 3 (.agg [(.lst 1 (p34.1.map enc_u8)),(.int .i64 p34.2.1),(.int .i64 p34.2.2.1)]),.row 3 (p34.2.2.2.map encGAtom)]) ?_ ?_
 ·refine awp_loop (X:={q:(Nat × Int × (List Int) × Int × Int × (List GAtom)) // spec_l00Src_datum_L1 kind_1 q.1 q.2.1 q.2.2.1 q.2.2.2.1 q.2.2.2.2.1 q.2.2.2.2.2 = some p34}) (fun q => ([(0,(.ptr 0 0 0)),(1,(.int .i64 kind_1)),(5,(.own 1 0 q.1.2.2.2.2.2.length)),(6,(.int .i64 q.1.2.1))],[.box 3 (.agg [(.lst 1 (q.1.2.2.1.map enc_u8)),(.int .i64 q.1.2.2.2.1),(.int .i64 q.1.2.2.2.2.1)]),.row 3 (q.1.2.2.2.2.2.map encGAtom)])) (fun q => q.1.1) ⟨(FUEL,r_3.1,r_3.2.Code,r_3.2.At,r_3.2.Seed,[]),hb1⟩ ⟨[],[0,1],_,_,rfl,rfl,⟨.refl _,⟨.refl _,⟨.of_eq (congrArg (AV.own _ 0) (by simp)),⟨.refl _,trivial⟩⟩⟩⟩,(.refl _)⟩ ?_
  rintro ⟨⟨k,i_20,x_21,x_22,x_23,out_24⟩,hc1⟩
  have hc1:spec_l00Src_datum_L1 kind_1 k i_20 x_21 x_22 x_23 out_24 = some p34:=hc1
  refine (show awp Try.prog true 1 _ (ofL [(0,(.ptr 0 0 0)),(1,(.int .i64 kind_1)),(5,(.own 1 0 out_24.length)),(6,(.int .i64 i_20))]) [.box 3 (.agg [(.lst 1 (x_21.map enc_u8)),(.int .i64 x_22),(.int .i64 x_23)]),.row 3 (out_24.map encGAtom)] _ from ?_)
  rcases k with _ | k
  ·rw [spec_l00Src_datum_L1.eq_1] at hc1
   cases hc1
  ·rw [spec_l00Src_datum_L1.eq_2] at hc1;refine awp_seq<|sr<|s_mov (.int .i64 i_20) rfl<|s_q (.bool (decide (i_20 > 0))) rfl rfl rfl<|dk<|?_
   rcases oi hc1 with ⟨c35,hc1⟩ | ⟨c35,hc1⟩
   ·refine w_condt rfl c35<|w_skip<|k_seq<|awp_seq<|w_blk<|w_reg<|?_
    obtain ⟨r_36,er37,hc1⟩:=ob hc1
    obtain ⟨r_38,er39,hc1⟩:=ob hc1
    refine s_mov (.own 1 0 out_24.length) rfl<|s_mov (.ptr 0 0 0) rfl<|s_mov (.int .i64 kind_1) rfl<|?_;refine s_do (o_callh (v:=(encGAtom r_36.1)) (h2:=[.box 3 (.agg [(.lst 1 (r_36.2.Code.map enc_u8)),(.int .i64 r_36.2.At),(.int .i64 r_36.2.Seed)]),.row 3 (out_24.map encGAtom)]) [] [0] (fun _ => rfl) (w_spec_l00Src_atom _ _ _ er37) rfl (.refl _) (.refl _) rfl rfl) ?_;refine s_do (o_callh (v:=(.own 2 0 r_38.length)) (h2:=[.box 3 (.agg [(.lst 1 (r_36.2.Code.map enc_u8)),(.int .i64 r_36.2.At),(.int .i64 r_36.2.Seed)]),.dead,.row 3 (r_38.map encGAtom)]) [] [1] (fun _ => rfl) (w_spec_l03Put_h0 _ _ _ er39) rfl (.refl _) (.refl _) rfl rfl) ?_;refine s_mov (.own 2 0 r_38.length) rfl<|w_done<|k_blk<|k_seq<|?_
    refine w_reg<|s_mov (.int .i64 i_20) rfl<|s_q (.int .i64 (w64 (i_20 - 1))) rfl rfl rfl<|s_mov (.int .i64 (w64 (i_20 - 1))) rfl<|w_done<|?_;exact k_loopn ⟨(k,w64 (i_20 - 1),r_36.2.Code,r_36.2.At,r_36.2.Seed,r_38),hc1⟩ (Nat.lt_succ_self _) ⟨[],[0,2],_,_,rfl,rfl,⟨.refl _,⟨.refl _,⟨.refl _,⟨.refl _,trivial⟩⟩⟩⟩,(.refl _)⟩
   ·refine w_condf rfl (bf c35)<|w_exit<|k_seqx<|k_loopx<|k_blkx<|?_;obtain rfl:=os hc1;exact ⟨[],[0,1],_,_,rfl,rfl,⟨.refl _,trivial⟩,(.refl _)⟩
 ·obtain ⟨x_30,x_31,x_32,out_33⟩:=p34
  refine sr<|s_mov (.own 1 0 out_33.length) rfl<|s_mov (.own 1 0 out_33.length) rfl<|dk<|w_ret<|?_;obtain rfl:=os hf;exact r_heap [] [0,1] rfl ⟨trivial,trivial⟩ rfl (.refl _) (.refl _)

/- spec.DatumDrawn -/
def c22:ACode :=
 (.seq (.reg (tm 4 (.c .nil) .done))
 (.seq (.reg (tm 5 (.t 0) (tq 6 (.call 27 [(.t 5)]) (tm 7 (.t 1) (tq 8 (.call 53 [(.t 6),(.t 7)]) (tm 4 (.t 8) .done))))))
 .ret))
theorem fc22:fcomp Try.prog Try.f22 = some (c22.erase,[.mov (.t 4)],9):=by kernel_rfl
def spec_DatumDrawn (code_1:(List Int)) (kind_2:Int):Option (List GAtom) :=
    (spec_l00Source code_1).bind fun r_3 =>
    (spec_l00Src_datum kind_2 r_3).bind fun r_5 =>
    some r_5.1
theorem w_spec_DatumDrawn (code_1:(List Int)) (kind_2:Int) (r:(List GAtom)) (hf:spec_DatumDrawn code_1 kind_2 = some r):CallOK Try.prog 22 .fresh [(.lst 1 (code_1.map enc_u8)),(.int .i64 kind_2)] (.lst 3 (r.map encGAtom)):=by
 refine CallOK.of_awp mixed Try.func22 fc22 nle ?_;rw [argT_eq];unfold spec_DatumDrawn at hf;unfold c22;refine (show awp Try.prog true 0 _ (ofL [(0,(.lst 1 (code_1.map enc_u8))),(1,(.int .i64 kind_2))]) [] _ from ?_);refine sr<|s_mov .nil rfl<|dk<|sr<|?_
 obtain ⟨r_3,er4,hf⟩:=ob hf
 obtain ⟨r_5,er6,hf⟩:=ob hf
 refine s_mov (.lst 1 (code_1.map enc_u8)) rfl ?_;refine s_do (o_callh (v:=(.ptr 0 0 0)) (h2:=[.box 3 (.agg [(.lst 1 (r_3.Code.map enc_u8)),(.int .i64 r_3.At),(.int .i64 r_3.Seed)])]) [] [] (fun _ => rfl) (w_spec_l00Source _ _ er4) rfl (.refl _) (.refl _) rfl rfl) ?_;refine s_mov (.int .i64 kind_2) rfl ?_;refine s_do (o_callh (v:=(.own 1 0 r_5.1.length)) (h2:=[.box 3 (.agg [(.lst 1 (r_5.2.Code.map enc_u8)),(.int .i64 r_5.2.At),(.int .i64 r_5.2.Seed)]),.row 3 (r_5.1.map encGAtom)]) [] [0] (fun _ => rfl) (w_spec_l00Src_datum _ _ _ er6) rfl (.refl _) (.refl _) rfl rfl) ?_;refine s_mov (.own 1 0 r_5.1.length) rfl<|dk<|w_ret<|?_;obtain rfl:=os hf;exact r_fresh ⟨trivial,trivial⟩ rfl (by decide) (.of_eq (congrArg (AV.lst _) (tk (enc:=encGAtom) r_5.1)))

/- impl.isList[impl.Atom] -/
def c30:ACode :=
 (.seq (.reg (tm 2 (.c (.bool false)) .done))
 (.seq (.reg (tm 3 (.t 0) (tq 4 (.len (.t 3)) (tq 5 (.bin .leq (.t 4) (.c (.int .i64 4096))) (tm 2 (.t 5) .done)))))
 .ret))
theorem fc30:fcomp Try.prog Try.f30 = some (c30.erase,[.mov (.t 2)],6):=by kernel_rfl
def impl_isList_impl_Atom (list_1:(List GAtom)):Option Bool :=
    some (decide ((list_1.length:Int) ≤ 4096))
theorem w_impl_isList_impl_Atom (list_1:(List GAtom)) (r:Bool) (hf:impl_isList_impl_Atom list_1 = some r):CallOK Try.prog 30 .flat [(.lst 3 (list_1.map encGAtom))] (.bool r):=by
  refine CallOK.of_awp mixed Try.func30 fc30 nle ?_
  rw [argT_eq]
  unfold impl_isList_impl_Atom at hf
  unfold c30
  refine (show awp Try.prog false 0 _ (ofL [(0,(.lst 3 (list_1.map encGAtom)))]) [] _ from ?_)
  refine awp_seq ?_
  refine w_reg ?_
  refine s_do (o_mov (.bool false) rfl) ?_
  refine w_done ?_
  refine k_seq ?_
  refine awp_seq ?_
  refine w_reg ?_
  refine s_do (o_mov (.lst 3 (list_1.map encGAtom)) rfl) ?_
  refine s_dof (o_len (enc:=encGAtom) rfl) fun hl2 => ?_
  refine s_do (o_q (.bool (decide ((list_1.length:Int) ≤ 4096))) rfl rfl rfl) ?_
  refine s_do (o_mov (.bool (decide ((list_1.length:Int) ≤ 4096))) rfl) ?_
  refine w_done ?_
  refine k_seq ?_
  refine w_ret ?_
  obtain rfl:=os hf
  exact r_flat ⟨trivial,trivial⟩ rfl (.refl _)

/- impl.within -/
def c69:ACode :=
 (.seq (.reg (tm 6 (.c (.bool false)) .done))
 (.seq (.reg (tm 7 (.t 0) (tm 8 (.t 1) (tq 9 (.bin .geq (.t 7) (.t 8)) (tm 10 (.t 9) (tg 11 10 true (.mov (.t 0)) (tg 12 10 true (.mov (.t 2)) (tg 13 10 true (.bin .leq (.t 11) (.t 12)) (tq 14 (.pick (.t 10) (.t 13) (.c (.bool false))) (tm 6 (.t 14) .done))))))))))
 .ret))
theorem fc69:fcomp Try.prog Try.f69 = some (c69.erase,[.mov (.t 6)],15):=by kernel_rfl
def impl_within (n_1:Int) (low_2:Int) (high_3:Int):Option Bool :=
    if (decide (n_1 ≥ low_2)) then
    some (decide (n_1 ≤ high_3))
    else
    some false
theorem w_impl_within (n_1:Int) (low_2:Int) (high_3:Int) (r:Bool) (hf:impl_within n_1 low_2 high_3 = some r):CallOK Try.prog 69 .flat [(.int .i64 n_1),(.int .i64 low_2),(.int .i64 high_3)] (.bool r):=by
 refine CallOK.of_awp mixed Try.func69 fc69 nle ?_;rw [argT_eq];unfold impl_within at hf;unfold c69;refine (show awp Try.prog false 0 _ (ofL [(0,(.int .i64 n_1)),(1,(.int .i64 low_2)),(2,(.int .i64 high_3))]) [] _ from ?_);refine sr<|s_mov (.bool false) rfl<|dk<|sr<|?_
 rcases oi hf with ⟨c4,hf⟩ | ⟨c4,hf⟩
 ·refine s_mov (.int .i64 n_1) rfl<|s_mov (.int .i64 low_2) rfl<|s_q (.bool (decide (n_1 ≥ low_2))) rfl rfl rfl<|s_mov (.bool (decide (n_1 ≥ low_2))) rfl<|s_lit (s:=10) (b:=true) rfl c4<|s_on rfl<|s_mov (.int .i64 n_1) rfl<|s_on rfl<|s_mov (.int .i64 high_3) rfl<|s_on rfl<|s_q (.bool (decide (n_1 ≤ high_3))) rfl rfl rfl<|s_q (.bool (decide (n_1 ≤ high_3))) rfl trivial rfl<|s_mov (.bool (decide (n_1 ≤ high_3))) rfl<|dk<|w_ret<|?_;obtain rfl:=os hf;exact r_flat ⟨trivial,trivial⟩ rfl (.refl _)
 ·refine s_mov (.int .i64 n_1) rfl<|s_mov (.int .i64 low_2) rfl<|s_q (.bool (decide (n_1 ≥ low_2))) rfl rfl rfl<|s_mov (.bool (decide (n_1 ≥ low_2))) rfl<|s_lit (s:=10) (b:=false) rfl (bf c4)<|s_off rfl rfl<|s_off rfl rfl<|s_off rfl rfl<|s_q (.bool false) rfl trivial rfl<|s_mov (.bool false) rfl<|dk<|w_ret<|?_;obtain rfl:=os hf;exact r_flat ⟨trivial,trivial⟩ rfl (.refl _)

/- impl.isNumber -/
def c67:ACode :=
 (.seq (.reg (tm 2 (.c (.bool false)) .done))
 (.seq (.reg (tm 3 (.t 0) (tq 4 (.call 69 [(.t 3),(.c (.int .i64 (-1000000000))),(.c (.int .i64 1000000000))]) (tm 2 (.t 4) .done))))
 .ret))
theorem fc67:fcomp Try.prog Try.f67 = some (c67.erase,[.mov (.t 2)],5):=by kernel_rfl
def impl_isNumber (n_1:Int):Option Bool :=
    (impl_within n_1 (-1000000000) 1000000000).bind fun r_2 =>
    some r_2
theorem w_impl_isNumber (n_1:Int) (r:Bool) (hf:impl_isNumber n_1 = some r):CallOK Try.prog 67 .flat [(.int .i64 n_1)] (.bool r):=by
  refine CallOK.of_awp mixed Try.func67 fc67 nle ?_
  rw [argT_eq]
  unfold impl_isNumber at hf
  unfold c67
  refine (show awp Try.prog false 0 _ (ofL [(0,(.int .i64 n_1))]) [] _ from ?_)
  refine awp_seq ?_
  refine w_reg ?_
  refine s_do (o_mov (.bool false) rfl) ?_
  refine w_done ?_
  refine k_seq ?_
  refine awp_seq ?_
  refine w_reg ?_
  obtain ⟨r_2,er3,hf⟩:=ob hf
  refine s_do (o_mov (.int .i64 n_1) rfl) ?_
  refine s_do (o_call (w_impl_within _ _ _ _ er3) rfl (.refl _) rfl) ?_
  refine s_do (o_mov (.bool r_2) rfl) ?_
  refine w_done ?_
  refine k_seq ?_
  refine w_ret ?_
  obtain rfl:=os hf
  exact r_flat ⟨trivial,trivial⟩ rfl (.refl _)

/- impl.isPlain -/
def c68:ACode :=
 (.seq (.reg (tm 2 (.c (.bool false)) .done))
 (.seq (.seq (.reg (tm 4 (.t 0) (tq 5 (.lenS (.t 4)) (tm 6 (.c (.int .i64 0)) .done))))
 (.block 0 (.loop (.seq (.reg (tq 7 (.bin .lss (.t 6) (.t 5)) .done))
 (.seq (.cond (.t 7) .skip
 (.exit 0))
 (.seq (.block 1 (.seq (.reg (tm 8 (.t 6) (tm 3 (.t 8) .done)))
 (.seq (.reg (tm 9 (.t 0) (tm 10 (.t 3) (tq 11 (.idxs (.t 9) (.t 10)) (tq 12 (.bin .lss (.t 11) (.c (.int .u8 32))) (tm 13 (.t 12) (tg 14 13 false (.mov (.t 0)) (tg 15 13 false (.mov (.t 3)) (tg 16 13 false (.idxs (.t 14) (.t 15)) (tg 17 13 false (.bin .gtr (.t 16) (.c (.int .u8 126))) (tq 18 (.pick (.t 13) (.c (.bool true)) (.t 17)) .done)))))))))))
 (.cut (.cond (.t 18) (.seq (.reg (tm 2 (.c (.bool false)) .done))
 .ret)
 .skip)))))
 (.reg (tq 19 (.bin .add (.t 6) (.c (.int .i64 1))) (tm 6 (.t 19) .done)))))))))
 (.cut (.seq (.reg (tm 20 (.t 0) (tq 21 (.lenS (.t 20)) (tq 22 (.bin .leq (.t 21) (.c (.int .i64 200))) (tm 2 (.t 22) .done)))))
 .ret))))
theorem fc68:fcomp Try.prog Try.f68 = some (c68.erase,[.mov (.t 2)],23):=by kernel_rfl
def impl_isPlain_L1 :List UInt8 → Option (Fl Bool Unit)
  | [] =>
    some (.go ())
  | x_54 :: xs =>
    ((if (decide ((x_54.toNat:Int) < 32)) then
    some true
    else
    some (decide ((x_54.toNat:Int) > 126)):Option Bool)).bind fun s18_56 =>
    if s18_56 then
    some (.ret false)
    else
    impl_isPlain_L1 xs 

def impl_isPlain (t_1:Str):Option Bool :=
    (impl_isPlain_L1 t_1 ).bind fun q => (match q with
    | .ret r => some r
    | .go _ =>
    some (decide ((t_1.length:Int) ≤ 200)))
theorem w_impl_isPlain (t_1:Str) (r:Bool) (hf:impl_isPlain t_1 = some r):CallOK Try.prog 68 .flat [(.str t_1)] (.bool r):=by
 refine CallOK.of_awp mixed Try.func68 fc68 nle ?_;rw [argT_eq];unfold impl_isPlain at hf;unfold c68;refine (show awp Try.prog false 0 _ (ofL [(0,(.str t_1))]) [] _ from ?_);refine sr<|s_mov (.bool false) rfl<|dk<|awp_seq<|sr<|s_mov (.str t_1) rfl<|s_dof (o_lenS rfl) fun hl2 => s_mov (.int .i64 0) rfl<|dk<|?_
 obtain ⟨p47,hb1,hf⟩:=ob hf
 refine awp_cutx (X:={q:Unit // p47 = .go q}) (fun q => ([(0,(.str t_1))],[])) ?_ ?_
 ·refine awp_loop (X:={q:Nat // impl_isPlain_L1 (t_1.drop q)  = some p47}) (fun q => ([(0,(.str t_1)),(5,(.int .i64 (t_1.length:Int))),(6,(.int .i64 (q.1:Int)))],[])) (fun q => t_1.length - q.1) ⟨0,hb1⟩ ⟨[],[],_,_,rfl,rfl,⟨.refl _,⟨.refl _,⟨.refl _,trivial⟩⟩⟩,(.refl _)⟩ ?_
  rintro ⟨s6_32,hc1⟩
  have hc1:impl_isPlain_L1 (t_1.drop s6_32)  = some p47:=hc1
  refine (show awp Try.prog false 0 _ (ofL [(0,(.str t_1)),(5,(.int .i64 (t_1.length:Int))),(6,(.int .i64 (s6_32:Int)))]) [] _ from ?_)
  rcases dropc t_1 s6_32 with ⟨hie50,hd53⟩ | ⟨hlt48,x_54,hx49,hd53⟩
  ·rw [hd53,impl_isPlain_L1.eq_1] at hc1
   have hq52:=dlf hie50
   refine sr<|s_q (.bool (decide ((s6_32:Int) < (t_1.length:Int)))) rfl rfl rfl<|dk<|awp_seq<|w_condf rfl hq52<|w_exit<|k_seqx<|k_loopx<|k_blkx<|?_;obtain rfl:=os hc1;exact k_cutn ⟨_,rfl⟩ ⟨[],[],_,_,rfl,rfl,⟨.refl _,trivial⟩,(.refl _)⟩
  ·rw [hd53,impl_isPlain_L1.eq_2] at hc1
   have hq52:=dlt hlt48
   refine sr<|s_q (.bool (decide ((s6_32:Int) < (t_1.length:Int)))) rfl rfl rfl<|dk<|awp_seq<|w_condt rfl hq52<|w_skip<|k_seq<|awp_seq<|w_blk<|sr<|s_mov (.int .i64 (s6_32:Int)) rfl<|s_mov (.int .i64 (s6_32:Int)) rfl<|dk<|awp_seq<|?_
   obtain ⟨s18_56,hb2,hc1⟩:=ob hc1
   refine awp_cut ([(0,(.str t_1)),(5,(.int .i64 (t_1.length:Int))),(6,(.int .i64 (s6_32:Int))),(18,(.bool s18_56))],[]) ?_ ?_
   ·refine w_reg ?_
    rcases oi hb2 with ⟨c58,hb2⟩ | ⟨c58,hb2⟩
    ·refine s_mov (.str t_1) rfl<|s_mov (.int .i64 (s6_32:Int)) rfl<|s_do (o_idxsn rfl rfl hx49)<|s_q (.bool (decide ((x_54.toNat:Int) < 32))) rfl rfl rfl<|s_mov (.bool (decide ((x_54.toNat:Int) < 32))) rfl<|s_lit (s:=13) (b:=true) rfl c58<|s_off rfl rfl<|s_off rfl rfl<|s_off rfl rfl<|s_off rfl rfl<|s_q (.bool true) rfl trivial rfl<|w_done<|?_;obtain rfl:=os hb2;exact ⟨[],[],_,_,rfl,rfl,⟨.refl _,⟨.refl _,⟨.refl _,⟨.refl _,trivial⟩⟩⟩⟩,(.refl _)⟩
    ·refine s_mov (.str t_1) rfl<|s_mov (.int .i64 (s6_32:Int)) rfl<|s_do (o_idxsn rfl rfl hx49)<|s_q (.bool (decide ((x_54.toNat:Int) < 32))) rfl rfl rfl<|s_mov (.bool (decide ((x_54.toNat:Int) < 32))) rfl<|s_lit (s:=13) (b:=false) rfl (bf c58)<|s_on rfl<|s_mov (.str t_1) rfl<|s_on rfl<|s_mov (.int .i64 (s6_32:Int)) rfl<|s_on rfl<|s_do (o_idxsn rfl rfl hx49)<|s_on rfl<|s_q (.bool (decide ((x_54.toNat:Int) > 126))) rfl rfl rfl<|s_q (.bool (decide ((x_54.toNat:Int) > 126))) rfl trivial rfl<|w_done<|?_;obtain rfl:=os hb2;exact ⟨[],[],_,_,rfl,rfl,⟨.refl _,⟨.refl _,⟨.refl _,⟨.refl _,trivial⟩⟩⟩⟩,(.refl _)⟩
   ·rcases oi hc1 with ⟨c59,hc1⟩ | ⟨c59,hc1⟩
    ·refine w_condt rfl c59<|sr<|s_mov (.bool false) rfl<|dk<|w_ret<|?_;obtain rfl:=os hc1;obtain rfl:=os hf;exact r_flat ⟨trivial,trivial⟩ rfl (.refl _)
    ·refine w_condf rfl (bf c59)<|w_skip<|k_blk<|k_seq<|w_reg<|s_q (.int .i64 (w64 ((s6_32:Int) + 1))) rfl rfl rfl<|s_mov (.int .i64 (w64 ((s6_32:Int) + 1))) rfl<|w_done<|?_;exact k_loopn ⟨(s6_32 + 1),hc1⟩ (mul hlt48) ⟨[],[],_,_,rfl,rfl,⟨.refl _,⟨.refl _,⟨.of_eq (congrArg (AV.int _) (w64_incr hlt48 hl2)),trivial⟩⟩⟩,(.refl _)⟩
 ·rintro ⟨_,rfl⟩
  refine sr<|s_mov (.str t_1) rfl<|s_dof (o_lenS rfl) fun hl60 => s_q (.bool (decide ((t_1.length:Int) ≤ 200))) rfl rfl rfl<|s_mov (.bool (decide ((t_1.length:Int) ≤ 200))) rfl<|dk<|w_ret<|?_;obtain rfl:=os hf;exact r_flat ⟨trivial,trivial⟩ rfl (.refl _)

/- impl.isId -/
def c36:ACode :=
 (.seq (.reg (tm 2 (.c (.bool false)) .done))
 (.seq (.reg (tm 3 (.t 0) (tq 4 (.call 69 [(.t 3),(.c (.int .i64 1)),(.c (.int .i64 1000000))]) (tm 2 (.t 4) .done))))
 .ret))
theorem fc36:fcomp Try.prog Try.f36 = some (c36.erase,[.mov (.t 2)],5):=by kernel_rfl
def impl_isId (n_1:Int):Option Bool :=
    (impl_within n_1 1 1000000).bind fun r_2 =>
    some r_2
theorem w_impl_isId (n_1:Int) (r:Bool) (hf:impl_isId n_1 = some r):CallOK Try.prog 36 .flat [(.int .i64 n_1)] (.bool r):=by
  refine CallOK.of_awp mixed Try.func36 fc36 nle ?_
  rw [argT_eq]
  unfold impl_isId at hf
  unfold c36
  refine (show awp Try.prog false 0 _ (ofL [(0,(.int .i64 n_1))]) [] _ from ?_)
  refine awp_seq ?_
  refine w_reg ?_
  refine s_do (o_mov (.bool false) rfl) ?_
  refine w_done ?_
  refine k_seq ?_
  refine awp_seq ?_
  refine w_reg ?_
  obtain ⟨r_2,er3,hf⟩:=ob hf
  refine s_do (o_mov (.int .i64 n_1) rfl) ?_
  refine s_do (o_call (w_impl_within _ _ _ _ er3) rfl (.refl _) rfl) ?_
  refine s_do (o_mov (.bool r_2) rfl) ?_
  refine w_done ?_
  refine k_seq ?_
  refine w_ret ?_
  obtain rfl:=os hf
  exact r_flat ⟨trivial,trivial⟩ rfl (.refl _)

/- impl.AtomOK -/
def c32:ACode :=
 (.seq (.reg (tq 1 (.box 3 (.t 0)) (tm 2 (.c (.bool false)) .done)))
 (.seq (.seq (.reg (tq 3 (.faddr 0 (.t 1)) (tq 4 (.load 1 false (.t 3)) .done)))
 (.block 0 (.seq (.reg (tq 6 (.bin .eql (.t 4) (.c (.int .i64 1))) (tm 5 (.t 6) .done)))
 (.cond (.t 5) (.seq (.reg (tq 7 (.faddr 1 (.t 1)) (tq 8 (.load 1 false (.t 7)) (tq 9 (.call 67 [(.t 8)]) (tm 10 (.t 9) (tg 11 10 true (.faddr 2 (.t 1)) (tg 12 10 true (.load 1 false (.t 11)) (tg 13 10 true (.bin .eql (.t 12) (.c (.str []))) (tq 14 (.pick (.t 10) (.t 13) (.c (.bool false))) (tm 2 (.t 14) .done))))))))))
 .ret)
 (.seq (.reg (tq 16 (.bin .eql (.t 4) (.c (.int .i64 2))) (tm 15 (.t 16) .done)))
 (.cond (.t 15) (.seq (.reg (tq 17 (.faddr 1 (.t 1)) (tq 18 (.load 1 false (.t 17)) (tq 19 (.bin .eql (.t 18) (.c (.int .i64 0))) (tm 20 (.t 19) (tg 21 20 true (.faddr 2 (.t 1)) (tg 22 20 true (.load 1 false (.t 21)) (tg 23 20 true (.call 68 [(.t 22)]) (tq 24 (.pick (.t 20) (.t 23) (.c (.bool false))) (tm 2 (.t 24) .done))))))))))
 .ret)
 (.seq (.reg (tq 26 (.bin .eql (.t 4) (.c (.int .i64 3))) (tm 25 (.t 26) .done)))
 (.cond (.t 25) (.seq (.reg (tq 27 (.faddr 1 (.t 1)) (tq 28 (.load 1 false (.t 27)) (tq 29 (.call 69 [(.t 28),(.c (.int .i64 0)),(.c (.int .i64 1))]) (tm 30 (.t 29) (tg 31 30 true (.faddr 2 (.t 1)) (tg 32 30 true (.load 1 false (.t 31)) (tg 33 30 true (.bin .eql (.t 32) (.c (.str []))) (tq 34 (.pick (.t 30) (.t 33) (.c (.bool false))) (tm 2 (.t 34) .done))))))))))
 .ret)
 (.seq (.reg (tq 36 (.bin .eql (.t 4) (.c (.int .i64 4))) (tm 35 (.t 36) .done)))
 (.cond (.t 35) (.seq (.reg (tq 37 (.faddr 1 (.t 1)) (tq 38 (.load 1 false (.t 37)) (tq 39 (.call 36 [(.t 38)]) (tm 40 (.t 39) (tg 41 40 true (.faddr 2 (.t 1)) (tg 42 40 true (.load 1 false (.t 41)) (tg 43 40 true (.bin .eql (.t 42) (.c (.str []))) (tq 44 (.pick (.t 40) (.t 43) (.c (.bool false))) (tm 2 (.t 44) .done))))))))))
 .ret)
 .skip))))))))))
 (.seq (.reg (tm 2 (.c (.bool false)) .done))
 .ret)))
theorem fc32:fcomp Try.prog Try.f32 = some (c32.erase,[.mov (.t 2)],45):=by kernel_rfl
def impl_AtomOK (a_1:GAtom):Option Bool :=
    if (a_1.Kind == 1) then
    (impl_isNumber a_1.N).bind fun r_3 =>
    if r_3 then
    some (a_1.T == [])
    else
    some false
    else
    if (a_1.Kind == 2) then
    if (a_1.N == 0) then
    (impl_isPlain a_1.T).bind fun r_8 =>
    some r_8
    else
    some false
    else
    if (a_1.Kind == 3) then
    (impl_within a_1.N 0 1).bind fun r_11 =>
    if r_11 then
    some (a_1.T == [])
    else
    some false
    else
    if (a_1.Kind == 4) then
    (impl_isId a_1.N).bind fun r_15 =>
    if r_15 then
    some (a_1.T == [])
    else
    some false
    else
    some false
theorem w_impl_AtomOK (a_1:GAtom) (r:Bool) (hf:impl_AtomOK a_1 = some r):CallOK Try.prog 32 .flat [(encGAtom a_1)] (.bool r):=by
 refine CallOK.of_awp mixed Try.func32 fc32 nle ?_;rw [argT_eq];unfold impl_AtomOK at hf;unfold c32;refine (show awp Try.prog false 0 _ (ofL [(0,(encGAtom a_1))]) [] _ from ?_);refine sr<|s_do (o_box (j:=0) (c:=(.agg [(.int .i64 a_1.Kind),(.int .i64 a_1.N),(.str a_1.T)])) rfl trivial rfl rfl)<|s_mov (.bool false) rfl<|dk<|awp_seq<|sr<|s_q (.ptr 0 0 0) rfl trivial rfl<|s_q (.int .i64 a_1.Kind) rfl nle rfl<|dk<|w_blk<|sr<|s_q (.bool (a_1.Kind == 1)) rfl rfl rfl<|s_mov (.bool (a_1.Kind == 1)) rfl<|dk<|?_
 rcases oi hf with ⟨c2,hf⟩ | ⟨c2,hf⟩
 ·refine w_condt rfl c2<|sr<|?_
  obtain ⟨r_3,er4,hf⟩:=ob hf
  rcases oi hf with ⟨c5,hf⟩ | ⟨c5,hf⟩
  ·refine s_q (.ptr 0 0 1) rfl trivial rfl<|s_q (.int .i64 a_1.N) rfl nle rfl<|s_do (o_call (w_impl_isNumber _ _ er4) rfl (.refl _) rfl)<|s_mov (.bool r_3) rfl<|s_lit (s:=10) (b:=true) rfl c5<|s_on rfl<|s_q (.ptr 0 0 2) rfl trivial rfl<|s_on rfl<|s_q (.str a_1.T) rfl nle rfl<|s_on rfl<|s_q (.bool (a_1.T == [])) rfl trivial rfl<|s_q (.bool (a_1.T == [])) rfl trivial rfl<|s_mov (.bool (a_1.T == [])) rfl<|dk<|w_ret<|?_;obtain rfl:=os hf;exact r_flat ⟨trivial,trivial⟩ rfl (.refl _)
  ·refine s_q (.ptr 0 0 1) rfl trivial rfl<|s_q (.int .i64 a_1.N) rfl nle rfl<|s_do (o_call (w_impl_isNumber _ _ er4) rfl (.refl _) rfl)<|s_mov (.bool r_3) rfl<|s_lit (s:=10) (b:=false) rfl (bf c5)<|s_off rfl rfl<|s_off rfl rfl<|s_off rfl rfl<|s_q (.bool false) rfl trivial rfl<|s_mov (.bool false) rfl<|dk<|w_ret<|?_;obtain rfl:=os hf;exact r_flat ⟨trivial,trivial⟩ rfl (.refl _)
 ·refine w_condf rfl (bf c2)<|sr<|s_q (.bool (a_1.Kind == 2)) rfl rfl rfl<|s_mov (.bool (a_1.Kind == 2)) rfl<|dk<|?_
  rcases oi hf with ⟨c6,hf⟩ | ⟨c6,hf⟩
  ·refine w_condt rfl c6<|sr<|?_
   rcases oi hf with ⟨c7,hf⟩ | ⟨c7,hf⟩
   ·obtain ⟨r_8,er9,hf⟩:=ob hf
    refine s_q (.ptr 0 0 1) rfl trivial rfl<|s_q (.int .i64 a_1.N) rfl nle rfl<|s_q (.bool (a_1.N == 0)) rfl rfl rfl<|s_mov (.bool (a_1.N == 0)) rfl<|s_lit (s:=20) (b:=true) rfl c7<|s_on rfl<|s_q (.ptr 0 0 2) rfl trivial rfl<|s_on rfl<|s_q (.str a_1.T) rfl nle rfl<|s_on rfl<|s_do (o_call (w_impl_isPlain _ _ er9) rfl (.refl _) rfl)<|s_q (.bool r_8) rfl trivial rfl<|s_mov (.bool r_8) rfl<|dk<|w_ret<|?_;obtain rfl:=os hf;exact r_flat ⟨trivial,trivial⟩ rfl (.refl _)
   ·refine s_q (.ptr 0 0 1) rfl trivial rfl<|s_q (.int .i64 a_1.N) rfl nle rfl<|s_q (.bool (a_1.N == 0)) rfl rfl rfl<|s_mov (.bool (a_1.N == 0)) rfl<|s_lit (s:=20) (b:=false) rfl (bf c7)<|s_off rfl rfl<|s_off rfl rfl<|s_off rfl rfl<|s_q (.bool false) rfl trivial rfl<|s_mov (.bool false) rfl<|dk<|w_ret<|?_;obtain rfl:=os hf;exact r_flat ⟨trivial,trivial⟩ rfl (.refl _)
  ·refine w_condf rfl (bf c6)<|sr<|s_q (.bool (a_1.Kind == 3)) rfl rfl rfl<|s_mov (.bool (a_1.Kind == 3)) rfl<|dk<|?_
   rcases oi hf with ⟨c10,hf⟩ | ⟨c10,hf⟩
   ·refine w_condt rfl c10<|sr<|?_
    obtain ⟨r_11,er12,hf⟩:=ob hf
    rcases oi hf with ⟨c13,hf⟩ | ⟨c13,hf⟩
    ·refine s_q (.ptr 0 0 1) rfl trivial rfl<|s_q (.int .i64 a_1.N) rfl nle rfl<|s_do (o_call (w_impl_within _ _ _ _ er12) rfl (.refl _) rfl)<|s_mov (.bool r_11) rfl<|s_lit (s:=30) (b:=true) rfl c13<|s_on rfl<|s_q (.ptr 0 0 2) rfl trivial rfl<|s_on rfl<|s_q (.str a_1.T) rfl nle rfl<|s_on rfl<|s_q (.bool (a_1.T == [])) rfl trivial rfl<|s_q (.bool (a_1.T == [])) rfl trivial rfl<|s_mov (.bool (a_1.T == [])) rfl<|dk<|w_ret<|?_;obtain rfl:=os hf;exact r_flat ⟨trivial,trivial⟩ rfl (.refl _)
    ·refine s_q (.ptr 0 0 1) rfl trivial rfl<|s_q (.int .i64 a_1.N) rfl nle rfl<|s_do (o_call (w_impl_within _ _ _ _ er12) rfl (.refl _) rfl)<|s_mov (.bool r_11) rfl<|s_lit (s:=30) (b:=false) rfl (bf c13)<|s_off rfl rfl<|s_off rfl rfl<|s_off rfl rfl<|s_q (.bool false) rfl trivial rfl<|s_mov (.bool false) rfl<|dk<|w_ret<|?_;obtain rfl:=os hf;exact r_flat ⟨trivial,trivial⟩ rfl (.refl _)
   ·refine w_condf rfl (bf c10)<|sr<|s_q (.bool (a_1.Kind == 4)) rfl rfl rfl<|s_mov (.bool (a_1.Kind == 4)) rfl<|dk<|?_
    rcases oi hf with ⟨c14,hf⟩ | ⟨c14,hf⟩
    ·refine w_condt rfl c14<|sr<|?_
     obtain ⟨r_15,er16,hf⟩:=ob hf
     rcases oi hf with ⟨c17,hf⟩ | ⟨c17,hf⟩
     ·refine s_q (.ptr 0 0 1) rfl trivial rfl<|s_q (.int .i64 a_1.N) rfl nle rfl<|s_do (o_call (w_impl_isId _ _ er16) rfl (.refl _) rfl)<|s_mov (.bool r_15) rfl<|s_lit (s:=40) (b:=true) rfl c17<|s_on rfl<|s_q (.ptr 0 0 2) rfl trivial rfl<|s_on rfl<|s_q (.str a_1.T) rfl nle rfl<|s_on rfl<|s_q (.bool (a_1.T == [])) rfl trivial rfl<|s_q (.bool (a_1.T == [])) rfl trivial rfl<|s_mov (.bool (a_1.T == [])) rfl<|dk<|w_ret<|?_;obtain rfl:=os hf;exact r_flat ⟨trivial,trivial⟩ rfl (.refl _)
     ·refine s_q (.ptr 0 0 1) rfl trivial rfl<|s_q (.int .i64 a_1.N) rfl nle rfl<|s_do (o_call (w_impl_isId _ _ er16) rfl (.refl _) rfl)<|s_mov (.bool r_15) rfl<|s_lit (s:=40) (b:=false) rfl (bf c17)<|s_off rfl rfl<|s_off rfl rfl<|s_off rfl rfl<|s_q (.bool false) rfl trivial rfl<|s_mov (.bool false) rfl<|dk<|w_ret<|?_;obtain rfl:=os hf;exact r_flat ⟨trivial,trivial⟩ rfl (.refl _)
    ·refine w_condf rfl (bf c14)<|w_skip<|k_blk<|k_seq<|sr<|s_mov (.bool false) rfl<|dk<|w_ret<|?_;obtain rfl:=os hf;exact r_flat ⟨trivial,trivial⟩ rfl (.refl _)

/- cmp.isNaN[int] -/
def c104:ACode :=
 (.seq (.reg (tm 2 (.c (.bool false)) .done))
 (.seq (.reg (tm 3 (.t 0) (tm 4 (.t 0) (tq 5 (.bin .neq (.t 3) (.t 4)) (tm 2 (.t 5) .done)))))
 .ret))
theorem fc104:fcomp Try.prog Try.f104 = some (c104.erase,[.mov (.t 2)],6):=by kernel_rfl
def cmp_isNaN_int (x_1:Int):Option Bool :=
    some (x_1 != x_1)
theorem w_cmp_isNaN_int (x_1:Int) (r:Bool) (hf:cmp_isNaN_int x_1 = some r):CallOK Try.prog 104 .flat [(.int .i64 x_1)] (.bool r):=by
  refine CallOK.of_awp mixed Try.func104 fc104 nle ?_
  rw [argT_eq]
  unfold cmp_isNaN_int at hf
  unfold c104
  refine (show awp Try.prog false 0 _ (ofL [(0,(.int .i64 x_1))]) [] _ from ?_)
  refine awp_seq ?_
  refine w_reg ?_
  refine s_do (o_mov (.bool false) rfl) ?_
  refine w_done ?_
  refine k_seq ?_
  refine awp_seq ?_
  refine w_reg ?_
  refine s_do (o_mov (.int .i64 x_1) rfl) ?_
  refine s_do (o_mov (.int .i64 x_1) rfl) ?_
  refine s_do (o_q (.bool (x_1 != x_1)) rfl rfl rfl) ?_
  refine s_do (o_mov (.bool (x_1 != x_1)) rfl) ?_
  refine w_done ?_
  refine k_seq ?_
  refine w_ret ?_
  obtain rfl:=os hf
  exact r_flat ⟨trivial,trivial⟩ rfl (.refl _)

/- cmp.Compare[int] -/
def c71:ACode :=
 (.seq (.reg (tm 4 (.c (.int .i64 0)) .done))
 (.seq (.reg (tm 7 (.t 0) (tq 8 (.call 104 [(.t 7)]) (tm 5 (.t 8) .done))))
 (.seq (.reg (tm 9 (.t 1) (tq 10 (.call 104 [(.t 9)]) (tm 6 (.t 10) .done))))
 (.seq (.seq (.reg (tm 11 (.t 5) .done))
 (.cond (.t 11) (.seq (.seq (.reg (tm 12 (.t 6) .done))
 (.cond (.t 12) (.seq (.reg (tm 4 (.c (.int .i64 0)) .done))
 .ret)
 .skip))
 (.seq (.reg (tq 4 (.mov (.c (.int .i64 (-1)))) .done))
 .ret))
 .skip))
 (.seq (.seq (.reg (tm 13 (.t 6) .done))
 (.cond (.t 13) (.seq (.reg (tm 4 (.c (.int .i64 1)) .done))
 .ret)
 .skip))
 (.seq (.seq (.reg (tm 14 (.t 0) (tm 15 (.t 1) (tq 16 (.bin .lss (.t 14) (.t 15)) .done))))
 (.cond (.t 16) (.seq (.reg (tq 4 (.mov (.c (.int .i64 (-1)))) .done))
 .ret)
 .skip))
 (.seq (.seq (.reg (tm 17 (.t 0) (tm 18 (.t 1) (tq 19 (.bin .gtr (.t 17) (.t 18)) .done))))
 (.cond (.t 19) (.seq (.reg (tm 4 (.c (.int .i64 1)) .done))
 .ret)
 .skip))
 (.seq (.reg (tm 4 (.c (.int .i64 0)) .done))
 .ret))))))))
theorem fc71:fcomp Try.prog Try.f71 = some (c71.erase,[.mov (.t 4)],20):=by kernel_rfl
def cmp_Compare_int (x_1:Int) (y_2:Int):Option Int :=
    (cmp_isNaN_int x_1).bind fun r_3 =>
    (cmp_isNaN_int y_2).bind fun r_5 =>
    if r_3 then
    if r_5 then
    some 0
    else
    some (-1)
    else
    if r_5 then
    some 1
    else
    if (decide (x_1 < y_2)) then
    some (-1)
    else
    if (decide (x_1 > y_2)) then
    some 1
    else
    some 0
theorem w_cmp_Compare_int (x_1:Int) (y_2:Int) (r:Int) (hf:cmp_Compare_int x_1 y_2 = some r):CallOK Try.prog 71 .flat [(.int .i64 x_1),(.int .i64 y_2)] (.int .i64 r):=by
 refine CallOK.of_awp mixed Try.func71 fc71 nle ?_;rw [argT_eq];unfold cmp_Compare_int at hf;unfold c71;refine (show awp Try.prog false 0 _ (ofL [(0,(.int .i64 x_1)),(1,(.int .i64 y_2))]) [] _ from ?_);refine sr<|s_mov (.int .i64 0) rfl<|dk<|sr<|?_
 obtain ⟨r_3,er4,hf⟩:=ob hf
 refine s_mov (.int .i64 x_1) rfl<|s_do (o_call (w_cmp_isNaN_int _ _ er4) rfl (.refl _) rfl)<|s_mov (.bool r_3) rfl<|dk<|sr<|?_
 obtain ⟨r_5,er6,hf⟩:=ob hf
 refine s_mov (.int .i64 y_2) rfl<|s_do (o_call (w_cmp_isNaN_int _ _ er6) rfl (.refl _) rfl)<|s_mov (.bool r_5) rfl<|dk<|awp_seq<|sr<|s_mov (.bool r_3) rfl<|dk<|?_
 rcases oi hf with ⟨c7,hf⟩ | ⟨c7,hf⟩
 ·refine w_condt rfl c7<|awp_seq<|sr<|s_mov (.bool r_5) rfl<|dk<|?_
  rcases oi hf with ⟨c8,hf⟩ | ⟨c8,hf⟩
  ·refine w_condt rfl c8<|sr<|s_mov (.int .i64 0) rfl<|dk<|w_ret<|?_;obtain rfl:=os hf;exact r_flat ⟨trivial,trivial⟩ rfl (.refl _)
  ·refine w_condf rfl (bf c8)<|w_skip<|k_seq<|sr<|s_mov (.int .i64 (-1)) rfl<|dk<|w_ret<|?_;obtain rfl:=os hf;exact r_flat ⟨trivial,trivial⟩ rfl (.refl _)
 ·refine w_condf rfl (bf c7)<|w_skip<|k_seq<|awp_seq<|sr<|s_mov (.bool r_5) rfl<|dk<|?_
  rcases oi hf with ⟨c9,hf⟩ | ⟨c9,hf⟩
  ·refine w_condt rfl c9<|sr<|s_mov (.int .i64 1) rfl<|dk<|w_ret<|?_;obtain rfl:=os hf;exact r_flat ⟨trivial,trivial⟩ rfl (.refl _)
  ·refine w_condf rfl (bf c9)<|w_skip<|k_seq<|awp_seq<|sr<|s_mov (.int .i64 x_1) rfl<|s_mov (.int .i64 y_2) rfl<|s_q (.bool (decide (x_1 < y_2))) rfl rfl rfl<|dk<|?_
   rcases oi hf with ⟨c10,hf⟩ | ⟨c10,hf⟩
   ·refine w_condt rfl c10<|sr<|s_mov (.int .i64 (-1)) rfl<|dk<|w_ret<|?_;obtain rfl:=os hf;exact r_flat ⟨trivial,trivial⟩ rfl (.refl _)
   ·refine w_condf rfl (bf c10)<|w_skip<|k_seq<|awp_seq<|sr<|s_mov (.int .i64 x_1) rfl<|s_mov (.int .i64 y_2) rfl<|s_q (.bool (decide (x_1 > y_2))) rfl rfl rfl<|dk<|?_
    rcases oi hf with ⟨c11,hf⟩ | ⟨c11,hf⟩
    ·refine w_condt rfl c11<|sr<|s_mov (.int .i64 1) rfl<|dk<|w_ret<|?_;obtain rfl:=os hf;exact r_flat ⟨trivial,trivial⟩ rfl (.refl _)
    ·refine w_condf rfl (bf c11)<|w_skip<|k_seq<|sr<|s_mov (.int .i64 0) rfl<|dk<|w_ret<|?_;obtain rfl:=os hf;exact r_flat ⟨trivial,trivial⟩ rfl (.refl _)

/- internal/bytealg.CompareString -/
def internal_bytealg_CompareString (a b:Str):Option Int:=some (Lib.compareBytes a b)
set_option maxRecDepth 100000 in
open Go.RowKit in
theorem cmps_run (a b:ByteArray) (w:World):Calls Try.prog 105 #[.string a,.string b] w fun e w' => e = .returned (.int .i64 (Lib.compareBytes a.data.toList b.data.toList)) ∧ w' = w:=by
  go_enter Try.func105,(show Try.f105.ntmps = _ from rfl)
  go_wp2
  rw [run_callFunc_extern Try.func121 (by kernel_rfl) (by kernel_rfl) (by kernel_rfl) (e:=Extern.BytealgCompare.compare) (by kernel_rfl),Lib.run_compareString]
  simp only [Result.andThen]
  rw [Oper.upon_value]
  go_wp2
  go_ret
  exact ⟨rfl,rfl⟩
open Go.RowKit in
theorem w_internal_bytealg_CompareString (a b:Str) (r:Int) (hf:internal_bytealg_CompareString a b = some r):CallOK Try.prog 105 .flat [(.str a),(.str b)] (.int .i64 r):=by
  intro w vals fps hr
  simp only [RepVs,Rep] at hr
  obtain ⟨v1,vs1,f1,f2,rfl,⟨rfl,h1,rfl⟩,⟨v2,vs2,f3,f4,rfl,⟨rfl,h2,rfl⟩,⟨rfl,rfl⟩,rfl⟩,rfl⟩:=hr
  unfold internal_bytealg_CompareString at hf
  obtain rfl:=os hf
  refine (cmps_run ⟨a.toArray⟩ ⟨b.toArray⟩ w).mono ?_
  rintro e w' ⟨rfl,rfl⟩
  refine ⟨Below.refl _ _,?_⟩
  exact ⟨[.int .i64 (Lib.compareBytes a b)],rfl,by simp [Rep]⟩

/- strings.Compare -/
def c72:ACode :=
 (.seq (.reg (tm 4 (.c (.int .i64 0)) .done))
 (.seq (.reg (tm 5 (.t 0) (tm 6 (.t 1) (tq 7 (.call 105 [(.t 5),(.t 6)]) (tm 4 (.t 7) .done)))))
 .ret))
theorem fc72:fcomp Try.prog Try.f72 = some (c72.erase,[.mov (.t 4)],8):=by kernel_rfl
def strings_Compare (a_1:Str) (b_2:Str):Option Int :=
    (internal_bytealg_CompareString a_1 b_2).bind fun r_3 =>
    some r_3
theorem w_strings_Compare (a_1:Str) (b_2:Str) (r:Int) (hf:strings_Compare a_1 b_2 = some r):CallOK Try.prog 72 .flat [(.str a_1),(.str b_2)] (.int .i64 r):=by
  refine CallOK.of_awp mixed Try.func72 fc72 nle ?_
  rw [argT_eq]
  unfold strings_Compare at hf
  unfold c72
  refine (show awp Try.prog false 0 _ (ofL [(0,(.str a_1)),(1,(.str b_2))]) [] _ from ?_)
  refine awp_seq ?_
  refine w_reg ?_
  refine s_do (o_mov (.int .i64 0) rfl) ?_
  refine w_done ?_
  refine k_seq ?_
  refine awp_seq ?_
  refine w_reg ?_
  obtain ⟨r_3,er4,hf⟩:=ob hf
  refine s_do (o_mov (.str a_1) rfl) ?_
  refine s_do (o_mov (.str b_2) rfl) ?_
  refine s_do (o_call (w_internal_bytealg_CompareString _ _ _ er4) rfl (.refl _) rfl) ?_
  refine s_do (o_mov (.int .i64 r_3) rfl) ?_
  refine w_done ?_
  refine k_seq ?_
  refine w_ret ?_
  obtain rfl:=os hf
  exact r_flat ⟨trivial,trivial⟩ rfl (.refl _)

/- cmp.Or[int] -/
def c70:ACode :=
 (.seq (.reg (tm 2 (.c (.int .i64 0)) .done))
 (.seq (.reg (tm 3 (.c (.int .i64 0)) .done))
 (.seq (.seq (.reg (tm 6 (.t 0) (tq 7 (.len (.t 6)) (tm 8 (.c (.int .i64 0)) .done))))
 (.block 0 (.loop (.seq (.reg (tq 9 (.bin .lss (.t 8) (.t 7)) .done))
 (.seq (.cond (.t 9) .skip
 (.exit 0))
 (.seq (.block 1 (.seq (.reg (tq 10 (.iaddr 1 (.t 6) (.t 8)) (tq 11 (.load 1 false (.t 10)) (tm 5 (.t 11) .done))))
 (.seq (.reg (tm 12 (.t 5) (tm 13 (.t 3) (tq 14 (.bin .neq (.t 12) (.t 13)) .done))))
 (.cond (.t 14) (.seq (.reg (tm 15 (.t 5) (tm 2 (.t 15) .done)))
 .ret)
 .skip))))
 (.reg (tq 16 (.bin .add (.t 8) (.c (.int .i64 1))) (tm 8 (.t 16) .done)))))))))
 (.cut (.seq (.reg (tm 17 (.t 3) (tm 2 (.t 17) .done)))
 .ret)))))
theorem fc70:fcomp Try.prog Try.f70 = some (c70.erase,[.mov (.t 2)],18):=by kernel_rfl
def cmp_Or_int_L1 :List Int → Option (Fl Int Unit)
  | [] =>
    some (.go ())
  | x_24 :: xs =>
    if (x_24 != 0) then
    some (.ret x_24)
    else
    cmp_Or_int_L1 xs 

def cmp_Or_int (vals_1:(List Int)):Option Int :=
    (cmp_Or_int_L1 vals_1 ).bind fun q => (match q with
    | .ret r => some r
    | .go _ =>
    some 0)
theorem w_cmp_Or_int (vals_1:(List Int)) (r:Int) (hf:cmp_Or_int vals_1 = some r):CallOK Try.prog 70 .flat [(.lst 1 (vals_1.map encI))] (.int .i64 r):=by
 refine CallOK.of_awp mixed Try.func70 fc70 nle ?_;rw [argT_eq];unfold cmp_Or_int at hf;unfold c70;refine (show awp Try.prog false 0 _ (ofL [(0,(.lst 1 (vals_1.map encI)))]) [] _ from ?_);refine sr<|s_mov (.int .i64 0) rfl<|dk<|sr<|s_mov (.int .i64 0) rfl<|dk<|awp_seq<|sr<|s_mov (.lst 1 (vals_1.map encI)) rfl<|s_dof (o_len (enc:=encI) rfl) fun hl2 => s_mov (.int .i64 0) rfl<|dk<|?_
 obtain ⟨p17,hb1,hf⟩:=ob hf
 refine awp_cutx (X:={q:Unit // p17 = .go q}) (fun q => ([(3,(.int .i64 0))],[])) ?_ ?_
 ·refine awp_loop (X:={q:Nat // cmp_Or_int_L1 (vals_1.drop q)  = some p17}) (fun q => ([(3,(.int .i64 0)),(6,(.lst 1 (vals_1.map encI))),(7,(.int .i64 (vals_1.length:Int))),(8,(.int .i64 (q.1:Int)))],[])) (fun q => vals_1.length - q.1) ⟨0,hb1⟩ ⟨[],[],_,_,rfl,rfl,⟨.refl _,⟨.refl _,⟨.refl _,⟨.refl _,trivial⟩⟩⟩⟩,(.refl _)⟩ ?_
  rintro ⟨s8_12,hc1⟩
  have hc1:cmp_Or_int_L1 (vals_1.drop s8_12)  = some p17:=hc1
  refine (show awp Try.prog false 0 _ (ofL [(3,(.int .i64 0)),(6,(.lst 1 (vals_1.map encI))),(7,(.int .i64 (vals_1.length:Int))),(8,(.int .i64 (s8_12:Int)))]) [] _ from ?_)
  rcases dropc vals_1 s8_12 with ⟨hie20,hd23⟩ | ⟨hlt18,x_24,hx19,hd23⟩
  ·rw [hd23,cmp_Or_int_L1.eq_1] at hc1
   have hq22:=dlf hie20
   refine sr<|s_q (.bool (decide ((s8_12:Int) < (vals_1.length:Int)))) rfl rfl rfl<|dk<|awp_seq<|w_condf rfl hq22<|w_exit<|k_seqx<|k_loopx<|k_blkx<|?_;obtain rfl:=os hc1;exact k_cutn ⟨_,rfl⟩ ⟨[],[],_,_,rfl,rfl,⟨.refl _,trivial⟩,(.refl _)⟩
  ·rw [hd23,cmp_Or_int_L1.eq_2] at hc1
   have hq22:=dlt hlt18
   refine sr<|s_q (.bool (decide ((s8_12:Int) < (vals_1.length:Int)))) rfl rfl rfl<|dk<|awp_seq<|w_condt rfl hq22<|w_skip<|k_seq<|awp_seq<|w_blk<|sr<|s_do (o_iaddrn (enc:=encI) rfl rfl hx19)<|s_q (.int .i64 x_24) rfl ⟨rfl,rfl⟩ rfl<|s_mov (.int .i64 x_24) rfl<|dk<|sr<|s_mov (.int .i64 x_24) rfl<|s_mov (.int .i64 0) rfl<|s_q (.bool (x_24 != 0)) rfl rfl rfl<|dk<|?_
   rcases oi hc1 with ⟨c25,hc1⟩ | ⟨c25,hc1⟩
   ·refine w_condt rfl c25<|sr<|s_mov (.int .i64 x_24) rfl<|s_mov (.int .i64 x_24) rfl<|dk<|w_ret<|?_;obtain rfl:=os hc1;obtain rfl:=os hf;exact r_flat ⟨trivial,trivial⟩ rfl (.refl _)
   ·refine w_condf rfl (bf c25)<|w_skip<|k_blk<|k_seq<|w_reg<|s_q (.int .i64 (w64 ((s8_12:Int) + 1))) rfl rfl rfl<|s_mov (.int .i64 (w64 ((s8_12:Int) + 1))) rfl<|w_done<|?_;exact k_loopn ⟨(s8_12 + 1),hc1⟩ (mul hlt18) ⟨[],[],_,_,rfl,rfl,⟨.refl _,⟨.refl _,⟨.refl _,⟨.of_eq (congrArg (AV.int _) (w64_incr hlt18 hl2)),trivial⟩⟩⟩⟩,(.refl _)⟩
 ·rintro ⟨_,rfl⟩
  refine sr<|s_mov (.int .i64 0) rfl<|s_mov (.int .i64 0) rfl<|dk<|w_ret<|?_;obtain rfl:=os hf;exact r_flat ⟨trivial,trivial⟩ rfl (.refl _)

/- impl.compareAtoms -/
def c33:ACode :=
 (.seq (.reg (tq 2 (.box 3 (.t 0)) (tq 3 (.box 3 (.t 1)) (tm 4 (.c (.int .i64 0)) .done))))
 (.seq (.reg (tq 5 (.faddr 0 (.t 2)) (tq 6 (.load 1 false (.t 5)) (tq 7 (.faddr 0 (.t 3)) (tq 8 (.load 1 false (.t 7)) (tq 10 (.faddr 1 (.t 2)) (tq 11 (.load 1 false (.t 10)) (tq 12 (.faddr 1 (.t 3)) (tq 13 (.load 1 false (.t 12)) (tq 15 (.faddr 2 (.t 2)) (tq 16 (.load 1 false (.t 15)) (tq 17 (.faddr 2 (.t 3)) (tq 18 (.load 1 false (.t 17)) (.l ⟨(some 9),none,.call 71 [(.t 6),(.t 8)]⟩ [⟨(some 18),none,.load 1 false (.t 17)⟩,⟨(some 17),none,.faddr 2 (.t 3)⟩,⟨(some 16),none,.load 1 false (.t 15)⟩,⟨(some 15),none,.faddr 2 (.t 2)⟩,⟨(some 13),none,.load 1 false (.t 12)⟩,⟨(some 12),none,.faddr 1 (.t 3)⟩,⟨(some 11),none,.load 1 false (.t 10)⟩,⟨(some 10),none,.faddr 1 (.t 2)⟩]
 (.l ⟨(some 14),none,.call 71 [(.t 11),(.t 13)]⟩ [⟨(some 18),none,.load 1 false (.t 17)⟩,⟨(some 17),none,.faddr 2 (.t 3)⟩,⟨(some 16),none,.load 1 false (.t 15)⟩,⟨(some 15),none,.faddr 2 (.t 2)⟩]
 (.l ⟨(some 19),none,.call 72 [(.t 16),(.t 18)]⟩ []
 (.l ⟨(some 20),none,.bslice 1 [(.t 9),(.t 14),(.t 19)]⟩ []
 (.l ⟨(some 21),none,.call 70 [(.t 20)]⟩ []
 (tm 4 (.t 21) .done) .non) .non) .non) .non) .non))))))))))))))
 .ret))
theorem fc33:fcomp Try.prog Try.f33 = some (c33.erase,[.mov (.t 4)],22):=by kernel_rfl
def impl_compareAtoms (a_1:GAtom) (b_2:GAtom):Option Int :=
    (cmp_Compare_int a_1.Kind b_2.Kind).bind fun r_3 =>
    (cmp_Compare_int a_1.N b_2.N).bind fun r_5 =>
    (strings_Compare a_1.T b_2.T).bind fun r_7 =>
    (cmp_Or_int [r_3,r_5,r_7]).bind fun r_9 =>
    some r_9
theorem w_impl_compareAtoms (a_1:GAtom) (b_2:GAtom) (r:Int) (hf:impl_compareAtoms a_1 b_2 = some r):CallOK Try.prog 33 .flat [(encGAtom a_1),(encGAtom b_2)] (.int .i64 r):=by
 refine CallOK.of_awp mixed Try.func33 fc33 nle ?_;rw [argT_eq];unfold impl_compareAtoms at hf;unfold c33;refine (show awp Try.prog false 0 _ (ofL [(0,(encGAtom a_1)),(1,(encGAtom b_2))]) [] _ from ?_);refine sr<|s_do (o_box (j:=0) (c:=(.agg [(.int .i64 a_1.Kind),(.int .i64 a_1.N),(.str a_1.T)])) rfl trivial rfl rfl)<|s_do (o_box (j:=1) (c:=(.agg [(.int .i64 b_2.Kind),(.int .i64 b_2.N),(.str b_2.T)])) rfl trivial rfl rfl)<|s_mov (.int .i64 0) rfl<|dk<|sr<|s_q (.ptr 0 0 0) rfl trivial rfl<|s_q (.int .i64 a_1.Kind) rfl nle rfl<|s_q (.ptr 1 0 0) rfl trivial rfl<|s_q (.int .i64 b_2.Kind) rfl nle rfl<|s_q (.ptr 0 0 1) rfl trivial rfl<|s_q (.int .i64 a_1.N) rfl nle rfl<|?_
 refine s_q (.ptr 1 0 1) rfl trivial rfl<|s_q (.int .i64 b_2.N) rfl nle rfl<|s_q (.ptr 0 0 2) rfl trivial rfl<|s_q (.str a_1.T) rfl nle rfl<|s_q (.ptr 1 0 2) rfl trivial rfl<|s_q (.str b_2.T) rfl nle rfl<|?_
 obtain ⟨r_3,er4,hf⟩:=ob hf
 refine s_dol (o_call (w_cmp_Compare_int _ _ _ er4) rfl (.refl _) rfl) a_same trivial ?_
 obtain ⟨r_5,er6,hf⟩:=ob hf
 refine s_dol (o_call (w_cmp_Compare_int _ _ _ er6) rfl (.refl _) rfl) a_same trivial ?_
 obtain ⟨r_7,er8,hf⟩:=ob hf
 refine s_dol (o_call (w_strings_Compare _ _ _ er8) rfl (.refl _) rfl) a_same trivial ?_;refine s_dol (o_bslice (j:=2) (as':=[(.int .i64 r_3),(.int .i64 r_5),(.int .i64 r_7)]) rfl (fun _ => by decide) ⟨rfl,⟨rfl,⟨rfl,trivial⟩⟩⟩ (.refl _) rfl rfl rfl) trivial trivial ?_
 obtain ⟨r_9,er10,hf⟩:=ob hf
 refine s_dol (o_call (w_cmp_Or_int _ _ er10) rfl (.cons (.of_eq (congrArg (AV.lst _) (by rfl))) .nil) rfl) a_same trivial<|s_mov (.int .i64 r_9) rfl<|dk<|w_ret<|?_;obtain rfl:=os hf;exact r_flat ⟨trivial,trivial⟩ rfl (.refl _)

/- impl.DatumOK -/
def c11:ACode :=
 (.seq (.reg (tm 2 (.c (.bool false)) .done))
 (.seq (.seq (.reg (tm 5 (.t 0) (tq 6 (.len (.t 5)) (tm 7 (.c (.int .i64 0)) .done))))
 (.block 0 (.loop (.seq (.reg (tq 8 (.bin .lss (.t 7) (.t 6)) .done))
 (.seq (.cond (.t 8) .skip
 (.exit 0))
 (.seq (.block 1 (.seq (.reg (tm 9 (.t 7) (tq 10 (.iaddr 3 (.t 5) (.t 7)) (tq 11 (.load 3 true (.t 10)) (tq 4 (.box 3 (.c (.agg [(.int .i64 0),(.int .i64 0),(.str [])]))) (tm 3 (.t 9) (.q ⟨none,none,.store 3 (.t 4) (.t 11)⟩
 .done)))))))
 (.seq (.reg (tq 12 (.load 3 true (.t 4)) (.l ⟨(some 13),none,.call 32 [(.t 12)]⟩ []
 (tq 14 (.not (.t 13)) (tm 15 (.t 14) (tg 16 15 false (.faddr 0 (.t 4)) (tg 17 15 false (.load 1 false (.t 16)) (tg 18 15 false (.mov (.t 0)) (tg 19 15 false (.iaddr 3 (.t 18) (.c (.int .i64 0))) (tg 20 15 false (.faddr 0 (.t 19)) (tg 21 15 false (.load 1 false (.t 20)) (tg 22 15 false (.bin .neq (.t 17) (.t 21)) (tq 23 (.pick (.t 15) (.c (.bool true)) (.t 22)) (tm 24 (.t 23) (tg 25 24 false (.mov (.t 3)) (tg 26 24 false (.bin .gtr (.t 25) (.c (.int .i64 0))) (tg 27 24 false (.mov (.t 26)) (tg 28 27 true (.mov (.t 0)) (tg 29 27 true (.mov (.t 3)) (tg 30 27 true (.bin .sub (.t 29) (.c (.int .i64 1))) (tg 31 27 true (.iaddr 3 (.t 28) (.t 30)) (tg 32 27 true (.load 3 true (.t 31)) (tg 33 27 true (.load 3 true (.t 4)) (.l ⟨(some 34),(some (27,true)),.call 33 [(.t 32),(.t 33)]⟩ []
 (tg 35 27 true (.bin .geq (.t 34) (.c (.int .i64 0))) (tg 36 24 false (.pick (.t 27) (.t 35) (.c (.bool false))) (tq 37 (.pick (.t 24) (.c (.bool true)) (.t 36)) .done))) .non))))))))))))))))))))) .non)))
 (.cut (.cond (.t 37) (.seq (.reg (tm 2 (.c (.bool false)) .done))
 .ret)
 .skip)))))
 (.reg (tq 38 (.bin .add (.t 7) (.c (.int .i64 1))) (tm 7 (.t 38) .done)))))))))
 (.cut (.seq (.reg (tm 39 (.t 0) (tq 40 (.len (.t 39)) (tq 41 (.bin .leq (.t 40) (.c (.int .i64 8))) (tm 2 (.t 41) .done)))))
 .ret))))
theorem fc11:fcomp Try.prog Try.f11 = some (c11.erase,[.mov (.t 2)],42):=by kernel_rfl
def impl_DatumOK_L1 (d_1:(List GAtom)):List GAtom → Nat → Option (Fl Bool Unit)
  | [],s7_60 =>
    some (.go ())
  | x_96 :: xs,s7_60 =>
    (((impl_AtomOK x_96).bind fun r_110 =>
    if (!r_110) then
    some true
    else
    (idx d_1 0).bind fun x_113 =>
    if (x_96.Kind != x_113.Kind) then
    some true
    else
    if (decide ((s7_60:Int) > 0)) then
    (idx d_1 (w64 ((s7_60:Int) - 1))).bind fun x_117 =>
    (impl_compareAtoms x_117 x_96).bind fun r_119 =>
    some (decide (r_119 ≥ 0))
    else
    some false:Option Bool)).bind fun s37_108 =>
    if s37_108 then
    some (.ret false)
    else
    impl_DatumOK_L1 d_1 xs (s7_60 + 1)

def impl_DatumOK (d_1:(List GAtom)):Option Bool :=
    (impl_DatumOK_L1 d_1 d_1 0).bind fun q => (match q with
    | .ret r => some r
    | .go _ =>
    some (decide ((d_1.length:Int) ≤ 8)))
theorem w_impl_DatumOK (d_1:(List GAtom)) (r:Bool) (hf:impl_DatumOK d_1 = some r):CallOK Try.prog 11 .flat [(.lst 3 (d_1.map encGAtom))] (.bool r):=by
 refine CallOK.of_awp mixed Try.func11 fc11 nle ?_;rw [argT_eq];unfold impl_DatumOK at hf;unfold c11;refine (show awp Try.prog false 0 _ (ofL [(0,(.lst 3 (d_1.map encGAtom)))]) [] _ from ?_);refine sr<|s_mov (.bool false) rfl<|dk<|awp_seq<|sr<|s_mov (.lst 3 (d_1.map encGAtom)) rfl<|s_dof (o_len (enc:=encGAtom) rfl) fun hl2 => s_mov (.int .i64 0) rfl<|dk<|?_
 obtain ⟨p89,hb1,hf⟩:=ob hf
 refine awp_cutx (X:={q:Unit // p89 = .go q}) (fun q => ([(0,(.lst 3 (d_1.map encGAtom)))],[])) ?_ ?_
 ·refine awp_loop (X:={q:Nat // impl_DatumOK_L1 d_1 (d_1.drop q) q = some p89}) (fun q => ([(0,(.lst 3 (d_1.map encGAtom))),(5,(.lst 3 (d_1.map encGAtom))),(6,(.int .i64 (d_1.length:Int))),(7,(.int .i64 (q.1:Int)))],[])) (fun q => d_1.length - q.1) ⟨0,hb1⟩ ⟨[],[],_,_,rfl,rfl,⟨.refl _,⟨.refl _,⟨.refl _,⟨.refl _,trivial⟩⟩⟩⟩,(.refl _)⟩ ?_
  rintro ⟨s7_60,hc1⟩
  have hc1:impl_DatumOK_L1 d_1 (d_1.drop s7_60) s7_60 = some p89:=hc1
  refine (show awp Try.prog false 0 _ (ofL [(0,(.lst 3 (d_1.map encGAtom))),(5,(.lst 3 (d_1.map encGAtom))),(6,(.int .i64 (d_1.length:Int))),(7,(.int .i64 (s7_60:Int)))]) [] _ from ?_)
  rcases dropc d_1 s7_60 with ⟨hie92,hd95⟩ | ⟨hlt90,x_96,hx91,hd95⟩
  ·rw [hd95,impl_DatumOK_L1.eq_1] at hc1
   have hq94:=dlf hie92
   refine sr<|s_q (.bool (decide ((s7_60:Int) < (d_1.length:Int)))) rfl rfl rfl<|dk<|awp_seq<|w_condf rfl hq94<|w_exit<|k_seqx<|k_loopx<|k_blkx<|?_;obtain rfl:=os hc1;exact k_cutn ⟨_,rfl⟩ ⟨[],[],_,_,rfl,rfl,⟨.refl _,trivial⟩,(.refl _)⟩
  ·rw [hd95,impl_DatumOK_L1.eq_2] at hc1
   have hq94:=dlt hlt90
   refine sr<|s_q (.bool (decide ((s7_60:Int) < (d_1.length:Int)))) rfl rfl rfl<|dk<|awp_seq<|w_condt rfl hq94<|w_skip<|k_seq<|awp_seq<|w_blk<|sr<|s_mov (.int .i64 (s7_60:Int)) rfl<|s_do (o_iaddrn (enc:=encGAtom) rfl rfl hx91)<|s_q (encGAtom x_96) rfl nle rfl<|s_do (o_box (j:=0) (c:=(.agg [(.int .i64 0),(.int .i64 0),(.str [])])) rfl trivial rfl rfl)<|s_mov (.int .i64 (s7_60:Int)) rfl<|s_do0 (o_storebox (v:=(.agg [(.int .i64 x_96.Kind),(.int .i64 x_96.N),(.str x_96.T)])) (y':=(.agg [(.int .i64 x_96.Kind),(.int .i64 x_96.N),(.str x_96.T)])) rfl rfl rfl trivial ⟨rfl,nle⟩ ⟨⟨rfl,trivial⟩,⟨⟨rfl,trivial⟩,⟨⟨rfl,trivial⟩,trivial⟩⟩⟩ rfl)<|?_
   refine dk<|awp_seq<|?_
   obtain ⟨s37_108,hb2,hc1⟩:=ob hc1
   refine awp_cut ([(0,(.lst 3 (d_1.map encGAtom))),(5,(.lst 3 (d_1.map encGAtom))),(6,(.int .i64 (d_1.length:Int))),(7,(.int .i64 (s7_60:Int))),(37,(.bool s37_108))],[]) ?_ ?_
   ·refine w_reg<|s_q (.agg [(.int .i64 x_96.Kind),(.int .i64 x_96.N),(.str x_96.T)]) rfl nle rfl<|?_
    obtain ⟨r_110,er111,hb2⟩:=ob hb2
    refine s_dol (o_call (w_impl_AtomOK _ _ er111) rfl (.refl _) rfl) a_same trivial<|s_q (.bool (!r_110)) rfl trivial rfl<|s_mov (.bool (!r_110)) rfl<|?_
    rcases oi hb2 with ⟨c112,hb2⟩ | ⟨c112,hb2⟩
    ·refine s_lit (s:=15) (b:=true) rfl c112<|s_off rfl rfl<|s_off rfl rfl<|s_off rfl rfl<|s_off rfl rfl<|s_off rfl rfl<|s_off rfl rfl<|s_off rfl rfl<|s_q (.bool true) rfl trivial rfl<|s_mov (.bool true) rfl<|s_off rfl rfl<|s_off rfl rfl<|s_off rfl rfl<|s_offs rfl<|s_offs rfl<|s_offs rfl<|s_offs rfl<|s_offs rfl<|s_offs rfl<|s_offsl rfl trivial<|s_offs rfl<|s_off rfl rfl<|s_q (.bool true) rfl trivial rfl<|w_done<|?_;obtain rfl:=os hb2;exact ⟨[],[],_,_,rfl,rfl,⟨.refl _,⟨.refl _,⟨.refl _,⟨.refl _,⟨.refl _,trivial⟩⟩⟩⟩⟩,(.refl _)⟩
    ·refine s_lit (s:=15) (b:=false) rfl (bf c112)<|s_on rfl<|s_q (.ptr 0 0 0) rfl trivial rfl<|s_on rfl<|s_q (.int .i64 x_96.Kind) rfl nle rfl<|s_on rfl<|s_mov (.lst 3 (d_1.map encGAtom)) rfl<|s_on rfl<|?_
     obtain ⟨x_113,ex114,hb2⟩:=ob hb2
     refine s_do (o_iaddr (enc:=encGAtom) rfl rfl (idx0 ex114) (idx1 ex114))<|s_on rfl<|s_q (.iptr (encGAtom x_113) 0) rfl trivial rfl<|s_on rfl<|s_q (.int .i64 x_113.Kind) rfl nle rfl<|s_on rfl<|s_q (.bool (x_96.Kind != x_113.Kind)) rfl rfl rfl<|s_q (.bool (x_96.Kind != x_113.Kind)) rfl trivial rfl<|s_mov (.bool (x_96.Kind != x_113.Kind)) rfl<|?_
     rcases oi hb2 with ⟨c115,hb2⟩ | ⟨c115,hb2⟩
     ·refine s_lit (s:=24) (b:=true) rfl c115<|s_off rfl rfl<|s_off rfl rfl<|s_off rfl rfl<|s_offs rfl<|s_offs rfl<|s_offs rfl<|s_offs rfl<|s_offs rfl<|s_offs rfl<|s_offsl rfl trivial<|s_offs rfl<|s_off rfl rfl<|s_q (.bool true) rfl trivial rfl<|w_done<|?_;obtain rfl:=os hb2;exact ⟨[],[],_,_,rfl,rfl,⟨.refl _,⟨.refl _,⟨.refl _,⟨.refl _,⟨.refl _,trivial⟩⟩⟩⟩⟩,(.refl _)⟩
     ·refine s_lit (s:=24) (b:=false) rfl (bf c115)<|s_on rfl<|s_mov (.int .i64 (s7_60:Int)) rfl<|s_on rfl<|s_q (.bool (decide ((s7_60:Int) > 0))) rfl rfl rfl<|s_on rfl<|s_mov (.bool (decide ((s7_60:Int) > 0))) rfl<|?_
      rcases oi hb2 with ⟨c116,hb2⟩ | ⟨c116,hb2⟩
      ·refine s_lit (s:=27) (b:=true) rfl c116<|s_on rfl<|s_mov (.lst 3 (d_1.map encGAtom)) rfl<|s_on rfl<|s_mov (.int .i64 (s7_60:Int)) rfl<|s_on rfl<|s_q (.int .i64 (w64 ((s7_60:Int) - 1))) rfl rfl rfl<|s_on rfl<|?_
       obtain ⟨x_117,ex118,hb2⟩:=ob hb2
       refine s_do (o_iaddr (enc:=encGAtom) rfl rfl (idx0 ex118) (idx1 ex118))<|s_on rfl<|s_q (encGAtom x_117) rfl nle rfl<|s_on rfl<|s_q (.agg [(.int .i64 x_96.Kind),(.int .i64 x_96.N),(.str x_96.T)]) rfl nle rfl<|s_onl rfl<|?_
       obtain ⟨r_119,er120,hb2⟩:=ob hb2
       refine s_dol (o_call (w_impl_compareAtoms _ _ _ er120) rfl (.refl _) rfl) a_same trivial<|s_on rfl<|s_q (.bool (decide (r_119 ≥ 0))) rfl rfl rfl<|s_on rfl<|s_q (.bool (decide (r_119 ≥ 0))) rfl trivial rfl<|s_q (.bool (decide (r_119 ≥ 0))) rfl trivial rfl<|w_done<|?_;obtain rfl:=os hb2;exact ⟨[],[],_,_,rfl,rfl,⟨.refl _,⟨.refl _,⟨.refl _,⟨.refl _,⟨.refl _,trivial⟩⟩⟩⟩⟩,(.refl _)⟩
      ·refine s_lit (s:=27) (b:=false) rfl (bf c116)<|s_off rfl rfl<|s_off rfl rfl<|s_off rfl rfl<|s_off rfl rfl<|s_off rfl rfl<|s_off rfl rfl<|s_offl rfl rfl trivial<|s_off rfl rfl<|s_on rfl<|s_q (.bool false) rfl trivial rfl<|s_q (.bool false) rfl trivial rfl<|w_done<|?_;obtain rfl:=os hb2;exact ⟨[],[],_,_,rfl,rfl,⟨.refl _,⟨.refl _,⟨.refl _,⟨.refl _,⟨.refl _,trivial⟩⟩⟩⟩⟩,(.refl _)⟩
   ·rcases oi hc1 with ⟨c121,hc1⟩ | ⟨c121,hc1⟩
    ·refine w_condt rfl c121<|sr<|s_mov (.bool false) rfl<|dk<|w_ret<|?_;obtain rfl:=os hc1;obtain rfl:=os hf;exact r_flat ⟨trivial,trivial⟩ rfl (.refl _)
    ·refine w_condf rfl (bf c121)<|w_skip<|k_blk<|k_seq<|w_reg<|s_q (.int .i64 (w64 ((s7_60:Int) + 1))) rfl rfl rfl<|s_mov (.int .i64 (w64 ((s7_60:Int) + 1))) rfl<|w_done<|?_;exact k_loopn ⟨(s7_60 + 1),hc1⟩ (mul hlt90) ⟨[],[],_,_,rfl,rfl,⟨.refl _,⟨.refl _,⟨.refl _,⟨.of_eq (congrArg (AV.int _) (w64_incr hlt90 hl2)),trivial⟩⟩⟩⟩,(.refl _)⟩
 ·rintro ⟨_,rfl⟩
  refine sr<|s_mov (.lst 3 (d_1.map encGAtom)) rfl<|s_dof (o_len (enc:=encGAtom) rfl) fun hl122 => s_q (.bool (decide ((d_1.length:Int) ≤ 8))) rfl rfl rfl<|s_mov (.bool (decide ((d_1.length:Int) ≤ 8))) rfl<|dk<|w_ret<|?_;obtain rfl:=os hf;exact r_flat ⟨trivial,trivial⟩ rfl (.refl _)

/- impl.areAlike -/
def c94:ACode :=
 (.seq (.reg (tm 4 (.c (.bool false)) .done))
 (.seq (.reg (tm 5 (.t 0) (tq 6 (.len (.t 5)) (tq 7 (.bin .eql (.t 6) (.c (.int .i64 0))) (tm 8 (.t 7) (tg 9 8 false (.mov (.t 1)) (tg 10 8 false (.len (.t 9)) (tg 11 8 false (.bin .eql (.t 10) (.c (.int .i64 0))) (tq 12 (.pick (.t 8) (.c (.bool true)) (.t 11)) (tm 13 (.t 12) (tg 14 13 false (.mov (.t 0)) (tg 15 13 false (.iaddr 3 (.t 14) (.c (.int .i64 0))) (tg 16 13 false (.faddr 0 (.t 15)) (tg 17 13 false (.load 1 false (.t 16)) (tg 18 13 false (.mov (.t 1)) (tg 19 13 false (.iaddr 3 (.t 18) (.c (.int .i64 0))) (tg 20 13 false (.faddr 0 (.t 19)) (tg 21 13 false (.load 1 false (.t 20)) (tg 22 13 false (.bin .eql (.t 17) (.t 21)) (tq 23 (.pick (.t 13) (.c (.bool true)) (.t 22)) (tm 4 (.t 23) .done)))))))))))))))))))))
 .ret))
theorem fc94:fcomp Try.prog Try.f94 = some (c94.erase,[.mov (.t 4)],24):=by kernel_rfl
def impl_areAlike (a_1:(List GAtom)) (b_2:(List GAtom)):Option Bool :=
    if (bif ((a_1.length:Int) == 0) then true else ((b_2.length:Int) == 0)) then
    some true
    else
    (idx a_1 0).bind fun x_6 =>
    (idx b_2 0).bind fun x_8 =>
    some (x_6.Kind == x_8.Kind)
theorem w_impl_areAlike (a_1:(List GAtom)) (b_2:(List GAtom)) (r:Bool) (hf:impl_areAlike a_1 b_2 = some r):CallOK Try.prog 94 .flat [(.lst 3 (a_1.map encGAtom)),(.lst 3 (b_2.map encGAtom))] (.bool r):=by
 refine CallOK.of_awp mixed Try.func94 fc94 nle ?_;rw [argT_eq];unfold impl_areAlike at hf;unfold c94;refine (show awp Try.prog false 0 _ (ofL [(0,(.lst 3 (a_1.map encGAtom))),(1,(.lst 3 (b_2.map encGAtom)))]) [] _ from ?_);refine sr<|s_mov (.bool false) rfl<|dk<|sr<|s_mov (.lst 3 (a_1.map encGAtom)) rfl<|s_dof (o_len (enc:=encGAtom) rfl) fun hl3 => s_q (.bool ((a_1.length:Int) == 0)) rfl rfl rfl<|s_mov (.bool ((a_1.length:Int) == 0)) rfl<|?_;refine s_g (v:=((a_1.length:Int) == 0)) (.lst 3 (b_2.map encGAtom)) rfl (fun hv => by (try simp only [gs_on hv]);exact ⟨rfl,trivial,rfl⟩) ?_;refine s_g (v:=((a_1.length:Int) == 0)) (.int .i64 (b_2.length:Int)) rfl (fun hv => by (try simp only [gs_on hv]);exact ⟨rfl,trivial,lenV _ _⟩) ?_
 refine s_g (v:=((a_1.length:Int) == 0)) (.bool ((b_2.length:Int) == 0)) rfl (fun hv => by (try simp only [gs_on hv]);exact ⟨rfl,rfl,rfl⟩) ?_;refine s_pick (x:=true) (y:=((b_2.length:Int) == 0)) rfl (fun hv => by (try simp only [gs_on hv]);rfl) (fun hv => by (try simp only [gs_on hv]);rfl) ?_;refine s_mov (.bool (bif ((a_1.length:Int) == 0) then true else ((b_2.length:Int) == 0))) rfl ?_
 rcases oi hf with ⟨c5,hf⟩ | ⟨c5,hf⟩
 ·refine s_lit (s:=13) (b:=true) rfl c5<|s_off rfl rfl<|s_off rfl rfl<|s_off rfl rfl<|s_off rfl rfl<|s_off rfl rfl<|s_off rfl rfl<|s_off rfl rfl<|s_off rfl rfl<|s_off rfl rfl<|s_q (.bool true) rfl trivial rfl<|s_mov (.bool true) rfl<|dk<|w_ret<|?_;obtain rfl:=os hf;exact r_flat ⟨trivial,trivial⟩ rfl (.refl _)
 ·refine s_lit (s:=13) (b:=false) rfl (bf c5)<|s_on rfl<|s_mov (.lst 3 (a_1.map encGAtom)) rfl<|s_on rfl<|?_
  obtain ⟨x_6,ex7,hf⟩:=ob hf
  refine s_do (o_iaddr (enc:=encGAtom) rfl rfl (idx0 ex7) (idx1 ex7))<|s_on rfl<|s_q (.iptr (encGAtom x_6) 0) rfl trivial rfl<|s_on rfl<|s_q (.int .i64 x_6.Kind) rfl nle rfl<|s_on rfl<|s_mov (.lst 3 (b_2.map encGAtom)) rfl<|s_on rfl<|?_
  obtain ⟨x_8,ex9,hf⟩:=ob hf
  refine s_do (o_iaddr (enc:=encGAtom) rfl rfl (idx0 ex9) (idx1 ex9))<|s_on rfl<|s_q (.iptr (encGAtom x_8) 0) rfl trivial rfl<|s_on rfl<|s_q (.int .i64 x_8.Kind) rfl nle rfl<|s_on rfl<|s_q (.bool (x_6.Kind == x_8.Kind)) rfl rfl rfl<|s_q (.bool (x_6.Kind == x_8.Kind)) rfl trivial rfl<|s_mov (.bool (x_6.Kind == x_8.Kind)) rfl<|dk<|w_ret<|?_;obtain rfl:=os hf;exact r_flat ⟨trivial,trivial⟩ rfl (.refl _)

/- impl.datumsCode -/
def c54:ACode :=
 (.seq (.reg (tm 4 (.c (.int .i64 0)) .done))
 (.seq (.block 0 (.seq (.reg (tm 6 (.t 0) (tq 7 (.call 30 [(.t 6)]) (tq 8 (.not (.t 7)) (tm 9 (.t 8) (tg 10 9 false (.mov (.t 1)) (tg 11 9 false (.call 30 [(.t 10)]) (tg 12 9 false (.not (.t 11)) (tq 13 (.pick (.t 9) (.c (.bool true)) (.t 12)) (tm 5 (.t 13) .done))))))))))
 (.cut (.cond (.t 5) (.seq (.reg (tm 4 (.c (.int .i64 2)) .done))
 .ret)
 (.seq (.reg (tm 15 (.t 0) (tq 16 (.call 11 [(.t 15)]) (tq 17 (.not (.t 16)) (tm 18 (.t 17) (tg 19 18 false (.mov (.t 1)) (tg 20 18 false (.call 11 [(.t 19)]) (tg 21 18 false (.not (.t 20)) (tq 22 (.pick (.t 18) (.c (.bool true)) (.t 21)) (tm 14 (.t 22) .done))))))))))
 (.cut (.cond (.t 14) (.seq (.reg (tm 4 (.c (.int .i64 1)) .done))
 .ret)
 (.seq (.reg (tm 24 (.t 0) (tm 25 (.t 1) (tq 26 (.call 94 [(.t 24),(.t 25)]) (tq 27 (.not (.t 26)) (tm 23 (.t 27) .done))))))
 (.cond (.t 23) (.seq (.reg (tm 4 (.c (.int .i64 9)) .done))
 .ret)
 .skip)))))))))
 (.seq (.reg (tm 4 (.c (.int .i64 0)) .done))
 .ret)))
theorem fc54:fcomp Try.prog Try.f54 = some (c54.erase,[.mov (.t 4)],28):=by kernel_rfl
def impl_datumsCode (a_1:(List GAtom)) (b_2:(List GAtom)):Option Int :=
    (((impl_isList_impl_Atom a_1).bind fun r_10 =>
    if (!r_10) then
    some true
    else
    (impl_isList_impl_Atom b_2).bind fun r_13 =>
    some (!r_13):Option Bool)).bind fun s5_8 =>
    if s5_8 then
    some 2
    else
    (((impl_DatumOK a_1).bind fun r_23 =>
    if (!r_23) then
    some true
    else
    (impl_DatumOK b_2).bind fun r_26 =>
    some (!r_26):Option Bool)).bind fun s14_21 =>
    if s14_21 then
    some 1
    else
    (impl_areAlike a_1 b_2).bind fun r_29 =>
    if (!r_29) then
    some 9
    else
    some 0
theorem w_impl_datumsCode (a_1:(List GAtom)) (b_2:(List GAtom)) (r:Int) (hf:impl_datumsCode a_1 b_2 = some r):CallOK Try.prog 54 .flat [(.lst 3 (a_1.map encGAtom)),(.lst 3 (b_2.map encGAtom))] (.int .i64 r):=by
 refine CallOK.of_awp mixed Try.func54 fc54 nle ?_;rw [argT_eq];unfold impl_datumsCode at hf;unfold c54;refine (show awp Try.prog false 0 _ (ofL [(0,(.lst 3 (a_1.map encGAtom))),(1,(.lst 3 (b_2.map encGAtom)))]) [] _ from ?_);refine sr<|s_mov (.int .i64 0) rfl<|dk<|awp_seq<|w_blk<|awp_seq<|?_
 obtain ⟨s5_8,hb1,hf⟩:=ob hf
 refine awp_cut ([(0,(.lst 3 (a_1.map encGAtom))),(1,(.lst 3 (b_2.map encGAtom))),(5,(.bool s5_8))],[]) ?_ ?_
 ·refine w_reg ?_
  obtain ⟨r_10,er11,hb1⟩:=ob hb1
  rcases oi hb1 with ⟨c12,hb1⟩ | ⟨c12,hb1⟩
  ·refine s_mov (.lst 3 (a_1.map encGAtom)) rfl<|s_do (o_call (w_impl_isList_impl_Atom _ _ er11) rfl (.refl _) rfl)<|s_q (.bool (!r_10)) rfl trivial rfl<|s_mov (.bool (!r_10)) rfl<|s_lit (s:=9) (b:=true) rfl c12<|s_off rfl rfl<|s_off rfl rfl<|s_off rfl rfl<|s_q (.bool true) rfl trivial rfl<|s_mov (.bool true) rfl<|w_done<|?_;obtain rfl:=os hb1;exact ⟨[],[],_,_,rfl,rfl,⟨.refl _,⟨.refl _,⟨.refl _,trivial⟩⟩⟩,(.refl _)⟩
  ·obtain ⟨r_13,er14,hb1⟩:=ob hb1
   refine s_mov (.lst 3 (a_1.map encGAtom)) rfl<|s_do (o_call (w_impl_isList_impl_Atom _ _ er11) rfl (.refl _) rfl)<|s_q (.bool (!r_10)) rfl trivial rfl<|s_mov (.bool (!r_10)) rfl<|s_lit (s:=9) (b:=false) rfl (bf c12)<|s_on rfl<|s_mov (.lst 3 (b_2.map encGAtom)) rfl<|s_on rfl<|s_do (o_call (w_impl_isList_impl_Atom _ _ er14) rfl (.refl _) rfl)<|s_on rfl<|s_q (.bool (!r_13)) rfl trivial rfl<|s_q (.bool (!r_13)) rfl trivial rfl<|s_mov (.bool (!r_13)) rfl<|w_done<|?_;obtain rfl:=os hb1;exact ⟨[],[],_,_,rfl,rfl,⟨.refl _,⟨.refl _,⟨.refl _,trivial⟩⟩⟩,(.refl _)⟩
 ·rcases oi hf with ⟨c15,hf⟩ | ⟨c15,hf⟩
  ·refine w_condt rfl c15<|sr<|s_mov (.int .i64 2) rfl<|dk<|w_ret<|?_;obtain rfl:=os hf;exact r_flat ⟨trivial,trivial⟩ rfl (.refl _)
  ·refine w_condf rfl (bf c15)<|awp_seq<|?_
   obtain ⟨s14_21,hb1,hf⟩:=ob hf
   refine awp_cut ([(0,(.lst 3 (a_1.map encGAtom))),(1,(.lst 3 (b_2.map encGAtom))),(14,(.bool s14_21))],[]) ?_ ?_
   ·refine w_reg ?_
    obtain ⟨r_23,er24,hb1⟩:=ob hb1
    rcases oi hb1 with ⟨c25,hb1⟩ | ⟨c25,hb1⟩
    ·refine s_mov (.lst 3 (a_1.map encGAtom)) rfl<|s_do (o_call (w_impl_DatumOK _ _ er24) rfl (.refl _) rfl)<|s_q (.bool (!r_23)) rfl trivial rfl<|s_mov (.bool (!r_23)) rfl<|s_lit (s:=18) (b:=true) rfl c25<|s_off rfl rfl<|s_off rfl rfl<|s_off rfl rfl<|s_q (.bool true) rfl trivial rfl<|s_mov (.bool true) rfl<|w_done<|?_;obtain rfl:=os hb1;exact ⟨[],[],_,_,rfl,rfl,⟨.refl _,⟨.refl _,⟨.refl _,trivial⟩⟩⟩,(.refl _)⟩
    ·obtain ⟨r_26,er27,hb1⟩:=ob hb1
     refine s_mov (.lst 3 (a_1.map encGAtom)) rfl<|s_do (o_call (w_impl_DatumOK _ _ er24) rfl (.refl _) rfl)<|s_q (.bool (!r_23)) rfl trivial rfl<|s_mov (.bool (!r_23)) rfl<|s_lit (s:=18) (b:=false) rfl (bf c25)<|s_on rfl<|s_mov (.lst 3 (b_2.map encGAtom)) rfl<|s_on rfl<|s_do (o_call (w_impl_DatumOK _ _ er27) rfl (.refl _) rfl)<|s_on rfl<|s_q (.bool (!r_26)) rfl trivial rfl<|s_q (.bool (!r_26)) rfl trivial rfl<|s_mov (.bool (!r_26)) rfl<|w_done<|?_;obtain rfl:=os hb1;exact ⟨[],[],_,_,rfl,rfl,⟨.refl _,⟨.refl _,⟨.refl _,trivial⟩⟩⟩,(.refl _)⟩
   ·rcases oi hf with ⟨c28,hf⟩ | ⟨c28,hf⟩
    ·refine w_condt rfl c28<|sr<|s_mov (.int .i64 1) rfl<|dk<|w_ret<|?_;obtain rfl:=os hf;exact r_flat ⟨trivial,trivial⟩ rfl (.refl _)
    ·refine w_condf rfl (bf c28)<|sr<|?_
     obtain ⟨r_29,er30,hf⟩:=ob hf
     refine s_mov (.lst 3 (a_1.map encGAtom)) rfl<|s_mov (.lst 3 (b_2.map encGAtom)) rfl<|s_do (o_call (w_impl_areAlike _ _ _ er30) rfl (.refl _) rfl)<|s_q (.bool (!r_29)) rfl trivial rfl<|s_mov (.bool (!r_29)) rfl<|dk<|?_
     rcases oi hf with ⟨c31,hf⟩ | ⟨c31,hf⟩
     ·refine w_condt rfl c31<|sr<|s_mov (.int .i64 9) rfl<|dk<|w_ret<|?_;obtain rfl:=os hf;exact r_flat ⟨trivial,trivial⟩ rfl (.refl _)
     ·refine w_condf rfl (bf c31)<|w_skip<|k_blk<|k_seq<|sr<|s_mov (.int .i64 0) rfl<|dk<|w_ret<|?_;obtain rfl:=os hf;exact r_flat ⟨trivial,trivial⟩ rfl (.refl _)

/- slices.Grow[[]impl.Atom,impl.Atom] -/
def c95_h0:ACode :=
 (.seq (.reg (tm 4 (.c .nil) .done))
 (.seq (.seq (.reg (tm 5 (.t 1) (tq 6 (.bin .lss (.t 5) (.c (.int .i64 0))) .done)))
 (.cond (.t 6) (.reg (tq 7 (.never) (.q ⟨none,none,.never⟩
 .done)))
 .skip))
 (.cut (.seq (.seq (.reg (tm 8 (.t 1) (tm 9 (.t 0) (tq 10 (.cap (.t 9)) (tm 11 (.t 0) (tq 12 (.len (.t 11)) (tq 13 (.bin .sub (.t 10) (.t 12)) (tq 14 (.bin .sub (.t 8) (.t 13)) (tm 1 (.t 14) .done)))))))))
 (.seq (.reg (tm 15 (.t 1) (tq 16 (.bin .gtr (.t 15) (.c (.int .i64 0))) .done)))
 (.cond (.t 16) (.reg (tm 17 (.t 0) (tm 18 (.t 0) (tq 19 (.cap (.t 18)) (tq 20 (.slice 3 (.t 17) none (some (.t 19))) (tm 21 (.t 1) (tq 22 (.appz 3 32 (.agg [(.int .i64 0),(.int .i64 0),(.str [])]) (.t 20) (.t 21)) (tm 23 (.t 0) (tq 24 (.len (.t 23)) (tq 25 (.slice 3 (.t 22) none (some (.t 24))) (tm 0 (.t 25) .done)))))))))))
 .skip)))
 (.seq (.reg (tm 26 (.t 0) (tm 4 (.t 26) .done)))
 .ret)))))
theorem fc95_h0:fcomp Try.prog Try.f95 = some (c95_h0.erase,[.mov (.t 4)],27):=by kernel_rfl
def slices_Grow_impl_Atom_impl_Atom_h0 (n_1:Int):Option (List GAtom) :=
    ((if (decide (n_1 < 0)) then
    none
    else
    some ():Option Unit)).bind fun _ =>
    if (decide (w64 (n_1 - (w64 (0 - 0))) > 0)) then
    if 0 < w64 (n_1 - (w64 (0 - 0))) ∧ w64 (n_1 - (w64 (0 - 0))) ≤ 2 ^ 30 then
    if (0:Int) ≤ 0 ∧ 0 ≤ (((w64 (n_1 - (w64 (0 - 0)))).toNat:Nat):Int) then
    some ((List.replicate ((w64 (n_1 - (w64 (0 - 0)))).toNat) (⟨0,0,[]⟩:GAtom)).take 0)
    else none
    else none
    else
    some []
theorem w_slices_Grow_impl_Atom_impl_Atom_h0 (n_1:Int) (r:(List GAtom)) (hf:slices_Grow_impl_Atom_impl_Atom_h0 n_1 = some r):CallHeap Try.prog true 95 [.nil,(.int .i64 n_1)] [] (.own 0 0 r.length) [.row 3 (r.map encGAtom)]:=by
 refine CallHeap.of_awp mixed Try.func95 fc95_h0 nle ?_;rw [argT_eq];unfold slices_Grow_impl_Atom_impl_Atom_h0 at hf;unfold c95_h0;refine (show awp Try.prog true 0 _ (ofL [(0,.nil),(1,(.int .i64 n_1))]) [] _ from ?_);refine sr<|s_mov .nil rfl<|dk<|awp_seq<|?_
 obtain ⟨p3,hb1,hf⟩:=ob hf
 refine awp_cut ([(0,.nil),(1,(.int .i64 n_1))],[]) ?_ ?_
 ·refine sr<|s_mov (.int .i64 n_1) rfl<|s_q (.bool (decide (n_1 < 0))) rfl rfl rfl<|dk<|?_
  rcases oi hb1 with ⟨c4,hb1⟩ | ⟨c4,hb1⟩
  ·refine w_condt rfl c4<|w_reg<|?_
   cases hb1
  ·refine w_condf rfl (bf c4)<|w_skip<|?_;obtain rfl:=os hb1;exact ⟨[],[],_,_,rfl,rfl,⟨.refl _,⟨.refl _,trivial⟩⟩,(.refl _)⟩
 ·refine awp_seq<|sr<|s_mov (.int .i64 n_1) rfl<|s_mov .nil rfl<|s_do (o_cap rfl)<|s_mov .nil rfl<|s_do (o_lennil rfl)<|s_q (.int .i64 (w64 (0 - 0))) rfl rfl rfl<|s_q (.int .i64 (w64 (n_1 - (w64 (0 - 0))))) rfl rfl rfl<|s_mov (.int .i64 (w64 (n_1 - (w64 (0 - 0))))) rfl<|dk<|sr<|s_mov (.int .i64 (w64 (n_1 - (w64 (0 - 0))))) rfl<|s_q (.bool (decide (w64 (n_1 - (w64 (0 - 0))) > 0))) rfl rfl rfl<|dk<|?_
  rcases oi hf with ⟨c5,hf⟩ | ⟨c5,hf⟩
  ·refine w_condt rfl c5<|w_reg<|?_
   obtain ⟨g6,hf⟩:=og hf
   obtain ⟨g7,hf⟩:=og hf
   refine s_mov .nil rfl<|s_mov .nil rfl<|s_do (o_cap rfl)<|s_q .nil rfl ⟨⟨Int.le_refl 0,Int.le_refl 0,Int.le_refl 0⟩,trivial⟩ rfl<|s_mov (.int .i64 (w64 (n_1 - (w64 (0 - 0))))) rfl<|s_do (o_appz (j:=0) (enc:=encGAtom) (y:=(⟨0,0,[]⟩:GAtom)) rfl rfl (.refl _) g6 rfl)<|s_mov .nil rfl<|s_do (o_lennil rfl)<|s_do (o_slto rfl rfl rfl g7.1 g7.2)<|s_mov (.own 0 0 0) rfl<|dk<|sr<|s_mov (.own 0 0 0) rfl<|s_mov (.own 0 0 0) rfl<|dk<|w_ret<|?_;obtain rfl:=os hf;exact r_heap [.trim 4] [1] rfl ⟨trivial,trivial⟩ rfl ((.cons ((LeO.tk (enc:=encGAtom) (List.replicate ((w64 (n_1 - (w64 (0 - 0)))).toNat) (⟨0,0,[]⟩:GAtom)) _)) .nil)) (.of_eq (congrArg (AV.own _ 0) (by simp)))
  ·refine w_condf rfl (bf c5)<|w_skip<|k_seq<|sr<|s_mov .nil rfl<|s_mov .nil rfl<|dk<|w_ret<|?_;obtain rfl:=os hf;exact r_heap [.nilT 4 3] [0] rfl ⟨trivial,trivial⟩ rfl (.refl _) (.refl _)

/- slices.Concat[[]impl.Atom,impl.Atom] -/
def c55:ACode :=
 (.seq (.reg (tm 2 (.c .nil) .done))
 (.seq (.reg (tm 3 (.c (.int .i64 0)) .done))
 (.seq (.seq (.reg (tm 9 (.t 0) (tq 10 (.len (.t 9)) (tm 11 (.c (.int .i64 0)) .done))))
 (.block 0 (.loop (.seq (.reg (tq 12 (.bin .lss (.t 11) (.t 10)) .done))
 (.seq (.cond (.t 12) .skip
 (.exit 0))
 (.seq (.block 1 (.seq (.reg (tq 13 (.iaddr 1 (.t 9) (.t 11)) (tq 14 (.load 1 false (.t 13)) (tm 5 (.t 14) .done))))
 (.seq (.reg (tm 15 (.t 3) (tm 16 (.t 5) (tq 17 (.len (.t 16)) (tq 18 (.bin .add (.t 15) (.t 17)) (tm 3 (.t 18) .done))))))
 (.seq (.reg (tm 19 (.t 3) (tq 20 (.bin .lss (.t 19) (.c (.int .i64 0))) .done)))
 (.cond (.t 20) (.reg (tq 21 (.never) (.q ⟨none,none,.never⟩
 .done)))
 .skip)))))
 (.reg (tq 22 (.bin .add (.t 11) (.c (.int .i64 1))) (tm 11 (.t 22) .done)))))))))
 (.cut (.seq (.reg (tm 23 (.t 3) (tq 24 (.call 95 [(.c .nil),(.t 23)]) (tm 6 (.t 24) .done))))
 (.seq (.seq (.reg (tm 25 (.t 0) (tq 26 (.len (.t 25)) (tm 27 (.c (.int .i64 0)) .done))))
 (.block 2 (.loop (.seq (.reg (tq 28 (.bin .lss (.t 27) (.t 26)) .done))
 (.seq (.cond (.t 28) .skip
 (.exit 2))
 (.seq (.block 3 (.seq (.reg (tq 29 (.iaddr 1 (.t 25) (.t 27)) (tq 30 (.load 1 false (.t 29)) (tm 8 (.t 30) .done))))
 (.reg (tm 31 (.t 6) (tm 32 (.t 8) (tq 33 (.append 3 32 (.t 31) (.t 32)) (tm 6 (.t 33) .done)))))))
 (.reg (tq 34 (.bin .add (.t 27) (.c (.int .i64 1))) (tm 27 (.t 34) .done)))))))))
 (.cut (.seq (.reg (tm 35 (.t 6) (tm 2 (.t 35) .done)))
 .ret))))))))
theorem fc55:fcomp Try.prog Try.f55 = some (c55.erase,[.mov (.t 2)],36):=by kernel_rfl
def slices_Concat_impl_Atom_impl_Atom_L1 :List (List GAtom) → Int → Option Int
  | [],size_15 =>
    some size_15
  | x_30 :: xs,size_15 =>
    if (decide (w64 (size_15 + (x_30.length:Int)) < 0)) then
    none
    else
    slices_Concat_impl_Atom_impl_Atom_L1 xs (w64 (size_15 + (x_30.length:Int))) 

def slices_Concat_impl_Atom_impl_Atom_L2 :List (List GAtom) → (List GAtom) → Option (List GAtom)
  | [],newslice_47 =>
    some newslice_47
  | x_60 :: xs,newslice_47 =>
    if (newslice_47 ++ x_60).length ≤ 2 ^ 30 then
    slices_Concat_impl_Atom_impl_Atom_L2 xs  (newslice_47 ++ x_60)
    else none

def slices_Concat_impl_Atom_impl_Atom (slices_1:(List (List GAtom))):Option (List GAtom) :=
    (slices_Concat_impl_Atom_impl_Atom_L1 slices_1 0).bind fun size_22 =>
    (slices_Grow_impl_Atom_impl_Atom_h0 size_22).bind fun r_33 =>
    (slices_Concat_impl_Atom_impl_Atom_L2 slices_1 r_33).bind fun newslice_52 =>
    some newslice_52
theorem w_slices_Concat_impl_Atom_impl_Atom (slices_1:(List (List GAtom))) (r:(List GAtom)) (hf:slices_Concat_impl_Atom_impl_Atom slices_1 = some r):CallOK Try.prog 55 .fresh [(.lst 1 (slices_1.map (encL 3 encGAtom)))] (.lst 3 (r.map encGAtom)):=by
 refine CallOK.of_awp mixed Try.func55 fc55 nle ?_;rw [argT_eq];unfold slices_Concat_impl_Atom_impl_Atom at hf;unfold c55;refine (show awp Try.prog true 0 _ (ofL [(0,(.lst 1 (slices_1.map (encL 3 encGAtom))))]) [] _ from ?_);refine sr<|s_mov .nil rfl<|dk<|sr<|s_mov (.int .i64 0) rfl<|dk<|awp_seq<|sr<|s_mov (.lst 1 (slices_1.map (encL 3 encGAtom))) rfl<|s_dof (o_len (enc:=(encL 3 encGAtom)) rfl) fun hl2 => s_mov (.int .i64 0) rfl<|dk<|?_
 obtain ⟨size_22,hb1,hf⟩:=ob hf
 refine awp_cut ([(0,(.lst 1 (slices_1.map (encL 3 encGAtom)))),(3,(.int .i64 size_22))],[]) ?_ ?_
 ·refine awp_loop (X:={q:(Int × Nat) // slices_Concat_impl_Atom_impl_Atom_L1 (slices_1.drop q.2) q.1 = some size_22}) (fun q => ([(0,(.lst 1 (slices_1.map (encL 3 encGAtom)))),(3,(.int .i64 q.1.1)),(9,(.lst 1 (slices_1.map (encL 3 encGAtom)))),(10,(.int .i64 (slices_1.length:Int))),(11,(.int .i64 (q.1.2:Int)))],[])) (fun q => slices_1.length - q.1.2) ⟨(0,0),hb1⟩ ⟨[],[],_,_,rfl,rfl,⟨.refl _,⟨.refl _,⟨.refl _,⟨.refl _,⟨.refl _,trivial⟩⟩⟩⟩⟩,(.refl _)⟩ ?_
  rintro ⟨⟨size_15,s11_16⟩,hc1⟩
  have hc1:slices_Concat_impl_Atom_impl_Atom_L1 (slices_1.drop s11_16) size_15 = some size_22:=hc1
  refine (show awp Try.prog true 0 _ (ofL [(0,(.lst 1 (slices_1.map (encL 3 encGAtom)))),(3,(.int .i64 size_15)),(9,(.lst 1 (slices_1.map (encL 3 encGAtom)))),(10,(.int .i64 (slices_1.length:Int))),(11,(.int .i64 (s11_16:Int)))]) [] _ from ?_)
  rcases dropc slices_1 s11_16 with ⟨hie26,hd29⟩ | ⟨hlt24,x_30,hx25,hd29⟩
  ·rw [hd29,slices_Concat_impl_Atom_impl_Atom_L1.eq_1] at hc1
   have hq28:=dlf hie26
   refine sr<|s_q (.bool (decide ((s11_16:Int) < (slices_1.length:Int)))) rfl rfl rfl<|dk<|awp_seq<|w_condf rfl hq28<|w_exit<|k_seqx<|k_loopx<|k_blkx<|?_;obtain rfl:=os hc1;exact ⟨[],[],_,_,rfl,rfl,⟨.refl _,⟨.refl _,trivial⟩⟩,(.refl _)⟩
  ·rw [hd29,slices_Concat_impl_Atom_impl_Atom_L1.eq_2] at hc1
   have hq28:=dlt hlt24
   refine sr<|s_q (.bool (decide ((s11_16:Int) < (slices_1.length:Int)))) rfl rfl rfl<|dk<|awp_seq<|w_condt rfl hq28<|w_skip<|k_seq<|awp_seq<|w_blk<|sr<|s_do (o_iaddrn (enc:=(encL 3 encGAtom)) rfl rfl hx25)<|s_q (.lst 3 (x_30.map encGAtom)) rfl ⟨rfl,rfl⟩ rfl<|s_mov (.lst 3 (x_30.map encGAtom)) rfl<|dk<|sr<|s_mov (.int .i64 size_15) rfl<|s_mov (.lst 3 (x_30.map encGAtom)) rfl<|s_dof (o_len (enc:=encGAtom) rfl) fun hl31 => s_q (.int .i64 (w64 (size_15 + (x_30.length:Int)))) rfl rfl rfl<|s_mov (.int .i64 (w64 (size_15 + (x_30.length:Int)))) rfl<|dk<|sr<|s_mov (.int .i64 (w64 (size_15 + (x_30.length:Int)))) rfl<|?_
   refine s_q (.bool (decide (w64 (size_15 + (x_30.length:Int)) < 0))) rfl rfl rfl<|dk<|?_
   rcases oi hc1 with ⟨c32,hc1⟩ | ⟨c32,hc1⟩
   ·refine w_condt rfl c32<|w_reg<|?_
    cases hc1
   ·refine w_condf rfl (bf c32)<|w_skip<|k_blk<|k_seq<|w_reg<|s_q (.int .i64 (w64 ((s11_16:Int) + 1))) rfl rfl rfl<|s_mov (.int .i64 (w64 ((s11_16:Int) + 1))) rfl<|w_done<|?_;exact k_loopn ⟨(w64 (size_15 + (x_30.length:Int)),(s11_16 + 1)),hc1⟩ (mul hlt24) ⟨[],[],_,_,rfl,rfl,⟨.refl _,⟨.refl _,⟨.refl _,⟨.refl _,⟨.of_eq (congrArg (AV.int _) (w64_incr hlt24 hl2)),trivial⟩⟩⟩⟩⟩,(.refl _)⟩
 ·refine sr<|?_
  obtain ⟨r_33,er34,hf⟩:=ob hf
  refine s_mov (.int .i64 size_22) rfl ?_;refine s_do (o_callh (v:=(.own 0 0 r_33.length)) (h2:=[.row 3 (r_33.map encGAtom)]) [] [] (fun _ => rfl) (w_slices_Grow_impl_Atom_impl_Atom_h0 _ _ er34) rfl (.refl _) (.refl _) rfl rfl) ?_;refine s_mov (.own 0 0 r_33.length) rfl<|dk<|awp_seq<|sr<|s_mov (.lst 1 (slices_1.map (encL 3 encGAtom))) rfl<|s_dof (o_len (enc:=(encL 3 encGAtom)) rfl) fun hl35 => s_mov (.int .i64 0) rfl<|dk<|?_
  obtain ⟨newslice_52,hb1,hf⟩:=ob hf
  refine awp_cut ([(6,(.own 0 0 newslice_52.length))],[.row 3 (newslice_52.map encGAtom)]) ?_ ?_
  ·refine awp_loop (X:={q:(Nat × (List GAtom)) // slices_Concat_impl_Atom_impl_Atom_L2 (slices_1.drop q.1) q.2 = some newslice_52}) (fun q => ([(6,(.own 0 0 q.1.2.length)),(25,(.lst 1 (slices_1.map (encL 3 encGAtom)))),(26,(.int .i64 (slices_1.length:Int))),(27,(.int .i64 (q.1.1:Int)))],[.row 3 (q.1.2.map encGAtom)])) (fun q => slices_1.length - q.1.1) ⟨(0,r_33),hb1⟩ ⟨[],[0],_,_,rfl,rfl,⟨.refl _,⟨.refl _,⟨.refl _,⟨.refl _,trivial⟩⟩⟩⟩,(.refl _)⟩ ?_
   rintro ⟨⟨s27_46,newslice_47⟩,hc1⟩
   have hc1:slices_Concat_impl_Atom_impl_Atom_L2 (slices_1.drop s27_46) newslice_47 = some newslice_52:=hc1
   refine (show awp Try.prog true 0 _ (ofL [(6,(.own 0 0 newslice_47.length)),(25,(.lst 1 (slices_1.map (encL 3 encGAtom)))),(26,(.int .i64 (slices_1.length:Int))),(27,(.int .i64 (s27_46:Int)))]) [.row 3 (newslice_47.map encGAtom)] _ from ?_)
   rcases dropc slices_1 s27_46 with ⟨hie56,hd59⟩ | ⟨hlt54,x_60,hx55,hd59⟩
   ·rw [hd59,slices_Concat_impl_Atom_impl_Atom_L2.eq_1] at hc1
    have hq58:=dlf hie56
    refine sr<|s_q (.bool (decide ((s27_46:Int) < (slices_1.length:Int)))) rfl rfl rfl<|dk<|awp_seq<|w_condf rfl hq58<|w_exit<|k_seqx<|k_loopx<|k_blkx<|?_;obtain rfl:=os hc1;exact ⟨[],[0],_,_,rfl,rfl,⟨.refl _,trivial⟩,(.refl _)⟩
   ·rw [hd59,slices_Concat_impl_Atom_impl_Atom_L2.eq_2] at hc1
    have hq58:=dlt hlt54
    refine sr<|s_q (.bool (decide ((s27_46:Int) < (slices_1.length:Int)))) rfl rfl rfl<|dk<|awp_seq<|w_condt rfl hq58<|w_skip<|k_seq<|awp_seq<|w_blk<|sr<|s_do (o_iaddrn (enc:=(encL 3 encGAtom)) rfl rfl hx55)<|s_q (.lst 3 (x_60.map encGAtom)) rfl ⟨rfl,rfl⟩ rfl<|s_mov (.lst 3 (x_60.map encGAtom)) rfl<|dk<|w_reg<|?_
    obtain ⟨g61,hc1⟩:=og hc1
    refine s_mov (.own 0 0 newslice_47.length) rfl<|s_mov (.lst 3 (x_60.map encGAtom)) rfl<|?_
    refine s_do (o_appendd (j:=1) (L:=((newslice_47 ++ x_60).map encGAtom)) (len:=(newslice_47 ++ x_60).length) rfl false rfl rfl (fun _ => flm (fun _ => rfl) _) (fun _ _ _ => flm (fun _ => rfl) _) (by decide) (apl (enc:=encGAtom) newslice_47 x_60) (by simp <;> omega) g61 rfl rfl) ?_
    refine s_mov (.own 1 0 ((newslice_47 ++ x_60).length)) rfl<|w_done<|k_blk<|k_seq<|w_reg<|s_q (.int .i64 (w64 ((s27_46:Int) + 1))) rfl rfl rfl<|s_mov (.int .i64 (w64 ((s27_46:Int) + 1))) rfl<|w_done<|?_;exact k_loopn ⟨((s27_46 + 1),newslice_47 ++ x_60),hc1⟩ (mul hlt54) ⟨[],[1],_,_,rfl,rfl,⟨.refl _,⟨.refl _,⟨.refl _,⟨.of_eq (congrArg (AV.int _) (w64_incr hlt54 hl35)),trivial⟩⟩⟩⟩,(.refl _)⟩
  ·refine sr<|s_mov (.own 0 0 newslice_52.length) rfl<|s_mov (.own 0 0 newslice_52.length) rfl<|dk<|w_ret<|?_;obtain rfl:=os hf;exact r_fresh ⟨trivial,trivial⟩ rfl (by decide) (.of_eq (congrArg (AV.lst _) (tk (enc:=encGAtom) newslice_52)))

/- slices.Clone[[]impl.Atom,impl.Atom] -/
def c83:ACode :=
 (.seq (.reg (tm 2 (.c .nil) .done))
 (.seq (.seq (.reg (tm 3 (.t 0) (tq 4 (.isnil false (.t 3)) .done)))
 (.cond (.t 4) (.seq (.reg (tm 2 (.c .nil) .done))
 .ret)
 .skip))
 (.seq (.reg (tq 5 (.bslice 3 []) (tm 6 (.t 0) (tq 7 (.append 3 32 (.t 5) (.t 6)) (tm 2 (.t 7) .done)))))
 .ret)))
theorem fc83:fcomp Try.prog Try.f83 = some (c83.erase,[.mov (.t 2)],8):=by kernel_rfl
def slices_Clone_impl_Atom_impl_Atom (s_1:(List GAtom)):Option (List GAtom) :=
    if ([] ++ s_1).length ≤ 2 ^ 30 then
    some ([] ++ s_1)
    else none
theorem w_slices_Clone_impl_Atom_impl_Atom (s_1:(List GAtom)) (r:(List GAtom)) (hf:slices_Clone_impl_Atom_impl_Atom s_1 = some r):CallOK Try.prog 83 .fresh [(.lst 3 (s_1.map encGAtom))] (.lst 3 (r.map encGAtom)):=by
 refine CallOK.of_awp mixed Try.func83 fc83 nle ?_;rw [argT_eq];unfold slices_Clone_impl_Atom_impl_Atom at hf;unfold c83;refine (show awp Try.prog true 0 _ (ofL [(0,(.lst 3 (s_1.map encGAtom)))]) [] _ from ?_);refine sr<|s_mov .nil rfl<|dk<|awp_seq<|sr<|s_mov (.lst 3 (s_1.map encGAtom)) rfl<|s_isn (l:=s_1.map encGAtom) rfl<|?_
 intro b hb3
 rcases b with _ | _
 ·refine dk<|w_condf rfl rfl<|w_skip<|k_seq<|sr<|?_
  obtain ⟨g2,hf⟩:=og hf
  refine s_do (o_bslice (j:=0) (as':=[]) rfl (fun _ => by decide) trivial (.refl _) rfl rfl rfl) ?_;refine s_mov (.lst 3 (s_1.map encGAtom)) rfl ?_
  refine s_do (o_appendd (j:=1) (L:=(([] ++ s_1).map encGAtom)) (len:=([] ++ s_1).length) rfl false rfl rfl (fun _ => flm (fun _ => rfl) _) (fun _ _ _ => flm (fun _ => rfl) _) (by decide) ((by simp)) (by simp <;> omega) g2 rfl rfl) ?_
  refine s_mov (.own 1 0 (([] ++ s_1).length)) rfl<|dk<|w_ret<|?_;obtain rfl:=os hf;exact r_fresh ⟨trivial,trivial⟩ rfl (by decide) (.of_eq (congrArg (AV.lst _) (tk (enc:=encGAtom) ([] ++ s_1))))
 ·have he4:s_1 = []:=mapnil (hb3 rfl)
  have hE:(if ([] ++ s_1).length ≤ 2 ^ 30 then some ([] ++ s_1) else none) = (some []):=by simp [he4]
  rw [hE] at hf;refine dk<|w_condt rfl rfl<|sr<|s_mov .nil rfl<|dk<|w_ret<|?_;obtain rfl:=os hf;exact r_fresh ⟨trivial,trivial⟩ rfl (by decide) (.nil _)

/- math/bits.Len64 -/
def c135:ACode :=
 (.seq (.reg (tm 2 (.c (.int .i64 0)) .done))
 (.seq (.seq (.reg (tm 3 (.t 0) (tq 4 (.bin .geq (.t 3) (.c (.int .u64 4294967296))) .done)))
 (.cond (.t 4) (.seq (.reg (tm 5 (.t 0) (tq 6 (.bin .shr (.t 5) (.c (.int .u64 32))) (tm 0 (.t 6) .done))))
 (.reg (tm 2 (.c (.int .i64 32)) .done)))
 .skip))
 (.cut (.seq (.seq (.reg (tm 7 (.t 0) (tq 8 (.bin .geq (.t 7) (.c (.int .u64 65536))) .done)))
 (.cond (.t 8) (.seq (.reg (tm 9 (.t 0) (tq 10 (.bin .shr (.t 9) (.c (.int .u64 16))) (tm 0 (.t 10) .done))))
 (.reg (tm 11 (.t 2) (tq 12 (.bin .add (.t 11) (.c (.int .i64 16))) (tm 2 (.t 12) .done)))))
 .skip))
 (.cut (.seq (.seq (.reg (tm 13 (.t 0) (tq 14 (.bin .geq (.t 13) (.c (.int .u64 256))) .done)))
 (.cond (.t 14) (.seq (.reg (tm 15 (.t 0) (tq 16 (.bin .shr (.t 15) (.c (.int .u64 8))) (tm 0 (.t 16) .done))))
 (.reg (tm 17 (.t 2) (tq 18 (.bin .add (.t 17) (.c (.int .i64 8))) (tm 2 (.t 18) .done)))))
 .skip))
 (.seq (.reg (tm 19 (.t 2) (tm 20 (.t 0) (tq 21 (.convI .u8 (.t 20)) (tq 22 (.idxs (.c (.str [0,1,2,2,3,3,3,3,4,4,4,4,4,4,4,4,5,5,5,5,5,5,5,5,5,5,5,5,5,5,5,5,6,6,6,6,6,6,6,6,6,6,6,6,6,6,6,6,6,6,6,6,6,6,6,6,6,6,6,6,6,6,6,6,7,7,7,7,7,7,7,7,7,7,7,7,7,7,7,7,7,7,7,7,7,7,7,7,7,7,7,7,7,7,7,7,7,7,7,7,7,7,7,7,7,7,7,7,7,7,7,7,7,7,7,7,7,7,7,7,7,7,7,7,7,7,7,7,8,8,8,8,8,8,8,8,8,8,8,8,8,8,8,8,8,8,8,8,8,8,8,8,8,8,8,8,8,8,8,8,8,8,8,8,8,8,8,8,8,8,8,8,8,8,8,8,8,8,8,8,8,8,8,8,8,8,8,8,8,8,8,8,8,8,8,8,8,8,8,8,8,8,8,8,8,8,8,8,8,8,8,8,8,8,8,8,8,8,8,8,8,8,8,8,8,8,8,8,8,8,8,8,8,8,8,8,8,8,8,8,8,8,8,8,8,8,8,8,8,8,8,8,8,8,8,8])) (.t 21)) (tq 23 (.convI .i64 (.t 22)) (tq 24 (.bin .add (.t 19) (.t 23)) (tm 2 (.t 24) .done))))))))
 .ret)))))))
theorem fc135:fcomp Try.prog Try.f135 = some (c135.erase,[.mov (.t 2)],25):=by kernel_rfl
def math_bits_Len64 (x_1:Int):Option Int :=
    ((if (decide (x_1 ≥ 4294967296)) then
    some (Int.fdiv x_1 (2 ^ (min (Int.toNat 32) (IntKind.bits .u64))),32)
    else
    some (x_1,0):Option (Int × Int))).bind fun p5 =>
    (match p5 with
    | (x_3,n_4) =>
    ((if (decide (x_3 ≥ 65536)) then
    some (Int.fdiv x_3 (2 ^ (min (Int.toNat 16) (IntKind.bits .u64))),w64 (n_4 + 16))
    else
    some (x_3,n_4):Option (Int × Int))).bind fun p10 =>
    (match p10 with
    | (x_8,n_9) =>
    if (decide (x_8 ≥ 256)) then
    (idx ([0,1,2,2,3,3,3,3,4,4,4,4,4,4,4,4,5,5,5,5,5,5,5,5,5,5,5,5,5,5,5,5,6,6,6,6,6,6,6,6,6,6,6,6,6,6,6,6,6,6,6,6,6,6,6,6,6,6,6,6,6,6,6,6,7,7,7,7,7,7,7,7,7,7,7,7,7,7,7,7,7,7,7,7,7,7,7,7,7,7,7,7,7,7,7,7,7,7,7,7,7,7,7,7,7,7,7,7,7,7,7,7,7,7,7,7,7,7,7,7,7,7,7,7,7,7,7,7,8,8,8,8,8,8,8,8,8,8,8,8,8,8,8,8,8,8,8,8,8,8,8,8,8,8,8,8,8,8,8,8,8,8,8,8,8,8,8,8,8,8,8,8,8,8,8,8,8,8,8,8,8,8,8,8,8,8,8,8,8,8,8,8,8,8,8,8,8,8,8,8,8,8,8,8,8,8,8,8,8,8,8,8,8,8,8,8,8,8,8,8,8,8,8,8,8,8,8,8,8,8,8,8,8,8,8,8,8,8,8,8,8,8,8,8,8,8,8,8,8,8,8,8,8,8,8,8]:Str) (IntKind.u8.wrap (Int.fdiv x_8 (2 ^ (min (Int.toNat 8) (IntKind.bits .u64)))))).bind fun b_13 =>
    some (w64 ((w64 (n_9 + 8)) + (w64 (b_13.toNat:Int))))
    else
    (idx ([0,1,2,2,3,3,3,3,4,4,4,4,4,4,4,4,5,5,5,5,5,5,5,5,5,5,5,5,5,5,5,5,6,6,6,6,6,6,6,6,6,6,6,6,6,6,6,6,6,6,6,6,6,6,6,6,6,6,6,6,6,6,6,6,7,7,7,7,7,7,7,7,7,7,7,7,7,7,7,7,7,7,7,7,7,7,7,7,7,7,7,7,7,7,7,7,7,7,7,7,7,7,7,7,7,7,7,7,7,7,7,7,7,7,7,7,7,7,7,7,7,7,7,7,7,7,7,7,8,8,8,8,8,8,8,8,8,8,8,8,8,8,8,8,8,8,8,8,8,8,8,8,8,8,8,8,8,8,8,8,8,8,8,8,8,8,8,8,8,8,8,8,8,8,8,8,8,8,8,8,8,8,8,8,8,8,8,8,8,8,8,8,8,8,8,8,8,8,8,8,8,8,8,8,8,8,8,8,8,8,8,8,8,8,8,8,8,8,8,8,8,8,8,8,8,8,8,8,8,8,8,8,8,8,8,8,8,8,8,8,8,8,8,8,8,8,8,8,8,8,8,8,8,8,8,8]:Str) (IntKind.u8.wrap x_8)).bind fun b_15 =>
    some (w64 (n_9 + (w64 (b_15.toNat:Int))))))
theorem w_math_bits_Len64 (x_1:Int) (r:Int) (hf:math_bits_Len64 x_1 = some r):CallOK Try.prog 135 .flat [(.int .u64 x_1)] (.int .i64 r):=by
 refine CallOK.of_awp mixed Try.func135 fc135 nle ?_;rw [argT_eq];unfold math_bits_Len64 at hf;unfold c135;refine (show awp Try.prog false 0 _ (ofL [(0,(.int .u64 x_1))]) [] _ from ?_);refine sr<|s_mov (.int .i64 0) rfl<|dk<|awp_seq<|?_
 obtain ⟨p5,hb1,hf⟩:=ob hf
 refine awp_cut ([(0,(.int .u64 p5.1)),(2,(.int .i64 p5.2))],[]) ?_ ?_
 ·refine sr<|s_mov (.int .u64 x_1) rfl<|s_q (.bool (decide (x_1 ≥ 4294967296))) rfl rfl rfl<|dk<|?_
  rcases oi hb1 with ⟨c6,hb1⟩ | ⟨c6,hb1⟩
  ·refine w_condt rfl c6<|sr<|s_mov (.int .u64 x_1) rfl<|?_;refine s_do (o_q (.int .u64 (Int.fdiv x_1 (2 ^ (min (Int.toNat 32) (IntKind.bits .u64))))) rfl (show (0:Int) ≤ 32 by decide) rfl) ?_;refine s_mov (.int .u64 (Int.fdiv x_1 (2 ^ (min (Int.toNat 32) (IntKind.bits .u64))))) rfl<|dk<|w_reg<|s_mov (.int .i64 32) rfl<|w_done<|?_;obtain rfl:=os hb1;exact ⟨[],[],_,_,rfl,rfl,⟨.refl _,⟨.refl _,trivial⟩⟩,(.refl _)⟩
  ·refine w_condf rfl (bf c6)<|w_skip<|?_;obtain rfl:=os hb1;exact ⟨[],[],_,_,rfl,rfl,⟨.refl _,⟨.refl _,trivial⟩⟩,(.refl _)⟩
 ·obtain ⟨x_3,n_4⟩:=p5
  refine awp_seq ?_
  obtain ⟨p10,hb1,hf⟩:=ob hf
  refine awp_cut ([(0,(.int .u64 p10.1)),(2,(.int .i64 p10.2))],[]) ?_ ?_
  ·refine sr<|s_mov (.int .u64 x_3) rfl<|s_q (.bool (decide (x_3 ≥ 65536))) rfl rfl rfl<|dk<|?_
   rcases oi hb1 with ⟨c11,hb1⟩ | ⟨c11,hb1⟩
   ·refine w_condt rfl c11<|sr<|s_mov (.int .u64 x_3) rfl<|?_;refine s_do (o_q (.int .u64 (Int.fdiv x_3 (2 ^ (min (Int.toNat 16) (IntKind.bits .u64))))) rfl (show (0:Int) ≤ 16 by decide) rfl) ?_;refine s_mov (.int .u64 (Int.fdiv x_3 (2 ^ (min (Int.toNat 16) (IntKind.bits .u64))))) rfl<|dk<|w_reg<|s_mov (.int .i64 n_4) rfl<|s_q (.int .i64 (w64 (n_4 + 16))) rfl rfl rfl<|s_mov (.int .i64 (w64 (n_4 + 16))) rfl<|w_done<|?_;obtain rfl:=os hb1;exact ⟨[],[],_,_,rfl,rfl,⟨.refl _,⟨.refl _,trivial⟩⟩,(.refl _)⟩
   ·refine w_condf rfl (bf c11)<|w_skip<|?_;obtain rfl:=os hb1;exact ⟨[],[],_,_,rfl,rfl,⟨.refl _,⟨.refl _,trivial⟩⟩,(.refl _)⟩
  ·obtain ⟨x_8,n_9⟩:=p10
   refine awp_seq<|sr<|s_mov (.int .u64 x_8) rfl<|s_q (.bool (decide (x_8 ≥ 256))) rfl rfl rfl<|dk<|?_
   rcases oi hf with ⟨c12,hf⟩ | ⟨c12,hf⟩
   ·refine w_condt rfl c12<|sr<|s_mov (.int .u64 x_8) rfl<|?_;refine s_do (o_q (.int .u64 (Int.fdiv x_8 (2 ^ (min (Int.toNat 8) (IntKind.bits .u64))))) rfl (show (0:Int) ≤ 8 by decide) rfl) ?_;refine s_mov (.int .u64 (Int.fdiv x_8 (2 ^ (min (Int.toNat 8) (IntKind.bits .u64))))) rfl<|dk<|w_reg<|s_mov (.int .i64 n_9) rfl<|s_q (.int .i64 (w64 (n_9 + 8))) rfl rfl rfl<|s_mov (.int .i64 (w64 (n_9 + 8))) rfl<|dk<|sr<|?_
    obtain ⟨b_13,eb14,hf⟩:=ob hf
    refine s_mov (.int .i64 (w64 (n_9 + 8))) rfl<|s_mov (.int .u64 (Int.fdiv x_8 (2 ^ (min (Int.toNat 8) (IntKind.bits .u64))))) rfl<|s_q (.int .u8 (IntKind.u8.wrap (Int.fdiv x_8 (2 ^ (min (Int.toNat 8) (IntKind.bits .u64)))))) rfl trivial rfl<|s_do (o_idxs rfl rfl (idx0 eb14) (idx1 eb14))<|s_q (.int .i64 (w64 (b_13.toNat:Int))) rfl trivial rfl<|s_q (.int .i64 (w64 ((w64 (n_9 + 8)) + (w64 (b_13.toNat:Int))))) rfl rfl rfl<|s_mov (.int .i64 (w64 ((w64 (n_9 + 8)) + (w64 (b_13.toNat:Int))))) rfl<|dk<|w_ret<|?_;obtain rfl:=os hf;exact r_flat ⟨trivial,trivial⟩ rfl (.refl _)
   ·refine w_condf rfl (bf c12)<|w_skip<|k_seq<|sr<|?_
    obtain ⟨b_15,eb16,hf⟩:=ob hf
    refine s_mov (.int .i64 n_9) rfl<|s_mov (.int .u64 x_8) rfl<|s_q (.int .u8 (IntKind.u8.wrap x_8)) rfl trivial rfl<|s_do (o_idxs rfl rfl (idx0 eb16) (idx1 eb16))<|s_q (.int .i64 (w64 (b_15.toNat:Int))) rfl trivial rfl<|s_q (.int .i64 (w64 (n_9 + (w64 (b_15.toNat:Int))))) rfl rfl rfl<|s_mov (.int .i64 (w64 (n_9 + (w64 (b_15.toNat:Int))))) rfl<|dk<|w_ret<|?_;obtain rfl:=os hf;exact r_flat ⟨trivial,trivial⟩ rfl (.refl _)

/- math/bits.Len -/
def c120:ACode :=
 (.seq (.reg (tm 2 (.c (.int .i64 0)) .done))
 (.seq (.cond (.c (.bool false)) (.seq (.reg (tm 3 (.t 0) (tq 4 (.convI .u32 (.t 3)) (tq 5 (.call 134 [(.t 4)]) (tm 2 (.t 5) .done)))))
 .ret)
 .skip)
 (.seq (.reg (tm 6 (.t 0) (tq 7 (.call 135 [(.t 6)]) (tm 2 (.t 7) .done))))
 .ret)))
theorem fc120:fcomp Try.prog Try.f120 = some (c120.erase,[.mov (.t 2)],8):=by kernel_rfl
def math_bits_Len (x_1:Int):Option Int :=
    (math_bits_Len64 x_1).bind fun r_2 =>
    some r_2
theorem w_math_bits_Len (x_1:Int) (r:Int) (hf:math_bits_Len x_1 = some r):CallOK Try.prog 120 .flat [(.int .u64 x_1)] (.int .i64 r):=by
  refine CallOK.of_awp mixed Try.func120 fc120 nle ?_
  rw [argT_eq]
  unfold math_bits_Len at hf
  unfold c120
  refine (show awp Try.prog false 0 _ (ofL [(0,(.int .u64 x_1))]) [] _ from ?_)
  refine awp_seq ?_
  refine w_reg ?_
  refine s_do (o_mov (.int .i64 0) rfl) ?_
  refine w_done ?_
  refine k_seq ?_
  refine awp_seq ?_
  refine w_condcf ?_
  refine w_skip ?_
  refine k_seq ?_
  refine awp_seq ?_
  refine w_reg ?_
  obtain ⟨r_2,er3,hf⟩:=ob hf
  refine s_do (o_mov (.int .u64 x_1) rfl) ?_
  refine s_do (o_call (w_math_bits_Len64 _ _ er3) rfl (.refl _) rfl) ?_
  refine s_do (o_mov (.int .i64 r_2) rfl) ?_
  refine w_done ?_
  refine k_seq ?_
  refine w_ret ?_
  obtain rfl:=os hf
  exact r_flat ⟨trivial,trivial⟩ rfl (.refl _)

/- slices.insertionSortCmpFunc[impl.Atom] -/
def c126_h0:ACode :=
 (.seq (.reg (tm 10 (.t 1) (tq 11 (.bin .add (.t 10) (.c (.int .i64 1))) (tm 8 (.t 11) .done))))
 (.block 0 (.loop (.seq (.seq (.reg (tm 12 (.t 8) (tm 13 (.t 2) (tq 14 (.bin .lss (.t 12) (.t 13)) .done))))
 (.cond (.t 14) .skip
 (.exit 0)))
 (.seq (.block 1 (.seq (.reg (tm 17 (.t 8) (tm 9 (.t 17) .done)))
 (.block 2 (.loop (.seq (.seq (.reg (tm 18 (.t 9) (tm 19 (.t 1) (tq 20 (.bin .gtr (.t 18) (.t 19)) (tm 21 (.t 20) (tg 22 21 true (.mov (.t 3)) (tg 23 21 true (.mov (.t 0)) (tg 24 21 true (.mov (.t 9)) (tg 25 21 true (.iaddr 3 (.t 23) (.t 24)) (tg 26 21 true (.load 3 true (.t 25)) (tg 27 21 true (.mov (.t 0)) (tg 28 21 true (.mov (.t 9)) (tg 29 21 true (.bin .sub (.t 28) (.c (.int .i64 1))) (tg 30 21 true (.iaddr 3 (.t 27) (.t 29)) (tg 31 21 true (.load 3 true (.t 30)) (.l ⟨(some 32),(some (21,true)),.calv (.t 22) [(.t 26),(.t 31)]⟩ []
 (tg 33 21 true (.bin .lss (.t 32) (.c (.int .i64 0))) (tq 34 (.pick (.t 21) (.t 33) (.c (.bool false))) .done)) .non))))))))))))))))
 (.cut (.cond (.t 34) .skip
 (.exit 2))))
 (.seq (.block 3 (.reg (tm 37 (.t 0) (tm 38 (.t 9) (tm 39 (.t 0) (tm 40 (.t 9) (tq 41 (.bin .sub (.t 40) (.c (.int .i64 1))) (tm 42 (.t 0) (tm 43 (.t 9) (tq 44 (.bin .sub (.t 43) (.c (.int .i64 1))) (tq 45 (.iaddr 3 (.t 42) (.t 44)) (tq 46 (.load 3 true (.t 45)) (tm 47 (.t 0) (tm 48 (.t 9) (tq 49 (.iaddr 3 (.t 47) (.t 48)) (tq 50 (.load 3 true (.t 49)) (tq 51 (.iaddr 3 (.t 37) (.t 38)) (.l ⟨none,none,.store 3 (.t 51) (.t 46)⟩ []
 (tq 52 (.iaddr 3 (.t 39) (.t 41)) (.l ⟨none,none,.store 3 (.t 52) (.t 50)⟩ []
 .done .non)) .non))))))))))))))))))
 (.reg (tm 35 (.t 9) (tq 36 (.bin .sub (.t 35) (.c (.int .i64 1))) (tm 9 (.t 36) .done))))))))))
 (.cut (.reg (tm 15 (.t 8) (tq 16 (.bin .add (.t 15) (.c (.int .i64 1))) (tm 8 (.t 16) .done))))))))))
theorem fc126_h0:fcomp Try.prog Try.f126 = some (c126_h0.erase,[],53):=by kernel_rfl
def slices_insertionSortCmpFunc_impl_Atom_h0_L2 (a_2:Int):Nat → Int → (List GAtom) → Option (List GAtom)
  | 0,_,_ => none
  | k + 1,j_864,data_865 =>
    ((if (decide (j_864 > a_2)) then
    if (0:Int) ≤ j_864 ∧ j_864 < (data_865.length:Int) then
    (data_865[(0 + j_864.toNat)]?).bind fun x_912 =>
    if (0:Int) ≤ w64 (j_864 - 1) ∧ w64 (j_864 - 1) < (data_865.length:Int) then
    (data_865[(0 + (w64 (j_864 - 1)).toNat)]?).bind fun x_915 =>
    (impl_compareAtoms x_912 x_915).bind fun r_917 =>
    some (decide (r_917 < 0))
    else none
    else none
    else
    some false:Option Bool)).bind fun s34_908 =>
    if s34_908 then
    if (0:Int) ≤ w64 (j_864 - 1) ∧ w64 (j_864 - 1) < (data_865.length:Int) then
    (data_865[(0 + (w64 (j_864 - 1)).toNat)]?).bind fun x_921 =>
    if (0:Int) ≤ j_864 ∧ j_864 < (data_865.length:Int) then
    (data_865[(0 + j_864.toNat)]?).bind fun x_924 =>
    if (0:Int) ≤ j_864 ∧ j_864 < (data_865.length:Int) then
    if (0:Int) ≤ w64 (j_864 - 1) ∧ w64 (j_864 - 1) < (data_865.length:Int) then
    ((data_865.set (0 + j_864.toNat) x_921)[(0 + (w64 (j_864 - 1)).toNat)]?).bind fun x_928 =>
    slices_insertionSortCmpFunc_impl_Atom_h0_L2 a_2 k (w64 (j_864 - 1)) ((data_865.set (0 + j_864.toNat) x_921).set (0 + (w64 (j_864 - 1)).toNat) x_924)
    else none
    else none
    else none
    else none
    else
    some data_865

def slices_insertionSortCmpFunc_impl_Atom_h0_L1 (b_3:Int) (a_2:Int):Nat → Int → (List GAtom) → Option (List GAtom)
  | 0,_,_ => none
  | k + 1,i_665,data_666 =>
    if (decide (i_665 < b_3)) then
    (slices_insertionSortCmpFunc_impl_Atom_h0_L2 a_2 FUEL i_665 data_666).bind fun data_897 =>
    slices_insertionSortCmpFunc_impl_Atom_h0_L1 b_3 a_2 k (w64 (i_665 + 1)) data_897
    else
    some data_666

def slices_insertionSortCmpFunc_impl_Atom_h0 (data_1:(List GAtom)) (a_2:Int) (b_3:Int):Option (List GAtom) :=
    slices_insertionSortCmpFunc_impl_Atom_h0_L1 b_3 a_2 FUEL (w64 (a_2 + 1)) data_1
theorem w_slices_insertionSortCmpFunc_impl_Atom_h0 (data_1:(List GAtom)) (a_2:Int) (b_3:Int) (r:(List GAtom)) (hf:slices_insertionSortCmpFunc_impl_Atom_h0 data_1 a_2 b_3 = some r):CallHeap Try.prog true 126 [(.own 0 0 data_1.length),(.int .i64 a_2),(.int .i64 b_3),(.fn 33 [])] [.row 3 (data_1.map encGAtom)] (.tup []) [.row 3 (r.map encGAtom)]:=by
 refine CallHeap.of_awp mixed Try.func126 fc126_h0 nle ?_;rw [argT_eq];unfold slices_insertionSortCmpFunc_impl_Atom_h0 at hf;unfold c126_h0;refine (show awp Try.prog true 1 _ (ofL [(0,(.own 0 0 data_1.length)),(1,(.int .i64 a_2)),(2,(.int .i64 b_3)),(3,(.fn 33 []))]) [.row 3 (data_1.map encGAtom)] _ from ?_);refine sr<|s_mov (.int .i64 a_2) rfl<|s_q (.int .i64 (w64 (a_2 + 1))) rfl rfl rfl<|s_mov (.int .i64 (w64 (a_2 + 1))) rfl<|dk<|?_;refine awp_loop (X:={q:(Nat × Int × (List GAtom)) // slices_insertionSortCmpFunc_impl_Atom_h0_L1 b_3 a_2 q.1 q.2.1 q.2.2 = some r}) (fun q => ([(0,(.own 0 0 q.1.2.2.length)),(1,(.int .i64 a_2)),(2,(.int .i64 b_3)),(3,(.fn 33 [])),(8,(.int .i64 q.1.2.1))],[.row 3 (q.1.2.2.map encGAtom)])) (fun q => q.1.1) ⟨(FUEL,w64 (a_2 + 1),data_1),hf⟩ ⟨[],[0],_,_,rfl,rfl,⟨.refl _,⟨.refl _,⟨.refl _,⟨.refl _,⟨.refl _,trivial⟩⟩⟩⟩⟩,(.refl _)⟩ ?_
 rintro ⟨⟨k,i_665,data_666⟩,hc1⟩
 have hc1:slices_insertionSortCmpFunc_impl_Atom_h0_L1 b_3 a_2 k i_665 data_666 = some r:=hc1
 refine (show awp Try.prog true 1 _ (ofL [(0,(.own 0 0 data_666.length)),(1,(.int .i64 a_2)),(2,(.int .i64 b_3)),(3,(.fn 33 [])),(8,(.int .i64 i_665))]) [.row 3 (data_666.map encGAtom)] _ from ?_)
 rcases k with _ | k
 ·rw [slices_insertionSortCmpFunc_impl_Atom_h0_L1.eq_1] at hc1
  cases hc1
 ·rw [slices_insertionSortCmpFunc_impl_Atom_h0_L1.eq_2] at hc1;refine awp_seq<|sr<|s_mov (.int .i64 i_665) rfl<|s_mov (.int .i64 b_3) rfl<|s_q (.bool (decide (i_665 < b_3))) rfl rfl rfl<|dk<|?_
  rcases oi hc1 with ⟨c799,hc1⟩ | ⟨c799,hc1⟩
  ·refine w_condt rfl c799<|w_skip<|k_seq<|awp_seq<|w_blk<|sr<|s_mov (.int .i64 i_665) rfl<|s_mov (.int .i64 i_665) rfl<|dk<|?_
   obtain ⟨data_897,hb1,hc1⟩:=ob hc1
   refine awp_cutb ([(0,(.own 0 0 data_897.length)),(1,(.int .i64 a_2)),(2,(.int .i64 b_3)),(3,(.fn 33 [])),(8,(.int .i64 i_665))],[.row 3 (data_897.map encGAtom)]) ?_ ?_
   ·refine awp_loop (X:={q:(Nat × Int × (List GAtom)) // slices_insertionSortCmpFunc_impl_Atom_h0_L2 a_2 q.1 q.2.1 q.2.2 = some data_897}) (fun q => ([(0,(.own 0 0 q.1.2.2.length)),(1,(.int .i64 a_2)),(2,(.int .i64 b_3)),(3,(.fn 33 [])),(8,(.int .i64 i_665)),(9,(.int .i64 q.1.2.1))],[.row 3 (q.1.2.2.map encGAtom)])) (fun q => q.1.1) ⟨(FUEL,i_665,data_666),hb1⟩ ⟨[],[0],_,_,rfl,rfl,⟨.refl _,⟨.refl _,⟨.refl _,⟨.refl _,⟨.refl _,⟨.refl _,trivial⟩⟩⟩⟩⟩⟩,(.refl _)⟩ ?_
    rintro ⟨⟨k,j_864,data_865⟩,hc1⟩
    have hc1:slices_insertionSortCmpFunc_impl_Atom_h0_L2 a_2 k j_864 data_865 = some data_897:=hc1
    refine (show awp Try.prog true 1 _ (ofL [(0,(.own 0 0 data_865.length)),(1,(.int .i64 a_2)),(2,(.int .i64 b_3)),(3,(.fn 33 [])),(8,(.int .i64 i_665)),(9,(.int .i64 j_864))]) [.row 3 (data_865.map encGAtom)] _ from ?_)
    rcases k with _ | k
    ·rw [slices_insertionSortCmpFunc_impl_Atom_h0_L2.eq_1] at hc1
     cases hc1
    ·rw [slices_insertionSortCmpFunc_impl_Atom_h0_L2.eq_2] at hc1;refine awp_seq<|awp_seq<|?_
     obtain ⟨s34_908,hb2,hc1⟩:=ob hc1
     refine awp_cut ([(0,(.own 0 0 data_865.length)),(1,(.int .i64 a_2)),(2,(.int .i64 b_3)),(3,(.fn 33 [])),(8,(.int .i64 i_665)),(9,(.int .i64 j_864)),(34,(.bool s34_908))],[.row 3 (data_865.map encGAtom)]) ?_ ?_
     ·refine w_reg<|s_mov (.int .i64 j_864) rfl<|s_mov (.int .i64 a_2) rfl<|s_q (.bool (decide (j_864 > a_2))) rfl rfl rfl<|s_mov (.bool (decide (j_864 > a_2))) rfl<|?_
      rcases oi hb2 with ⟨c910,hb2⟩ | ⟨c910,hb2⟩
      ·refine s_lit (s:=21) (b:=true) rfl c910<|s_on rfl<|s_mov (.fn 33 []) rfl<|s_on rfl<|s_mov (.own 0 0 data_865.length) rfl<|s_on rfl<|s_mov (.int .i64 j_864) rfl<|s_on rfl<|?_
       obtain ⟨g911,hb2⟩:=og hb2
       refine s_do (o_iaddrown rfl rfl g911.1 g911.2 rfl rfl)<|s_on rfl<|?_
       obtain ⟨x_912,ex913,hb2⟩:=ob hb2
       refine s_do (o_loadrow (enc:=encGAtom) (v:=(encGAtom x_912)) rfl rfl ex913 nle rfl)<|s_on rfl<|s_mov (.own 0 0 data_865.length) rfl<|s_on rfl<|s_mov (.int .i64 j_864) rfl<|s_on rfl<|s_q (.int .i64 (w64 (j_864 - 1))) rfl rfl rfl<|s_on rfl<|?_
       obtain ⟨g914,hb2⟩:=og hb2
       refine s_do (o_iaddrown rfl rfl g914.1 g914.2 rfl rfl)<|s_on rfl<|?_
       obtain ⟨x_915,ex916,hb2⟩:=ob hb2
       refine s_do (o_loadrow (enc:=encGAtom) (v:=(encGAtom x_915)) rfl rfl ex916 nle rfl)<|s_onl rfl<|?_
       obtain ⟨r_917,er918,hb2⟩:=ob hb2
       refine s_dol (o_calvk (v:=(.int .i64 r_917)) rfl (by kernel_rfl) (w_impl_compareAtoms _ _ _ er918) rfl rfl (.refl _) rfl) a_same trivial<|s_on rfl<|s_q (.bool (decide (r_917 < 0))) rfl rfl rfl<|s_q (.bool (decide (r_917 < 0))) rfl trivial rfl<|w_done<|?_;obtain rfl:=os hb2;exact ⟨[],[0],_,_,rfl,rfl,⟨.refl _,⟨.refl _,⟨.refl _,⟨.refl _,⟨.refl _,⟨.refl _,⟨.refl _,trivial⟩⟩⟩⟩⟩⟩⟩,(.refl _)⟩
      ·refine s_lit (s:=21) (b:=false) rfl (bf c910)<|s_off rfl rfl<|s_off rfl rfl<|s_off rfl rfl<|s_off rfl rfl<|s_off rfl rfl<|s_off rfl rfl<|s_off rfl rfl<|s_off rfl rfl<|s_off rfl rfl<|s_off rfl rfl<|s_offl rfl rfl trivial<|s_off rfl rfl<|s_q (.bool false) rfl trivial rfl<|w_done<|?_;obtain rfl:=os hb2;exact ⟨[],[0],_,_,rfl,rfl,⟨.refl _,⟨.refl _,⟨.refl _,⟨.refl _,⟨.refl _,⟨.refl _,⟨.refl _,trivial⟩⟩⟩⟩⟩⟩⟩,(.refl _)⟩
     ·rcases oi hc1 with ⟨c919,hc1⟩ | ⟨c919,hc1⟩
      ·refine w_condt rfl c919<|w_skip<|k_seq<|awp_seq<|w_blk<|w_reg<|s_mov (.own 0 0 data_865.length) rfl<|s_mov (.int .i64 j_864) rfl<|s_mov (.own 0 0 data_865.length) rfl<|s_mov (.int .i64 j_864) rfl<|s_q (.int .i64 (w64 (j_864 - 1))) rfl rfl rfl<|s_mov (.own 0 0 data_865.length) rfl<|s_mov (.int .i64 j_864) rfl<|s_q (.int .i64 (w64 (j_864 - 1))) rfl rfl rfl<|?_
       obtain ⟨g920,hc1⟩:=og hc1
       refine s_do (o_iaddrown rfl rfl g920.1 g920.2 rfl rfl) ?_
       obtain ⟨x_921,ex922,hc1⟩:=ob hc1
       refine s_do (o_loadrow (enc:=encGAtom) (v:=(encGAtom x_921)) rfl rfl ex922 nle rfl)<|s_mov (.own 0 0 data_865.length) rfl<|s_mov (.int .i64 j_864) rfl<|?_
       obtain ⟨g923,hc1⟩:=og hc1
       refine s_do (o_iaddrown rfl rfl g923.1 g923.2 rfl rfl) ?_
       obtain ⟨x_924,ex925,hc1⟩:=ob hc1
       refine s_do (o_loadrow (enc:=encGAtom) (v:=(encGAtom x_924)) rfl rfl ex925 nle rfl) ?_
       obtain ⟨g926,hc1⟩:=og hc1
       refine s_do (o_iaddrown rfl rfl g926.1 g926.2 rfl rfl) ?_;refine s_dol0 (o_storerow (v':=(encGAtom x_921)) (e':=x_921) rfl rfl ex925 rfl rfl rfl (by decide) (fun _ => by decide) ⟨rfl,nle⟩ (.refl _) rfl) trivial trivial ?_
       obtain ⟨g927,hc1⟩:=og hc1
       refine s_do (o_iaddrown rfl rfl g927.1 g927.2 rfl rfl) ?_
       obtain ⟨x_928,ex929,hc1⟩:=ob hc1
       refine s_dol0 (o_storerow (v':=(encGAtom x_924)) (e':=x_924) rfl rfl ex929 rfl rfl rfl (by decide) (fun _ => by decide) ⟨rfl,nle⟩ (.refl _) rfl) trivial trivial ?_;refine w_done<|k_blk<|k_seq<|w_reg<|s_mov (.int .i64 j_864) rfl<|s_q (.int .i64 (w64 (j_864 - 1))) rfl rfl rfl<|s_mov (.int .i64 (w64 (j_864 - 1))) rfl<|w_done<|?_;exact k_loopn ⟨(k,w64 (j_864 - 1),(data_865.set (0 + j_864.toNat) x_921).set (0 + (w64 (j_864 - 1)).toNat) x_924),hc1⟩ (Nat.lt_succ_self _) ⟨[],[0],_,_,rfl,rfl,⟨.of_eq (congrArg (AV.own _ 0) (by simp)),⟨.refl _,⟨.refl _,⟨.refl _,⟨.refl _,⟨.refl _,trivial⟩⟩⟩⟩⟩⟩,(.refl _)⟩
      ·refine w_condf rfl (bf c919)<|w_exit<|k_seqx<|k_loopx<|k_blkx<|?_;refine k_blk ?_;obtain rfl:=os hc1;exact ⟨[],[0],_,_,rfl,rfl,⟨.refl _,⟨.refl _,⟨.refl _,⟨.refl _,⟨.refl _,trivial⟩⟩⟩⟩⟩,(.refl _)⟩
   ·refine w_reg<|s_mov (.int .i64 i_665) rfl<|s_q (.int .i64 (w64 (i_665 + 1))) rfl rfl rfl<|s_mov (.int .i64 (w64 (i_665 + 1))) rfl<|w_done<|?_;exact k_loopn ⟨(k,w64 (i_665 + 1),data_897),hc1⟩ (Nat.lt_succ_self _) ⟨[],[0],_,_,rfl,rfl,⟨.refl _,⟨.refl _,⟨.refl _,⟨.refl _,⟨.refl _,trivial⟩⟩⟩⟩⟩,(.refl _)⟩
  ·refine w_condf rfl (bf c799)<|w_exit<|k_seqx<|k_loopx<|k_blkx<|?_;obtain rfl:=os hc1;exact r_heap [] [0] rfl trivial rfl (.refl _) (.refl _)

/- slices.pdqsortCmpFunc[impl.Atom] -/
def c119_h0:ACode :=
 (.seq (.reg (tm 10 (.c (.bool true)) .done))
 (.seq (.reg (tm 11 (.c (.bool true)) .done))
 (.block 0 (.loop (.block 1 (.seq (.reg (tm 21 (.t 2) (tm 22 (.t 1) (tq 23 (.bin .sub (.t 21) (.t 22)) (tm 12 (.t 23) .done)))))
 (.seq (.seq (.reg (tm 24 (.t 12) (tq 25 (.bin .leq (.t 24) (.c (.int .i64 12))) .done)))
 (.cond (.t 25) (.seq (.reg (tm 26 (.t 0) (tm 27 (.t 1) (tm 28 (.t 2) (tm 29 (.t 4) (tq 30 (.call 126 [(.t 26),(.t 27),(.t 28),(.t 29)]) .done))))))
 .ret)
 .skip))
 (.seq (.seq (.reg (tm 31 (.t 3) (tq 32 (.bin .eql (.t 31) (.c (.int .i64 0))) .done)))
 (.cond (.t 32) (.seq (.reg (tm 33 (.t 0) (tm 34 (.t 1) (tm 35 (.t 2) (tm 36 (.t 4) (tq 37 (.call 127 [(.t 33),(.t 34),(.t 35),(.t 36)]) .done))))))
 .ret)
 .skip))
 (.seq (.seq (.reg (tm 38 (.t 10) (tq 39 (.not (.t 38)) .done)))
 (.cond (.t 39) (.seq (.reg (tm 40 (.t 0) (tm 41 (.t 1) (tm 42 (.t 2) (tm 43 (.t 4) (tq 44 (.call 128 [(.t 40),(.t 41),(.t 42),(.t 43)]) .done))))))
 (.reg (tm 45 (.t 3) (tq 46 (.bin .sub (.t 45) (.c (.int .i64 1))) (tm 3 (.t 46) .done)))))
 .skip))
 (.seq (.reg (tm 48 (.t 0) (tm 49 (.t 1) (tm 50 (.t 2) (tm 51 (.t 4) (tq 52 (.call 129 [(.t 48),(.t 49),(.t 50),(.t 51)]) (tm 47 (.t 52) (tq 53 (.extract 0 (.t 47)) (tq 54 (.extract 1 (.t 47)) (tm 13 (.t 53) (tm 14 (.t 54) .done)))))))))))
 (.seq (.seq (.reg (tm 55 (.t 14) (tq 56 (.bin .eql (.t 55) (.c (.int .i64 2))) .done)))
 (.cond (.t 56) (.seq (.reg (tm 57 (.t 0) (tm 58 (.t 1) (tm 59 (.t 2) (tm 60 (.t 4) (tq 61 (.call 130 [(.t 57),(.t 58),(.t 59),(.t 60)]) .done))))))
 (.seq (.reg (tm 62 (.t 2) (tq 63 (.bin .sub (.t 62) (.c (.int .i64 1))) (tm 64 (.t 13) (tm 65 (.t 1) (tq 66 (.bin .sub (.t 64) (.t 65)) (tq 67 (.bin .sub (.t 63) (.t 66)) (tm 13 (.t 67) .done))))))))
 (.reg (tm 14 (.c (.int .i64 1)) .done))))
 .skip))
 (.seq (.seq (.reg (tm 68 (.t 10) (tm 69 (.t 68) (tg 70 69 true (.mov (.t 11)) (tq 71 (.pick (.t 69) (.t 70) (.c (.bool false))) (tm 72 (.t 71) (tg 73 72 true (.mov (.t 14)) (tg 74 72 true (.bin .eql (.t 73) (.c (.int .i64 1))) (tq 75 (.pick (.t 72) (.t 74) (.c (.bool false))) .done)))))))))
 (.cond (.t 75) (.seq (.reg (tm 76 (.t 0) (tm 77 (.t 1) (tm 78 (.t 2) (tm 79 (.t 4) (tq 80 (.call 131 [(.t 76),(.t 77),(.t 78),(.t 79)]) .done))))))
 (.cond (.t 80) .ret
 .skip))
 .skip))
 (.seq (.seq (.reg (tm 81 (.t 1) (tq 82 (.bin .gtr (.t 81) (.c (.int .i64 0))) (tm 83 (.t 82) (tg 84 83 true (.mov (.t 4)) (tg 85 83 true (.mov (.t 0)) (tg 86 83 true (.mov (.t 1)) (tg 87 83 true (.bin .sub (.t 86) (.c (.int .i64 1))) (tg 88 83 true (.iaddr 3 (.t 85) (.t 87)) (tg 89 83 true (.load 3 true (.t 88)) (tg 90 83 true (.mov (.t 0)) (tg 91 83 true (.mov (.t 13)) (tg 92 83 true (.iaddr 3 (.t 90) (.t 91)) (tg 93 83 true (.load 3 true (.t 92)) (.l ⟨(some 94),(some (83,true)),.calv (.t 84) [(.t 89),(.t 93)]⟩ []
 (tg 95 83 true (.bin .lss (.t 94) (.c (.int .i64 0))) (tg 96 83 true (.not (.t 95)) (tq 97 (.pick (.t 83) (.t 96) (.c (.bool false))) .done))) .non)))))))))))))))
 (.cond (.t 97) (.seq (.reg (tm 98 (.t 0) (tm 99 (.t 1) (tm 100 (.t 2) (tm 101 (.t 13) (tm 102 (.t 4) (tq 103 (.call 132 [(.t 98),(.t 99),(.t 100),(.t 101),(.t 102)]) (tm 15 (.t 103) .done))))))))
 (.seq (.reg (tm 104 (.t 15) (tm 1 (.t 104) .done)))
 (.exit 1)))
 .skip))
 (.seq (.reg (tm 106 (.t 0) (tm 107 (.t 1) (tm 108 (.t 2) (tm 109 (.t 13) (tm 110 (.t 4) (tq 111 (.call 133 [(.t 106),(.t 107),(.t 108),(.t 109),(.t 110)]) (tm 105 (.t 111) (tq 112 (.extract 0 (.t 105)) (tq 113 (.extract 1 (.t 105)) (tm 16 (.t 112) (tm 17 (.t 113) .done))))))))))))
 (.seq (.reg (tm 114 (.t 17) (tm 11 (.t 114) .done)))
 (.seq (.reg (tm 115 (.t 16) (tm 116 (.t 1) (tq 117 (.bin .sub (.t 115) (.t 116)) (tm 118 (.t 2) (tm 119 (.t 16) (tq 120 (.bin .sub (.t 118) (.t 119)) (tm 18 (.t 117) (tm 19 (.t 120) .done)))))))))
 (.seq (.reg (tm 121 (.t 12) (tq 122 (.bin .quo (.t 121) (.c (.int .i64 8))) (tm 20 (.t 122) .done))))
 (.seq (.reg (tm 123 (.t 18) (tm 124 (.t 19) (tq 125 (.bin .lss (.t 123) (.t 124)) .done))))
 (.cond (.t 125) (.seq (.reg (tm 126 (.t 18) (tm 127 (.t 20) (tq 128 (.bin .geq (.t 126) (.t 127)) (tm 10 (.t 128) .done)))))
 (.seq (.reg (tm 129 (.t 0) (tm 130 (.t 1) (tm 131 (.t 16) (tm 132 (.t 3) (tm 133 (.t 4) (tq 134 (.call 119 [(.t 129),(.t 130),(.t 131),(.t 132),(.t 133)]) .done)))))))
 (.reg (tm 135 (.t 16) (tq 136 (.bin .add (.t 135) (.c (.int .i64 1))) (tm 1 (.t 136) .done))))))
 (.seq (.reg (tm 137 (.t 19) (tm 138 (.t 20) (tq 139 (.bin .geq (.t 137) (.t 138)) (tm 10 (.t 139) .done)))))
 (.seq (.reg (tm 140 (.t 0) (tm 141 (.t 16) (tq 142 (.bin .add (.t 141) (.c (.int .i64 1))) (tm 143 (.t 2) (tm 144 (.t 3) (tm 145 (.t 4) (tq 146 (.call 119 [(.t 140),(.t 142),(.t 143),(.t 144),(.t 145)]) .done))))))))
 (.reg (tm 147 (.t 16) (tm 2 (.t 147) .done))))))))))))))))))))))))
theorem fc119_h0:fcomp Try.prog Try.f119 = some (c119_h0.erase,[],148):=by kernel_rfl
def slices_pdqsortCmpFunc_impl_Atom_h0_B_L1 (b_3:Int) (a_2:Int) (data_1:(List GAtom)):Nat → Option (List GAtom)
  | 0 => none
  | k + 1 =>
    if (decide (w64 (b_3 - a_2) ≤ 12)) then
    (slices_insertionSortCmpFunc_impl_Atom_h0 data_1 a_2 b_3).bind fun r_15 =>
    some r_15
    else
    none

def slices_pdqsortCmpFunc_impl_Atom_h0_B (rec:((List GAtom) → Int → Int → Int → Option (List GAtom))) (data_1:(List GAtom)) (a_2:Int) (b_3:Int) (limit_4:Int):Option (List GAtom) :=
    slices_pdqsortCmpFunc_impl_Atom_h0_B_L1 b_3 a_2 data_1 FUEL 
theorem w_slices_pdqsortCmpFunc_impl_Atom_h0_B (rec:((List GAtom) → Int → Int → Int → Option (List GAtom))) (hrec:∀ a0 a1 a2 a3 r,rec a0 a1 a2 a3 = some r → CallHeap Try.prog true 119 [(.own 0 0 a0.length),(.int .i64 a1),(.int .i64 a2),(.int .i64 a3),(.fn 33 [])] [.row 3 (a0.map encGAtom)] (.tup []) [.row 3 (r.map encGAtom)]) (data_1:(List GAtom)) (a_2:Int) (b_3:Int) (limit_4:Int) (r:(List GAtom)) (hf:slices_pdqsortCmpFunc_impl_Atom_h0_B rec data_1 a_2 b_3 limit_4 = some r):CallHeap Try.prog true 119 [(.own 0 0 data_1.length),(.int .i64 a_2),(.int .i64 b_3),(.int .i64 limit_4),(.fn 33 [])] [.row 3 (data_1.map encGAtom)] (.tup []) [.row 3 (r.map encGAtom)]:=by
 refine CallHeap.of_awp mixed Try.func119 fc119_h0 nle ?_;rw [argT_eq];unfold slices_pdqsortCmpFunc_impl_Atom_h0_B at hf;unfold c119_h0;refine (show awp Try.prog true 1 _ (ofL [(0,(.own 0 0 data_1.length)),(1,(.int .i64 a_2)),(2,(.int .i64 b_3)),(3,(.int .i64 limit_4)),(4,(.fn 33 []))]) [.row 3 (data_1.map encGAtom)] _ from ?_);refine sr<|s_mov (.bool true) rfl<|dk<|sr<|s_mov (.bool true) rfl<|dk<|?_;refine awp_loop (X:={q:Nat // slices_pdqsortCmpFunc_impl_Atom_h0_B_L1 b_3 a_2 data_1 q = some r}) (fun q => ([(0,(.own 0 0 data_1.length)),(1,(.int .i64 a_2)),(2,(.int .i64 b_3)),(3,(.int .i64 limit_4)),(4,(.fn 33 [])),(10,(.bool true)),(11,(.bool true))],[.row 3 (data_1.map encGAtom)])) (fun q => q.1) ⟨FUEL,hf⟩ ⟨[],[0],_,_,rfl,rfl,⟨.refl _,⟨.refl _,⟨.refl _,⟨.refl _,⟨.refl _,⟨.refl _,⟨.refl _,trivial⟩⟩⟩⟩⟩⟩⟩,(.refl _)⟩ ?_
 rintro ⟨k,hc1⟩
 have hc1:slices_pdqsortCmpFunc_impl_Atom_h0_B_L1 b_3 a_2 data_1 k  = some r:=hc1
 refine (show awp Try.prog true 1 _ (ofL [(0,(.own 0 0 data_1.length)),(1,(.int .i64 a_2)),(2,(.int .i64 b_3)),(3,(.int .i64 limit_4)),(4,(.fn 33 [])),(10,(.bool true)),(11,(.bool true))]) [.row 3 (data_1.map encGAtom)] _ from ?_)
 rcases k with _ | k
 ·rw [slices_pdqsortCmpFunc_impl_Atom_h0_B_L1.eq_1] at hc1
  cases hc1
 ·rw [slices_pdqsortCmpFunc_impl_Atom_h0_B_L1.eq_2] at hc1;refine w_blk<|sr<|s_mov (.int .i64 b_3) rfl<|s_mov (.int .i64 a_2) rfl<|s_q (.int .i64 (w64 (b_3 - a_2))) rfl rfl rfl<|s_mov (.int .i64 (w64 (b_3 - a_2))) rfl<|dk<|awp_seq<|sr<|s_mov (.int .i64 (w64 (b_3 - a_2))) rfl<|s_q (.bool (decide (w64 (b_3 - a_2) ≤ 12))) rfl rfl rfl<|dk<|?_
  rcases oi hc1 with ⟨c14,hc1⟩ | ⟨c14,hc1⟩
  ·refine w_condt rfl c14<|sr<|?_
   obtain ⟨r_15,er16,hc1⟩:=ob hc1
   refine s_mov (.own 0 0 data_1.length) rfl<|s_mov (.int .i64 a_2) rfl<|s_mov (.int .i64 b_3) rfl<|s_mov (.fn 33 []) rfl<|?_;refine s_dof (o_callhs (v:=(.tup [])) (h2:=[.row 3 (r_15.map encGAtom)]) [] [0] (fun _ => rfl) (w_slices_insertionSortCmpFunc_impl_Atom_h0 _ _ _ _ er16) rfl (.refl _) (.refl _) rfl rfl) fun hl17 => ?_;refine dk<|w_ret<|?_;obtain rfl:=os hc1;exact r_heap [] [0] rfl trivial rfl (.refl _) (.refl _)
  ·cases hc1
def slices_pdqsortCmpFunc_impl_Atom_h0:Nat → (List GAtom) → Int → Int → Int → Option (List GAtom)
 | 0,_,_,_,_ => none
 | k + 1,data_1,a_2,b_3,limit_4 => slices_pdqsortCmpFunc_impl_Atom_h0_B (slices_pdqsortCmpFunc_impl_Atom_h0 k) data_1 a_2 b_3 limit_4
theorem w_slices_pdqsortCmpFunc_impl_Atom_h0:∀ (k:Nat) (data_1:(List GAtom)) (a_2:Int) (b_3:Int) (limit_4:Int) (r:(List GAtom)),slices_pdqsortCmpFunc_impl_Atom_h0 k data_1 a_2 b_3 limit_4 = some r → CallHeap Try.prog true 119 [(.own 0 0 data_1.length),(.int .i64 a_2),(.int .i64 b_3),(.int .i64 limit_4),(.fn 33 [])] [.row 3 (data_1.map encGAtom)] (.tup []) [.row 3 (r.map encGAtom)]
 | 0,data_1,a_2,b_3,limit_4,r,h => by rw [slices_pdqsortCmpFunc_impl_Atom_h0.eq_1] at h;cases h
 | k + 1,data_1,a_2,b_3,limit_4,r,h => by
  rw [slices_pdqsortCmpFunc_impl_Atom_h0.eq_2] at h;exact w_slices_pdqsortCmpFunc_impl_Atom_h0_B _ (w_slices_pdqsortCmpFunc_impl_Atom_h0 k) data_1 a_2 b_3 limit_4 r h

/- slices.SortFunc[[]impl.Atom,impl.Atom] -/
def c102_h0:ACode :=
 (.seq (.reg (tm 5 (.t 0) (tq 6 (.len (.t 5)) (tm 4 (.t 6) .done))))
 (.reg (tm 7 (.t 0) (tm 8 (.t 4) (tm 9 (.t 4) (tq 10 (.convI .u64 (.t 9)) (tq 11 (.call 120 [(.t 10)]) (tm 12 (.t 1) (tq 13 (.call 119 [(.t 7),(.c (.int .i64 0)),(.t 8),(.t 11),(.t 12)]) .done)))))))))
theorem fc102_h0:fcomp Try.prog Try.f102 = some (c102_h0.erase,[],14):=by kernel_rfl
def slices_SortFunc_impl_Atom_impl_Atom_h0 (x_1:(List GAtom)):Option (List GAtom) :=
    (math_bits_Len (IntKind.u64.wrap (x_1.length:Int))).bind fun r_3 =>
    (slices_pdqsortCmpFunc_impl_Atom_h0 FUEL x_1 0 (x_1.length:Int) r_3).bind fun r_5 =>
    some r_5
theorem w_slices_SortFunc_impl_Atom_impl_Atom_h0 (x_1:(List GAtom)) (r:(List GAtom)) (hf:slices_SortFunc_impl_Atom_impl_Atom_h0 x_1 = some r):CallHeap Try.prog true 102 [(.own 0 0 x_1.length),(.fn 33 [])] [.row 3 (x_1.map encGAtom)] (.tup []) [.row 3 (r.map encGAtom)]:=by
 refine CallHeap.of_awp mixed Try.func102 fc102_h0 nle ?_;rw [argT_eq];unfold slices_SortFunc_impl_Atom_impl_Atom_h0 at hf;unfold c102_h0;refine (show awp Try.prog true 1 _ (ofL [(0,(.own 0 0 x_1.length)),(1,(.fn 33 []))]) [.row 3 (x_1.map encGAtom)] _ from ?_);refine sr<|s_mov (.own 0 0 x_1.length) rfl<|s_dof (o_lenown rfl rfl) fun hl2 => s_mov (.int .i64 (x_1.length:Int)) rfl<|dk<|w_reg<|?_
 obtain ⟨r_3,er4,hf⟩:=ob hf
 obtain ⟨r_5,er6,hf⟩:=ob hf
 refine s_mov (.own 0 0 x_1.length) rfl<|s_mov (.int .i64 (x_1.length:Int)) rfl<|s_mov (.int .i64 (x_1.length:Int)) rfl<|s_q (.int .u64 (IntKind.u64.wrap (x_1.length:Int))) rfl trivial rfl<|s_do (o_call (w_math_bits_Len _ _ er4) rfl (.refl _) rfl)<|s_mov (.fn 33 []) rfl<|?_;refine s_dof (o_callhs (v:=(.tup [])) (h2:=[.row 3 (r_5.map encGAtom)]) [] [0] (fun _ => rfl) (w_slices_pdqsortCmpFunc_impl_Atom_h0 FUEL _ _ _ _ _ er6) rfl (.refl _) (.refl _) rfl rfl) fun hl7 => ?_;refine w_done ?_;obtain rfl:=os hf;exact r_heap [] [0] rfl trivial rfl (.refl _) (.refl _)

end Go.R
