/- Walks. -/
import Derived.Test.YtdnjjfoooagphaaFLT
set_option linter.all false
namespace Go.R
open Go Go.Proofs
set_option linter.unusedVariables false
set_option linter.unusedSimpArgs false
set_option maxHeartbeats 8000000
/- spec.l00Source -/
def c95_h0 : ACode :=
 (.seq (.reg (tm 2 (.c .undef) .done))
 (.seq (.reg (tm 3 (.t 0) (tm 4 (.t 0) (tq 5 (.len (.t 4)) (tq 6 (.bin .rem (.t 5) (.c (.int .i64 1000))) (tq 7 (.build [.nil, (.int .i64 0), (.int .i64 0)] [(0, 1, (.t 3)), (2, 1, (.t 6))]) (tq 8 (.box 3 (.t 7)) (tm 2 (.t 8) .done))))))))
 .ret))
theorem fc95_h0 : fcomp Try.prog Try.f95 = some (c95_h0.erase, [.mov (.t 2)], 9) := by kernel_rfl
def spec_l00Source (code_1 : (List Int)) : Option GL00Src :=
    some (⟨code_1, 0, (code_1.length : Int).tmod 1000⟩ : GL00Src)
theorem w_spec_l00Source (code_1 : (List Int)) (r : GL00Src) (hf : spec_l00Source code_1 = some r) : CallHeap Try.prog true 95 [(.lst 1 (code_1.map enc_u8))] [] (.ptr 0 0 0) [.box 3 (.agg [(.lst 1 (r.Code.map enc_u8)), (.int .i64 r.At), (.int .i64 r.Seed)])] := by
  refine CallHeap.of_awp mixed Try.func95 fc95_h0 nle ?_
  rw [argT_eq]
  unfold spec_l00Source at hf
  unfold c95_h0
  refine (show awp Try.prog true 0 _ (ofL [(0, (.lst 1 (code_1.map enc_u8)))]) [] _ from ?_)
  refine awp_seq ?_
  refine w_reg ?_
  refine s_do (o_mov .undef rfl) ?_
  refine w_done ?_
  refine k_seq ?_
  refine awp_seq ?_
  refine w_reg ?_
  refine s_do (o_mov (.lst 1 (code_1.map enc_u8)) rfl) ?_
  refine s_do (o_mov (.lst 1 (code_1.map enc_u8)) rfl) ?_
  refine s_dof (o_len (enc := enc_u8) rfl) fun hl2 => ?_
  refine s_do (o_q (.int .i64 ((code_1.length : Int).tmod 1000)) rfl ⟨rfl, by decide⟩ rfl) ?_
  refine s_do (o_q (.agg [(.lst 1 (code_1.map enc_u8)), (.int .i64 0), (.int .i64 ((code_1.length : Int).tmod 1000))]) rfl ⟨⟨rfl, nle, trivial⟩, ⟨⟨rfl, nle, trivial⟩, trivial⟩⟩ rfl) ?_
  refine s_do (o_box (j := 0) (c := (.agg [(.lst 1 (code_1.map enc_u8)), (.int .i64 0), (.int .i64 ((code_1.length : Int).tmod 1000))])) rfl trivial rfl rfl) ?_
  refine s_do (o_mov (.ptr 0 0 0) rfl) ?_
  refine w_done ?_
  refine k_seq ?_
  refine w_ret ?_
  obtain rfl := os hf
  exact r_heap [] [0] rfl ⟨trivial, trivial⟩ rfl (.refl _) (.refl _)

/- (*spec.l00Src).byte -/
def c250_h0 : ACode :=
 (.seq (.reg (tm 2 (.c (.int .i64 0)) .done))
 (.seq (.reg (tm 3 (.t 0) (tq 4 (.nilck (.t 3)) (tq 5 (.faddr 1 (.t 4)) (tq 6 (.load 1 false (.t 5)) (tq 7 (.bin .add (.t 6) (.c (.int .i64 1))) (tq 8 (.nilck (.t 3)) (tq 9 (.faddr 1 (.t 8)) (.q ⟨none, none, .store 1 (.t 9) (.t 7)⟩
 .done)))))))))
 (.seq (.seq (.reg (tm 10 (.t 0) (tq 11 (.nilck (.t 10)) (tq 12 (.faddr 1 (.t 11)) (tq 13 (.load 1 false (.t 12)) (tm 14 (.t 0) (tq 15 (.nilck (.t 14)) (tq 16 (.faddr 0 (.t 15)) (tq 17 (.load 1 false (.t 16)) (tq 18 (.len (.t 17)) (tq 19 (.bin .leq (.t 13) (.t 18)) .done)))))))))))
 (.cond (.t 19) (.seq (.reg (tm 20 (.t 0) (tm 21 (.t 0) (tq 22 (.nilck (.t 21)) (tq 23 (.faddr 2 (.t 22)) (tq 24 (.load 1 false (.t 23)) (tq 25 (.bin .mul (.t 24) (.c (.int .i64 31))) (tm 26 (.t 0) (tq 27 (.nilck (.t 26)) (tq 28 (.faddr 0 (.t 27)) (tq 29 (.load 1 false (.t 28)) (tm 30 (.t 0) (tq 31 (.nilck (.t 30)) (tq 32 (.faddr 1 (.t 31)) (tq 33 (.load 1 false (.t 32)) (tq 34 (.bin .sub (.t 33) (.c (.int .i64 1))) (tq 35 (.iaddr 1 (.t 29) (.t 34)) (tq 36 (.load 1 false (.t 35)) (tq 37 (.convI .i64 (.t 36)) (tq 38 (.bin .add (.t 25) (.t 37)) (tq 39 (.bin .add (.t 38) (.c (.int .i64 7))) (tq 40 (.bin .rem (.t 39) (.c (.int .i64 2147483648))) (tq 41 (.nilck (.t 20)) (tq 42 (.faddr 2 (.t 41)) (.l ⟨none, none, .store 1 (.t 42) (.t 40)⟩ []
 .done .non)))))))))))))))))))))))))
 (.seq (.reg (tm 43 (.t 0) (tq 44 (.nilck (.t 43)) (tq 45 (.faddr 0 (.t 44)) (tq 46 (.load 1 false (.t 45)) (tm 47 (.t 0) (tq 48 (.nilck (.t 47)) (tq 49 (.faddr 1 (.t 48)) (tq 50 (.load 1 false (.t 49)) (tq 51 (.bin .sub (.t 50) (.c (.int .i64 1))) (tq 52 (.iaddr 1 (.t 46) (.t 51)) (tq 53 (.load 1 false (.t 52)) (tq 54 (.convI .i64 (.t 53)) (tm 2 (.t 54) .done))))))))))))))
 .ret))
 .skip))
 (.seq (.seq (.reg (tm 55 (.t 0) (tq 56 (.nilck (.t 55)) (tq 57 (.faddr 1 (.t 56)) (tq 58 (.load 1 false (.t 57)) (tq 59 (.bin .gtr (.t 58) (.c (.int .i64 3000))) .done))))))
 (.cond (.t 59) (.seq (.reg (tm 2 (.c (.int .i64 0)) .done))
 .ret)
 .skip))
 (.seq (.reg (tm 60 (.t 0) (tm 61 (.t 0) (tq 62 (.nilck (.t 61)) (tq 63 (.faddr 2 (.t 62)) (tq 64 (.load 1 false (.t 63)) (tq 65 (.bin .mul (.t 64) (.c (.int .i64 1103515245))) (tq 66 (.bin .add (.t 65) (.c (.int .i64 12345))) (tq 67 (.bin .rem (.t 66) (.c (.int .i64 2147483648))) (tq 68 (.nilck (.t 60)) (tq 69 (.faddr 2 (.t 68)) (.q ⟨none, none, .store 1 (.t 69) (.t 67)⟩
 .done))))))))))))
 (.seq (.reg (tm 70 (.t 0) (tq 71 (.nilck (.t 70)) (tq 72 (.faddr 2 (.t 71)) (tq 73 (.load 1 false (.t 72)) (tq 74 (.bin .quo (.t 73) (.c (.int .i64 65536))) (tq 75 (.bin .rem (.t 74) (.c (.int .i64 256))) (tm 2 (.t 75) .done))))))))
 .ret))))))
theorem fc250_h0 : fcomp Try.prog Try.f250 = some (c250_h0.erase, [.mov (.t 2)], 76) := by kernel_rfl
def spec_l00Src_byte (s_1 : GL00Src) : Option (Int × GL00Src) :=
    if (decide (w64 (s_1.At + 1) ≤ (s_1.Code.length : Int))) then
    (idx s_1.Code (w64 ((w64 (s_1.At + 1)) - 1))).bind fun x_4 =>
    (idx s_1.Code (w64 ((w64 (s_1.At + 1)) - 1))).bind fun x_6 =>
    some (w64 x_6, (⟨s_1.Code, w64 (s_1.At + 1), (w64 ((w64 ((w64 (s_1.Seed * 31)) + (w64 x_4))) + 7)).tmod 2147483648⟩ : GL00Src))
    else
    if (decide (w64 (s_1.At + 1) > 3000)) then
    some (0, (⟨s_1.Code, w64 (s_1.At + 1), s_1.Seed⟩ : GL00Src))
    else
    some ((w64 (((w64 ((w64 (s_1.Seed * 1103515245)) + 12345)).tmod 2147483648).tdiv 65536)).tmod 256, (⟨s_1.Code, w64 (s_1.At + 1), (w64 ((w64 (s_1.Seed * 1103515245)) + 12345)).tmod 2147483648⟩ : GL00Src))
theorem w_spec_l00Src_byte (s_1 : GL00Src) (r : (Int × GL00Src)) (hf : spec_l00Src_byte s_1 = some r) : CallHeap Try.prog true 250 [(.ptr 0 0 0)] [.box 3 (.agg [(.lst 1 (s_1.Code.map enc_u8)), (.int .i64 s_1.At), (.int .i64 s_1.Seed)])] (.int .i64 r.1) [.box 3 (.agg [(.lst 1 (r.2.Code.map enc_u8)), (.int .i64 r.2.At), (.int .i64 r.2.Seed)])] := by
 refine CallHeap.of_awp mixed Try.func250 fc250_h0 nle ?_; rw [argT_eq]; unfold spec_l00Src_byte at hf; unfold c250_h0; refine (show awp Try.prog true 1 _ (ofL [(0, (.ptr 0 0 0))]) [.box 3 (.agg [(.lst 1 (s_1.Code.map enc_u8)), (.int .i64 s_1.At), (.int .i64 s_1.Seed)])] _ from ?_); refine awp_seq <| w_reg <| s_mov (.int .i64 0) rfl <| w_done <| k_seq <| awp_seq <| w_reg <| s_mov (.ptr 0 0 0) rfl <| s_q (.ptr 0 0 0) rfl trivial rfl <| s_q (.ptr 0 0 1) rfl trivial rfl <| s_q (.int .i64 s_1.At) rfl nle rfl <| s_q (.int .i64 (w64 (s_1.At + 1))) rfl rfl rfl <| s_q (.ptr 0 0 0) rfl trivial rfl <| s_q (.ptr 0 0 1) rfl trivial rfl <| s_do0 (o_storebox (v := (.int .i64 (w64 (s_1.At + 1)))) (y' := (.agg [(.lst 1 (s_1.Code.map enc_u8)), (.int .i64 (w64 (s_1.At + 1))), (.int .i64 s_1.Seed)])) rfl rfl rfl trivial ⟨rfl, nle⟩ ⟨⟨rfl, trivial⟩, trivial⟩ rfl) <| ?_
 refine w_done <| k_seq <| awp_seq <| awp_seq <| w_reg <| s_mov (.ptr 0 0 0) rfl <| s_q (.ptr 0 0 0) rfl trivial rfl <| s_q (.ptr 0 0 1) rfl trivial rfl <| s_q (.int .i64 (w64 (s_1.At + 1))) rfl nle rfl <| s_mov (.ptr 0 0 0) rfl <| s_q (.ptr 0 0 0) rfl trivial rfl <| s_q (.ptr 0 0 0) rfl trivial rfl <| s_q (.lst 1 (s_1.Code.map enc_u8)) rfl nle rfl <| s_dof (o_len (enc := enc_u8) rfl) fun hl2 => s_q (.bool (decide (w64 (s_1.At + 1) ≤ (s_1.Code.length : Int)))) rfl rfl rfl <| w_done <| k_seq <| ?_
 rcases oi hf with ⟨c3, hf⟩ | ⟨c3, hf⟩
 ·refine w_condt rfl c3 <| awp_seq <| w_reg <| s_mov (.ptr 0 0 0) rfl <| s_mov (.ptr 0 0 0) rfl <| s_q (.ptr 0 0 0) rfl trivial rfl <| s_q (.ptr 0 0 2) rfl trivial rfl <| s_q (.int .i64 s_1.Seed) rfl nle rfl <| s_q (.int .i64 (w64 (s_1.Seed * 31))) rfl rfl rfl <| s_mov (.ptr 0 0 0) rfl <| s_q (.ptr 0 0 0) rfl trivial rfl <| s_q (.ptr 0 0 0) rfl trivial rfl <| s_q (.lst 1 (s_1.Code.map enc_u8)) rfl nle rfl <| s_mov (.ptr 0 0 0) rfl <| s_q (.ptr 0 0 0) rfl trivial rfl <| s_q (.ptr 0 0 1) rfl trivial rfl <| s_q (.int .i64 (w64 (s_1.At + 1))) rfl nle rfl <| s_q (.int .i64 (w64 ((w64 (s_1.At + 1)) - 1))) rfl rfl rfl <| ?_
  obtain ⟨x_4, ex5, hf⟩ := ob hf
  refine s_do (o_iaddr (enc := enc_u8) rfl rfl (idx0 ex5) (idx1 ex5)) <| s_q (.int .u8 x_4) rfl ⟨rfl, rfl⟩ rfl <| s_q (.int .i64 (w64 x_4)) rfl trivial rfl <| s_q (.int .i64 (w64 ((w64 (s_1.Seed * 31)) + (w64 x_4)))) rfl rfl rfl <| s_q (.int .i64 (w64 ((w64 ((w64 (s_1.Seed * 31)) + (w64 x_4))) + 7))) rfl rfl rfl <| s_q (.int .i64 ((w64 ((w64 ((w64 (s_1.Seed * 31)) + (w64 x_4))) + 7)).tmod 2147483648)) rfl ⟨rfl, by decide⟩ rfl <| s_q (.ptr 0 0 0) rfl trivial rfl <| s_q (.ptr 0 0 2) rfl trivial rfl <| s_dol0 (o_storebox (v := (.int .i64 ((w64 ((w64 ((w64 (s_1.Seed * 31)) + (w64 x_4))) + 7)).tmod 2147483648))) (y' := (.agg [(.lst 1 (s_1.Code.map enc_u8)), (.int .i64 (w64 (s_1.At + 1))), (.int .i64 ((w64 ((w64 ((w64 (s_1.Seed * 31)) + (w64 x_4))) + 7)).tmod 2147483648))])) rfl rfl rfl trivial ⟨rfl, nle⟩ ⟨⟨rfl, trivial⟩, trivial⟩ rfl) trivial trivial <| ?_
  refine w_done <| k_seq <| awp_seq <| w_reg <| s_mov (.ptr 0 0 0) rfl <| s_q (.ptr 0 0 0) rfl trivial rfl <| s_q (.ptr 0 0 0) rfl trivial rfl <| s_q (.lst 1 (s_1.Code.map enc_u8)) rfl nle rfl <| s_mov (.ptr 0 0 0) rfl <| s_q (.ptr 0 0 0) rfl trivial rfl <| s_q (.ptr 0 0 1) rfl trivial rfl <| s_q (.int .i64 (w64 (s_1.At + 1))) rfl nle rfl <| s_q (.int .i64 (w64 ((w64 (s_1.At + 1)) - 1))) rfl rfl rfl <| ?_
  obtain ⟨x_6, ex7, hf⟩ := ob hf
  refine s_do (o_iaddr (enc := enc_u8) rfl rfl (idx0 ex7) (idx1 ex7)) <| s_q (.int .u8 x_6) rfl ⟨rfl, rfl⟩ rfl <| s_q (.int .i64 (w64 x_6)) rfl trivial rfl <| s_mov (.int .i64 (w64 x_6)) rfl <| w_done <| k_seq <| w_ret <| ?_; obtain rfl := os hf; exact r_heap [] [0] rfl ⟨trivial, trivial⟩ rfl (.refl _) (.refl _)
 ·refine w_condf rfl (bf c3) <| w_skip <| k_seq <| awp_seq <| awp_seq <| w_reg <| s_mov (.ptr 0 0 0) rfl <| s_q (.ptr 0 0 0) rfl trivial rfl <| s_q (.ptr 0 0 1) rfl trivial rfl <| s_q (.int .i64 (w64 (s_1.At + 1))) rfl nle rfl <| s_q (.bool (decide (w64 (s_1.At + 1) > 3000))) rfl rfl rfl <| w_done <| k_seq <| ?_
  rcases oi hf with ⟨c8, hf⟩ | ⟨c8, hf⟩
  ·refine w_condt rfl c8 <| awp_seq <| w_reg <| s_mov (.int .i64 0) rfl <| w_done <| k_seq <| w_ret <| ?_; obtain rfl := os hf; exact r_heap [] [0] rfl ⟨trivial, trivial⟩ rfl (.refl _) (.refl _)
  ·refine w_condf rfl (bf c8) <| w_skip <| k_seq <| awp_seq <| w_reg <| s_mov (.ptr 0 0 0) rfl <| s_mov (.ptr 0 0 0) rfl <| s_q (.ptr 0 0 0) rfl trivial rfl <| s_q (.ptr 0 0 2) rfl trivial rfl <| s_q (.int .i64 s_1.Seed) rfl nle rfl <| s_q (.int .i64 (w64 (s_1.Seed * 1103515245))) rfl rfl rfl <| s_q (.int .i64 (w64 ((w64 (s_1.Seed * 1103515245)) + 12345))) rfl rfl rfl <| s_q (.int .i64 ((w64 ((w64 (s_1.Seed * 1103515245)) + 12345)).tmod 2147483648)) rfl ⟨rfl, by decide⟩ rfl <| s_q (.ptr 0 0 0) rfl trivial rfl <| s_q (.ptr 0 0 2) rfl trivial rfl <| s_do0 (o_storebox (v := (.int .i64 ((w64 ((w64 (s_1.Seed * 1103515245)) + 12345)).tmod 2147483648))) (y' := (.agg [(.lst 1 (s_1.Code.map enc_u8)), (.int .i64 (w64 (s_1.At + 1))), (.int .i64 ((w64 ((w64 (s_1.Seed * 1103515245)) + 12345)).tmod 2147483648))])) rfl rfl rfl trivial ⟨rfl, nle⟩ ⟨⟨rfl, trivial⟩, trivial⟩ rfl) <| ?_
   refine w_done <| k_seq <| awp_seq <| w_reg <| s_mov (.ptr 0 0 0) rfl <| s_q (.ptr 0 0 0) rfl trivial rfl <| s_q (.ptr 0 0 2) rfl trivial rfl <| s_q (.int .i64 ((w64 ((w64 (s_1.Seed * 1103515245)) + 12345)).tmod 2147483648)) rfl nle rfl <| s_q (.int .i64 (w64 (((w64 ((w64 (s_1.Seed * 1103515245)) + 12345)).tmod 2147483648).tdiv 65536))) rfl ⟨rfl, by decide⟩ rfl <| s_q (.int .i64 ((w64 (((w64 ((w64 (s_1.Seed * 1103515245)) + 12345)).tmod 2147483648).tdiv 65536)).tmod 256)) rfl ⟨rfl, by decide⟩ rfl <| s_mov (.int .i64 ((w64 (((w64 ((w64 (s_1.Seed * 1103515245)) + 12345)).tmod 2147483648).tdiv 65536)).tmod 256)) rfl <| w_done <| k_seq <| w_ret <| ?_; obtain rfl := os hf; exact r_heap [] [0] rfl ⟨trivial, trivial⟩ rfl (.refl _) (.refl _)

/- (*spec.l00Src).next -/
def c181_h0 : ACode :=
 (.seq (.reg (tm 4 (.c (.int .i64 0)) .done))
 (.seq (.seq (.reg (tm 8 (.t 1) (tq 9 (.bin .leq (.t 8) (.c (.int .i64 1))) .done)))
 (.cond (.t 9) (.seq (.reg (tm 4 (.c (.int .i64 0)) .done))
 .ret)
 .skip))
 (.seq (.seq (.reg (tm 10 (.t 1) (tq 11 (.bin .leq (.t 10) (.c (.int .i64 256))) .done)))
 (.cond (.t 11) (.seq (.reg (tm 12 (.t 0) (tq 13 (.call 250 [(.t 12)]) (tm 14 (.t 1) (tq 15 (.bin .rem (.t 13) (.t 14)) (tm 4 (.t 15) .done))))))
 .ret)
 .skip))
 (.seq (.reg (tm 16 (.t 0) (tq 17 (.call 250 [(.t 16)]) (tm 5 (.t 17) .done))))
 (.seq (.reg (tm 18 (.t 0) (tq 19 (.call 250 [(.t 18)]) (tm 6 (.t 19) .done))))
 (.seq (.reg (tm 20 (.t 0) (tq 21 (.call 250 [(.t 20)]) (tm 7 (.t 21) .done))))
 (.seq (.reg (tm 22 (.t 5) (tq 23 (.bin .mul (.t 22) (.c (.int .i64 65536))) (tm 24 (.t 6) (tq 25 (.bin .mul (.t 24) (.c (.int .i64 256))) (tq 26 (.bin .add (.t 23) (.t 25)) (tm 27 (.t 7) (tq 28 (.bin .add (.t 26) (.t 27)) (tm 29 (.t 1) (tq 30 (.bin .rem (.t 28) (.t 29)) (tm 4 (.t 30) .done)))))))))))
 .ret)))))))
theorem fc181_h0 : fcomp Try.prog Try.f181 = some (c181_h0.erase, [.mov (.t 4)], 31) := by kernel_rfl
def spec_l00Src_next (n_1 : Int) (s_2 : GL00Src) : Option (Int × GL00Src) :=
    if (decide (n_1 ≤ 1)) then
    some (0, s_2)
    else
    if (decide (n_1 ≤ 256)) then
    (spec_l00Src_byte s_2).bind fun r_5 =>
    if n_1 ≠ 0 then
    some (r_5.1.tmod n_1, r_5.2)
    else none
    else
    (spec_l00Src_byte s_2).bind fun r_8 =>
    (spec_l00Src_byte r_8.2).bind fun r_10 =>
    (spec_l00Src_byte r_10.2).bind fun r_12 =>
    if n_1 ≠ 0 then
    some ((w64 ((w64 ((w64 (r_8.1 * 65536)) + (w64 (r_10.1 * 256)))) + r_12.1)).tmod n_1, r_12.2)
    else none
theorem w_spec_l00Src_next (n_1 : Int) (s_2 : GL00Src) (r : (Int × GL00Src)) (hf : spec_l00Src_next n_1 s_2 = some r) : CallHeap Try.prog true 181 [(.ptr 0 0 0), (.int .i64 n_1)] [.box 3 (.agg [(.lst 1 (s_2.Code.map enc_u8)), (.int .i64 s_2.At), (.int .i64 s_2.Seed)])] (.int .i64 r.1) [.box 3 (.agg [(.lst 1 (r.2.Code.map enc_u8)), (.int .i64 r.2.At), (.int .i64 r.2.Seed)])] := by
 refine CallHeap.of_awp mixed Try.func181 fc181_h0 nle ?_; rw [argT_eq]; unfold spec_l00Src_next at hf; unfold c181_h0; refine (show awp Try.prog true 1 _ (ofL [(0, (.ptr 0 0 0)), (1, (.int .i64 n_1))]) [.box 3 (.agg [(.lst 1 (s_2.Code.map enc_u8)), (.int .i64 s_2.At), (.int .i64 s_2.Seed)])] _ from ?_); refine awp_seq <| w_reg <| s_mov (.int .i64 0) rfl <| w_done <| k_seq <| awp_seq <| awp_seq <| w_reg <| s_mov (.int .i64 n_1) rfl <| s_q (.bool (decide (n_1 ≤ 1))) rfl rfl rfl <| w_done <| k_seq <| ?_
 rcases oi hf with ⟨c3, hf⟩ | ⟨c3, hf⟩
 ·refine w_condt rfl c3 <| awp_seq <| w_reg <| s_mov (.int .i64 0) rfl <| w_done <| k_seq <| w_ret <| ?_; obtain rfl := os hf; exact r_heap [] [0] rfl ⟨trivial, trivial⟩ rfl (.refl _) (.refl _)
 ·refine w_condf rfl (bf c3) <| w_skip <| k_seq <| awp_seq <| awp_seq <| w_reg <| s_mov (.int .i64 n_1) rfl <| s_q (.bool (decide (n_1 ≤ 256))) rfl rfl rfl <| w_done <| k_seq <| ?_
  rcases oi hf with ⟨c4, hf⟩ | ⟨c4, hf⟩
  ·refine w_condt rfl c4 <| awp_seq <| w_reg <| ?_
   obtain ⟨r_5, er6, hf⟩ := ob hf
   obtain ⟨g7, hf⟩ := og hf
   refine s_mov (.ptr 0 0 0) rfl ?_; refine s_do (o_callh (v := (.int .i64 r_5.1)) (h2 := [.box 3 (.agg [(.lst 1 (r_5.2.Code.map enc_u8)), (.int .i64 r_5.2.At), (.int .i64 r_5.2.Seed)])]) [] [0] (fun _ => rfl) (w_spec_l00Src_byte _ _ er6) rfl (.refl _) (.refl _) rfl rfl) ?_; refine s_mov (.int .i64 n_1) rfl <| s_q (.int .i64 (r_5.1.tmod n_1)) rfl ⟨rfl, g7⟩ rfl <| s_mov (.int .i64 (r_5.1.tmod n_1)) rfl <| w_done <| k_seq <| w_ret <| ?_; obtain rfl := os hf; exact r_heap [] [0] rfl ⟨trivial, trivial⟩ rfl (.refl _) (.refl _)
  ·refine w_condf rfl (bf c4) <| w_skip <| k_seq <| awp_seq <| w_reg <| ?_
   obtain ⟨r_8, er9, hf⟩ := ob hf
   refine s_mov (.ptr 0 0 0) rfl ?_; refine s_do (o_callh (v := (.int .i64 r_8.1)) (h2 := [.box 3 (.agg [(.lst 1 (r_8.2.Code.map enc_u8)), (.int .i64 r_8.2.At), (.int .i64 r_8.2.Seed)])]) [] [0] (fun _ => rfl) (w_spec_l00Src_byte _ _ er9) rfl (.refl _) (.refl _) rfl rfl) ?_; refine s_mov (.int .i64 r_8.1) rfl <| w_done <| k_seq <| awp_seq <| w_reg <| ?_
   obtain ⟨r_10, er11, hf⟩ := ob hf
   refine s_mov (.ptr 0 0 0) rfl ?_; refine s_do (o_callh (v := (.int .i64 r_10.1)) (h2 := [.box 3 (.agg [(.lst 1 (r_10.2.Code.map enc_u8)), (.int .i64 r_10.2.At), (.int .i64 r_10.2.Seed)])]) [] [0] (fun _ => rfl) (w_spec_l00Src_byte _ _ er11) rfl (.refl _) (.refl _) rfl rfl) ?_; refine s_mov (.int .i64 r_10.1) rfl <| w_done <| k_seq <| awp_seq <| w_reg <| ?_
   obtain ⟨r_12, er13, hf⟩ := ob hf
   refine s_mov (.ptr 0 0 0) rfl ?_; refine s_do (o_callh (v := (.int .i64 r_12.1)) (h2 := [.box 3 (.agg [(.lst 1 (r_12.2.Code.map enc_u8)), (.int .i64 r_12.2.At), (.int .i64 r_12.2.Seed)])]) [] [0] (fun _ => rfl) (w_spec_l00Src_byte _ _ er13) rfl (.refl _) (.refl _) rfl rfl) ?_; refine s_mov (.int .i64 r_12.1) rfl <| w_done <| k_seq <| awp_seq <| w_reg <| ?_
   obtain ⟨g14, hf⟩ := og hf
   refine s_mov (.int .i64 r_8.1) rfl <| s_q (.int .i64 (w64 (r_8.1 * 65536))) rfl rfl rfl <| s_mov (.int .i64 r_10.1) rfl <| s_q (.int .i64 (w64 (r_10.1 * 256))) rfl rfl rfl <| s_q (.int .i64 (w64 ((w64 (r_8.1 * 65536)) + (w64 (r_10.1 * 256))))) rfl rfl rfl <| s_mov (.int .i64 r_12.1) rfl <| s_q (.int .i64 (w64 ((w64 ((w64 (r_8.1 * 65536)) + (w64 (r_10.1 * 256)))) + r_12.1))) rfl rfl rfl <| s_mov (.int .i64 n_1) rfl <| s_q (.int .i64 ((w64 ((w64 ((w64 (r_8.1 * 65536)) + (w64 (r_10.1 * 256)))) + r_12.1)).tmod n_1)) rfl ⟨rfl, g14⟩ rfl <| s_mov (.int .i64 ((w64 ((w64 ((w64 (r_8.1 * 65536)) + (w64 (r_10.1 * 256)))) + r_12.1)).tmod n_1)) rfl <| w_done <| k_seq <| w_ret <| ?_; obtain rfl := os hf; exact r_heap [] [0] rfl ⟨trivial, trivial⟩ rfl (.refl _) (.refl _)

/- (*spec.l00Src).pick -/
def c203_h0 : ACode :=
 (.seq (.reg (tm 4 (.c (.str [])) .done))
 (.seq (.seq (.reg (tm 5 (.t 1) (tq 6 (.len (.t 5)) (tq 7 (.bin .eql (.t 6) (.c (.int .i64 0))) .done))))
 (.cond (.t 7) (.seq (.reg (tm 4 (.c (.str [])) .done))
 .ret)
 .skip))
 (.seq (.reg (tm 8 (.t 1) (tm 9 (.t 0) (tm 10 (.t 1) (tq 11 (.len (.t 10)) (tq 12 (.call 181 [(.t 9), (.t 11)]) (tq 13 (.iaddr 1 (.t 8) (.t 12)) (tq 14 (.load 1 false (.t 13)) (tm 4 (.t 14) .done)))))))))
 .ret)))
theorem fc203_h0 : fcomp Try.prog Try.f203 = some (c203_h0.erase, [.mov (.t 4)], 15) := by kernel_rfl
def spec_l00Src_pick (list_1 : (List Str)) (s_2 : GL00Src) : Option (Str × GL00Src) :=
    if ((list_1.length : Int) == 0) then
    some ([], s_2)
    else
    (spec_l00Src_next (list_1.length : Int) s_2).bind fun r_6 =>
    (idx list_1 r_6.1).bind fun x_8 =>
    some (x_8, r_6.2)
theorem w_spec_l00Src_pick (list_1 : (List Str)) (s_2 : GL00Src) (r : (Str × GL00Src)) (hf : spec_l00Src_pick list_1 s_2 = some r) : CallHeap Try.prog true 203 [(.ptr 0 0 0), (.lst 1 (list_1.map AV.str))] [.box 3 (.agg [(.lst 1 (s_2.Code.map enc_u8)), (.int .i64 s_2.At), (.int .i64 s_2.Seed)])] (.str r.1) [.box 3 (.agg [(.lst 1 (r.2.Code.map enc_u8)), (.int .i64 r.2.At), (.int .i64 r.2.Seed)])] := by
 refine CallHeap.of_awp mixed Try.func203 fc203_h0 nle ?_; rw [argT_eq]; unfold spec_l00Src_pick at hf; unfold c203_h0; refine (show awp Try.prog true 1 _ (ofL [(0, (.ptr 0 0 0)), (1, (.lst 1 (list_1.map AV.str)))]) [.box 3 (.agg [(.lst 1 (s_2.Code.map enc_u8)), (.int .i64 s_2.At), (.int .i64 s_2.Seed)])] _ from ?_); refine awp_seq <| w_reg <| s_mov (.str []) rfl <| w_done <| k_seq <| awp_seq <| awp_seq <| w_reg <| s_mov (.lst 1 (list_1.map AV.str)) rfl <| s_dof (o_len (enc := AV.str) rfl) fun hl3 => s_q (.bool ((list_1.length : Int) == 0)) rfl rfl rfl <| w_done <| k_seq <| ?_
 rcases oi hf with ⟨c4, hf⟩ | ⟨c4, hf⟩
 ·refine w_condt rfl c4 <| awp_seq <| w_reg <| s_mov (.str []) rfl <| w_done <| k_seq <| w_ret <| ?_; obtain rfl := os hf; exact r_heap [] [0] rfl ⟨trivial, trivial⟩ rfl (.refl _) (.refl _)
 ·refine w_condf rfl (bf c4) <| w_skip <| k_seq <| awp_seq <| w_reg <| ?_
  obtain ⟨r_6, er7, hf⟩ := ob hf
  obtain ⟨x_8, ex9, hf⟩ := ob hf
  refine s_mov (.lst 1 (list_1.map AV.str)) rfl <| s_mov (.ptr 0 0 0) rfl <| s_mov (.lst 1 (list_1.map AV.str)) rfl <| s_dof (o_len (enc := AV.str) rfl) fun hl5 => ?_; refine s_do (o_callh (v := (.int .i64 r_6.1)) (h2 := [.box 3 (.agg [(.lst 1 (r_6.2.Code.map enc_u8)), (.int .i64 r_6.2.At), (.int .i64 r_6.2.Seed)])]) [] [0] (fun _ => rfl) (w_spec_l00Src_next _ _ _ er7) rfl (.refl _) (.refl _) rfl rfl) ?_; refine s_do (o_iaddr (enc := AV.str) rfl rfl (idx0 ex9) (idx1 ex9)) <| s_q (.str x_8) rfl ⟨rfl, rfl⟩ rfl <| s_mov (.str x_8) rfl <| w_done <| k_seq <| w_ret <| ?_; obtain rfl := os hf; exact r_heap [] [0] rfl ⟨trivial, trivial⟩ rfl (.refl _) (.refl _)

/- (*spec.l00Src).lockName -/
def c122_h0 : ACode :=
 (.seq (.reg (tm 2 (.c (.str [])) .done))
 (.seq (.reg (tm 3 (.t 0) (tq 4 (.bslice 1 [(.c (.str [108, 111, 99, 107])), (.c (.str [111, 116, 104, 101, 114])), (.c (.str [116, 104, 105, 114, 100]))]) (tq 5 (.call 203 [(.t 3), (.t 4)]) (tm 2 (.t 5) .done)))))
 .ret))
theorem fc122_h0 : fcomp Try.prog Try.f122 = some (c122_h0.erase, [.mov (.t 2)], 6) := by kernel_rfl
def spec_l00Src_lockName (s_1 : GL00Src) : Option (Str × GL00Src) :=
    (spec_l00Src_pick [[108, 111, 99, 107], [111, 116, 104, 101, 114], [116, 104, 105, 114, 100]] s_1).bind fun r_2 =>
    some (r_2.1, r_2.2)
theorem w_spec_l00Src_lockName (s_1 : GL00Src) (r : (Str × GL00Src)) (hf : spec_l00Src_lockName s_1 = some r) : CallHeap Try.prog true 122 [(.ptr 0 0 0)] [.box 3 (.agg [(.lst 1 (s_1.Code.map enc_u8)), (.int .i64 s_1.At), (.int .i64 s_1.Seed)])] (.str r.1) [.box 3 (.agg [(.lst 1 (r.2.Code.map enc_u8)), (.int .i64 r.2.At), (.int .i64 r.2.Seed)])] := by
 refine CallHeap.of_awp mixed Try.func122 fc122_h0 nle ?_; rw [argT_eq]; unfold spec_l00Src_lockName at hf; unfold c122_h0; refine (show awp Try.prog true 1 _ (ofL [(0, (.ptr 0 0 0))]) [.box 3 (.agg [(.lst 1 (s_1.Code.map enc_u8)), (.int .i64 s_1.At), (.int .i64 s_1.Seed)])] _ from ?_); refine awp_seq <| w_reg <| s_mov (.str []) rfl <| w_done <| k_seq <| awp_seq <| w_reg <| ?_
 obtain ⟨r_2, er3, hf⟩ := ob hf
 refine s_mov (.ptr 0 0 0) rfl ?_; refine s_do (o_bslice (j := 1) (as' := [(.str [108, 111, 99, 107]), (.str [111, 116, 104, 101, 114]), (.str [116, 104, 105, 114, 100])]) rfl (fun _ => by decide) ⟨rfl, ⟨rfl, ⟨rfl, trivial⟩⟩⟩ (.refl _) rfl rfl rfl) ?_; refine s_do (o_callh (v := (.str r_2.1)) (h2 := [.box 3 (.agg [(.lst 1 (r_2.2.Code.map enc_u8)), (.int .i64 r_2.2.At), (.int .i64 r_2.2.Seed)]), .dead]) [false, true] [0] (fun h => absurd (show false = true from h) (by decide)) (w_spec_l00Src_pick _ _ _ er3) rfl (.cons (.refl _) (.cons (.of_eq (congrArg (AV.lst _) (tko [[108, 111, 99, 107], [111, 116, 104, 101, 114], [116, 104, 105, 114, 100]]))) .nil)) (.refl _) rfl rfl) ?_; refine s_mov (.str r_2.1) rfl <| w_done <| k_seq <| ?_
 refine w_ret ?_; obtain rfl := os hf; exact r_heap [] [0] rfl ⟨trivial, trivial⟩ rfl (.refl _) (.refl _)

/- spec.l12Own -/
def c191 : ACode :=
 (.seq (.reg (tm 2 (.c .nil) .done))
 (.seq (.reg (tq 5 (.bslice 2 []) (tm 3 (.t 5) .done)))
 (.seq (.seq (.reg (tm 4 (.c (.int .i64 0)) .done))
 (.block 0 (.loop (.seq (.seq (.reg (tm 6 (.t 4) (tm 7 (.t 0) (tq 8 (.len (.t 7)) (tq 9 (.bin .lss (.t 6) (.t 8)) .done)))))
 (.cond (.t 9) .skip
 (.exit 0)))
 (.seq (.block 1 (.reg (tm 12 (.t 3) (tm 13 (.t 0) (tm 14 (.t 4) (tq 15 (.iaddr 2 (.t 13) (.t 14)) (tq 16 (.faddr 0 (.t 15)) (tq 17 (.load 1 false (.t 16)) (tm 19 (.t 0) (tm 20 (.t 4) (tq 21 (.iaddr 2 (.t 19) (.t 20)) (tq 22 (.faddr 1 (.t 21)) (tq 23 (.load 1 false (.t 22)) (.l ⟨(some 18), none, .bslice 1 []⟩ [⟨(some 23), none, .load 1 false (.t 22)⟩, ⟨(some 22), none, .faddr 1 (.t 21)⟩, ⟨(some 21), none, .iaddr 2 (.t 19) (.t 20)⟩, ⟨(some 17), none, .load 1 false (.t 16)⟩, ⟨(some 16), none, .faddr 0 (.t 15)⟩, ⟨(some 15), none, .iaddr 2 (.t 13) (.t 14)⟩]
 (.l ⟨(some 24), none, .append 1 8 (.t 18) (.t 23)⟩ [⟨(some 17), none, .load 1 false (.t 16)⟩, ⟨(some 16), none, .faddr 0 (.t 15)⟩, ⟨(some 15), none, .iaddr 2 (.t 13) (.t 14)⟩]
 (tq 25 (.build [(.str []), .nil] [(0, 1, (.t 17)), (1, 1, (.t 24))]) (.l ⟨(some 26), none, .bslice 2 [(.t 25)]⟩ []
 (.l ⟨(some 27), none, .append 2 40 (.t 12) (.t 26)⟩ []
 (.l ⟨(some 3), none, .mov (.t 27)⟩ []
 .done .non) .non) .non)) .non) .non))))))))))))))
 (.reg (tm 10 (.t 4) (tq 11 (.bin .add (.t 10) (.c (.int .i64 1))) (tm 4 (.t 11) .done)))))))))
 (.cut (.seq (.reg (tm 28 (.t 3) (tm 2 (.t 28) .done)))
 .ret)))))
theorem fc191 : fcomp Try.prog Try.f191 = some (c191.erase, [.mov (.t 2)], 29) := by kernel_rfl
def spec_l12Own_L1  : List GLock → (List GLock) → Option (List GLock)
  | [], out_21 =>
    some out_21
  | x_39 :: xs, out_21 =>
    if ([] ++ x_39.Queue).length ≤ 2 ^ 30 then
    if (out_21 ++ [(⟨x_39.Name, [] ++ x_39.Queue⟩ : GLock)]).length ≤ 2 ^ 30 then
    spec_l12Own_L1 xs  (out_21 ++ [(⟨x_39.Name, [] ++ x_39.Queue⟩ : GLock)])
    else none
    else none

def spec_l12Own (list_1 : (List GLock)) : Option (List GLock) :=
    (spec_l12Own_L1 list_1 []).bind fun out_31 =>
    some out_31
theorem w_spec_l12Own (list_1 : (List GLock)) (r : (List GLock)) (hf : spec_l12Own list_1 = some r) : CallOK Try.prog 191 .fresh [(.lst 2 (list_1.map encGLock))] (.lst 2 (r.map encGLock)) := by
 refine CallOK.of_awp mixed Try.func191 fc191 nle ?_; rw [argT_eq]; unfold spec_l12Own at hf; unfold c191; refine (show awp Try.prog true 0 _ (ofL [(0, (.lst 2 (list_1.map encGLock)))]) [] _ from ?_); refine awp_seq <| w_reg <| s_mov .nil rfl <| w_done <| k_seq <| awp_seq <| w_reg <| ?_; refine s_do (o_bslice (j := 0) (as' := []) rfl (fun _ => by decide) trivial (.refl _) rfl rfl rfl) ?_; refine s_mov (.own 0 0 0) rfl <| w_done <| k_seq <| awp_seq <| awp_seq <| w_reg <| s_mov (.int .i64 0) rfl <| w_done <| k_seq <| ?_
 obtain ⟨out_31, hb1, hf⟩ := ob hf
 refine awp_cut ([(3, (.own 0 0 out_31.length))], [.row 2 (out_31.map encGLock)]) ?_ ?_
 ·refine awp_loop (X := {q : (Nat × (List GLock)) // spec_l12Own_L1 (list_1.drop q.1) q.2 = some out_31}) (fun q => ([(0, (.lst 2 (list_1.map encGLock))), (3, (.own 0 0 q.1.2.length)), (4, (.int .i64 (q.1.1 : Int)))], [.row 2 (q.1.2.map encGLock)])) (fun q => list_1.length - q.1.1) ⟨(0, []), hb1⟩ ⟨[], [0], _, _, rfl, rfl, ⟨.refl _, ⟨.of_eq (congrArg (AV.own _ 0) (by simp)), ⟨.refl _, trivial⟩⟩⟩, (.refl _)⟩ ?_
  rintro ⟨⟨i_20, out_21⟩, hc1⟩
  have hc1 : spec_l12Own_L1 (list_1.drop i_20) out_21 = some out_31 := hc1
  refine (show awp Try.prog true 0 _ (ofL [(0, (.lst 2 (list_1.map encGLock))), (3, (.own 0 0 out_21.length)), (4, (.int .i64 (i_20 : Int)))]) [.row 2 (out_21.map encGLock)] _ from ?_)
  rcases dropc list_1 i_20 with ⟨hie35, hd38⟩ | ⟨hlt33, x_39, hx34, hd38⟩
  ·rw [hd38, spec_l12Own_L1.eq_1] at hc1
   have hq37 := dlf hie35
   refine awp_seq <| awp_seq <| w_reg <| s_mov (.int .i64 (i_20 : Int)) rfl <| s_mov (.lst 2 (list_1.map encGLock)) rfl <| s_dof (o_len (enc := encGLock) rfl) fun hl40 => s_q (.bool (decide ((i_20 : Int) < (list_1.length : Int)))) rfl rfl rfl <| w_done <| k_seq <| w_condf rfl hq37 <| w_exit <| k_seqx <| k_loopx <| k_blkx <| ?_; obtain rfl := os hc1; exact ⟨[], [0], _, _, rfl, rfl, ⟨.refl _, trivial⟩, (.refl _)⟩
  ·rw [hd38, spec_l12Own_L1.eq_2] at hc1
   have hq37 := dlt hlt33
   refine awp_seq <| awp_seq <| w_reg <| s_mov (.int .i64 (i_20 : Int)) rfl <| s_mov (.lst 2 (list_1.map encGLock)) rfl <| s_dof (o_len (enc := encGLock) rfl) fun hl41 => s_q (.bool (decide ((i_20 : Int) < (list_1.length : Int)))) rfl rfl rfl <| w_done <| k_seq <| w_condt rfl hq37 <| w_skip <| k_seq <| awp_seq <| w_blk <| w_reg <| s_mov (.own 0 0 out_21.length) rfl <| s_mov (.lst 2 (list_1.map encGLock)) rfl <| s_mov (.int .i64 (i_20 : Int)) rfl <| s_do (o_iaddrn (enc := encGLock) rfl rfl hx34) <| s_q (.iptr (encGLock x_39) 0) rfl trivial rfl <| s_q (.str x_39.Name) rfl nle rfl <| s_mov (.lst 2 (list_1.map encGLock)) rfl <| s_mov (.int .i64 (i_20 : Int)) rfl <| s_do (o_iaddrn (enc := encGLock) rfl rfl hx34) <| ?_
   refine s_q (.iptr (encGLock x_39) 1) rfl trivial rfl <| s_q (.lst 1 (x_39.Queue.map encI)) rfl nle rfl <| ?_; refine s_dol (o_bslice (j := 1) (as' := []) rfl (fun _ => by decide) trivial (.refl _) rfl rfl rfl) (.inr ⟨⟨nle, rfl⟩, ⟨⟨trivial, rfl⟩, ⟨(ag_iaddrn (enc := encGLock) rfl rfl hx34), ⟨⟨nle, rfl⟩, ⟨⟨trivial, rfl⟩, ⟨(ag_iaddrn (enc := encGLock) rfl rfl hx34), trivial⟩⟩⟩⟩⟩⟩) trivial ?_
   obtain ⟨g42, hc1⟩ := og hc1
   refine s_dol (o_appendd (j := 2) (L := (([] ++ x_39.Queue).map encI)) (len := ([] ++ x_39.Queue).length) rfl false rfl rfl (fun _ => flm (fun _ => rfl) _) (fun _ _ _ => flm (fun _ => rfl) _) (by decide) ((by simp)) (by simp <;> omega) g42 rfl rfl) (.inr ⟨⟨nle, rfl⟩, ⟨⟨trivial, rfl⟩, ⟨(ag_iaddrn (enc := encGLock) rfl rfl hx34), trivial⟩⟩⟩) trivial ?_
   refine s_q (.agg [(.str x_39.Name), (.own 2 0 (([] ++ x_39.Queue).length))]) rfl ⟨⟨rfl, nle, trivial⟩, ⟨⟨rfl, nle, trivial⟩, trivial⟩⟩ rfl ?_; refine s_dol (o_bslice (j := 3) (as' := [(encGLock (⟨x_39.Name, [] ++ x_39.Queue⟩ : GLock))]) rfl (fun _ => by decide) ⟨rfl, trivial⟩ (.cons (.agg (.cons (.refl _) (.cons (.of_eq (congrArg (AV.lst _) (tk (enc := encI) ([] ++ x_39.Queue)))) .nil))) .nil) rfl rfl rfl) trivial trivial ?_
   obtain ⟨g43, hc1⟩ := og hc1
   refine s_dol (o_appendd (j := 4) (L := ((out_21 ++ [(⟨x_39.Name, [] ++ x_39.Queue⟩ : GLock)]).map encGLock)) (len := (out_21 ++ [(⟨x_39.Name, [] ++ x_39.Queue⟩ : GLock)]).length) rfl true rfl rfl (fun h => Bool.noConfusion h) (fun _ _ h => (ownl (show AV.own _ _ _ = AV.lst _ _ from h)).elim) (by decide) (apoc (enc := encGLock) out_21 [(⟨x_39.Name, [] ++ x_39.Queue⟩ : GLock)] _ (by rfl)) (by simp <;> omega) g43 rfl rfl) trivial trivial ?_
   refine s_dol (o_mov (.own 4 0 ((out_21 ++ [(⟨x_39.Name, [] ++ x_39.Queue⟩ : GLock)]).length)) rfl) a_same trivial <| w_done <| k_blk <| k_seq <| w_reg <| s_mov (.int .i64 (i_20 : Int)) rfl <| s_q (.int .i64 (w64 ((i_20 : Int) + 1))) rfl rfl rfl <| s_mov (.int .i64 (w64 ((i_20 : Int) + 1))) rfl <| w_done <| ?_; exact k_loopn ⟨((i_20 + 1), out_21 ++ [(⟨x_39.Name, [] ++ x_39.Queue⟩ : GLock)]), hc1⟩ (mul hlt33) ⟨[], [4], _, _, rfl, rfl, ⟨.refl _, ⟨.refl _, ⟨.of_eq (congrArg (AV.int _) (w64_incr hlt33 hl41)), trivial⟩⟩⟩, (.refl _)⟩
 ·refine awp_seq <| w_reg <| s_mov (.own 0 0 out_31.length) rfl <| s_mov (.own 0 0 out_31.length) rfl <| w_done <| k_seq <| w_ret <| ?_; obtain rfl := os hf; exact r_fresh ⟨trivial, trivial⟩ rfl (by decide) (.of_eq (congrArg (AV.lst _) (tk (enc := encGLock) out_31)))

/- spec.l12Find -/
def c194 : ACode :=
 (.seq (.reg (tm 4 (.c (.int .i64 0)) .done))
 (.seq (.seq (.reg (tm 5 (.c (.int .i64 0)) .done))
 (.block 0 (.loop (.seq (.seq (.reg (tm 6 (.t 5) (tm 7 (.t 0) (tq 8 (.len (.t 7)) (tq 9 (.bin .lss (.t 6) (.t 8)) .done)))))
 (.cond (.t 9) .skip
 (.exit 0)))
 (.seq (.block 1 (.seq (.reg (tm 12 (.t 0) (tm 13 (.t 5) (tq 14 (.iaddr 2 (.t 12) (.t 13)) (tq 15 (.faddr 0 (.t 14)) (tq 16 (.load 1 false (.t 15)) (tm 17 (.t 1) (tq 18 (.bin .eql (.t 16) (.t 17)) .done))))))))
 (.cond (.t 18) (.seq (.reg (tm 19 (.t 5) (tm 4 (.t 19) .done)))
 .ret)
 .skip)))
 (.reg (tm 10 (.t 5) (tq 11 (.bin .add (.t 10) (.c (.int .i64 1))) (tm 5 (.t 11) .done)))))))))
 (.cut (.seq (.reg (tq 4 (.mov (.c (.int .i64 (-1)))) .done))
 .ret))))
theorem fc194 : fcomp Try.prog Try.f194 = some (c194.erase, [.mov (.t 4)], 20) := by kernel_rfl
def spec_l12Find_L1 (name_2 : Str) : List GLock → Nat → Option (Fl Int Unit)
  | [], i_14 =>
    some (.go ())
  | x_28 :: xs, i_14 =>
    if (x_28.Name == name_2) then
    some (.ret (i_14 : Int))
    else
    spec_l12Find_L1 name_2 xs (i_14 + 1)

def spec_l12Find (list_1 : (List GLock)) (name_2 : Str) : Option Int :=
    (spec_l12Find_L1 name_2 list_1 0).bind fun q => (match q with
    | .ret r => some r
    | .go _ =>
    some (-1))
theorem w_spec_l12Find (list_1 : (List GLock)) (name_2 : Str) (r : Int) (hf : spec_l12Find list_1 name_2 = some r) : CallOK Try.prog 194 .flat [(.lst 2 (list_1.map encGLock)), (.str name_2)] (.int .i64 r) := by
 refine CallOK.of_awp mixed Try.func194 fc194 nle ?_; rw [argT_eq]; unfold spec_l12Find at hf; unfold c194; refine (show awp Try.prog false 0 _ (ofL [(0, (.lst 2 (list_1.map encGLock))), (1, (.str name_2))]) [] _ from ?_); refine awp_seq <| w_reg <| s_mov (.int .i64 0) rfl <| w_done <| k_seq <| awp_seq <| awp_seq <| w_reg <| s_mov (.int .i64 0) rfl <| w_done <| k_seq <| ?_
 obtain ⟨p21, hb1, hf⟩ := ob hf
 refine awp_cutx (X := {q : Unit // p21 = .go q}) (fun q => ([], [])) ?_ ?_
 ·refine awp_loop (X := {q : Nat // spec_l12Find_L1 name_2 (list_1.drop q) q = some p21}) (fun q => ([(0, (.lst 2 (list_1.map encGLock))), (1, (.str name_2)), (5, (.int .i64 (q.1 : Int)))], [])) (fun q => list_1.length - q.1) ⟨0, hb1⟩ ⟨[], [], _, _, rfl, rfl, ⟨.refl _, ⟨.refl _, ⟨.refl _, trivial⟩⟩⟩, (.refl _)⟩ ?_
  rintro ⟨i_14, hc1⟩
  have hc1 : spec_l12Find_L1 name_2 (list_1.drop i_14) i_14 = some p21 := hc1
  refine (show awp Try.prog false 0 _ (ofL [(0, (.lst 2 (list_1.map encGLock))), (1, (.str name_2)), (5, (.int .i64 (i_14 : Int)))]) [] _ from ?_)
  rcases dropc list_1 i_14 with ⟨hie24, hd27⟩ | ⟨hlt22, x_28, hx23, hd27⟩
  ·rw [hd27, spec_l12Find_L1.eq_1] at hc1
   have hq26 := dlf hie24
   refine awp_seq <| awp_seq <| w_reg <| s_mov (.int .i64 (i_14 : Int)) rfl <| s_mov (.lst 2 (list_1.map encGLock)) rfl <| s_dof (o_len (enc := encGLock) rfl) fun hl29 => s_q (.bool (decide ((i_14 : Int) < (list_1.length : Int)))) rfl rfl rfl <| w_done <| k_seq <| w_condf rfl hq26 <| w_exit <| k_seqx <| k_loopx <| k_blkx <| ?_; obtain rfl := os hc1; exact k_cutn ⟨_, rfl⟩ ⟨[], [], _, _, rfl, rfl, trivial, (.refl _)⟩
  ·rw [hd27, spec_l12Find_L1.eq_2] at hc1
   have hq26 := dlt hlt22
   refine awp_seq <| awp_seq <| w_reg <| s_mov (.int .i64 (i_14 : Int)) rfl <| s_mov (.lst 2 (list_1.map encGLock)) rfl <| s_dof (o_len (enc := encGLock) rfl) fun hl30 => s_q (.bool (decide ((i_14 : Int) < (list_1.length : Int)))) rfl rfl rfl <| w_done <| k_seq <| w_condt rfl hq26 <| w_skip <| k_seq <| awp_seq <| w_blk <| awp_seq <| w_reg <| s_mov (.lst 2 (list_1.map encGLock)) rfl <| s_mov (.int .i64 (i_14 : Int)) rfl <| s_do (o_iaddrn (enc := encGLock) rfl rfl hx23) <| s_q (.iptr (encGLock x_28) 0) rfl trivial rfl <| s_q (.str x_28.Name) rfl nle rfl <| s_mov (.str name_2) rfl <| s_q (.bool (x_28.Name == name_2)) rfl trivial rfl <| w_done <| k_seq <| ?_
   rcases oi hc1 with ⟨c31, hc1⟩ | ⟨c31, hc1⟩
   ·refine w_condt rfl c31 <| awp_seq <| w_reg <| s_mov (.int .i64 (i_14 : Int)) rfl <| s_mov (.int .i64 (i_14 : Int)) rfl <| w_done <| k_seq <| w_ret <| ?_; obtain rfl := os hc1; obtain rfl := os hf; exact r_flat ⟨trivial, trivial⟩ rfl (.refl _)
   ·refine w_condf rfl (bf c31) <| w_skip <| k_blk <| k_seq <| w_reg <| s_mov (.int .i64 (i_14 : Int)) rfl <| s_q (.int .i64 (w64 ((i_14 : Int) + 1))) rfl rfl rfl <| s_mov (.int .i64 (w64 ((i_14 : Int) + 1))) rfl <| w_done <| ?_; exact k_loopn ⟨(i_14 + 1), hc1⟩ (mul hlt22) ⟨[], [], _, _, rfl, rfl, ⟨.refl _, ⟨.refl _, ⟨.of_eq (congrArg (AV.int _) (w64_incr hlt22 hl30)), trivial⟩⟩⟩, (.refl _)⟩
 ·rintro ⟨_, rfl⟩
  refine awp_seq <| w_reg <| s_mov (.int .i64 (-1)) rfl <| w_done <| k_seq <| w_ret <| ?_; obtain rfl := os hf; exact r_flat ⟨trivial, trivial⟩ rfl (.refl _)

/- spec.l12In -/
def c195 : ACode :=
 (.seq (.reg (tm 4 (.c (.bool false)) .done))
 (.seq (.seq (.reg (tm 5 (.c (.int .i64 0)) .done))
 (.block 0 (.loop (.seq (.seq (.reg (tm 6 (.t 5) (tm 7 (.t 0) (tq 8 (.len (.t 7)) (tq 9 (.bin .lss (.t 6) (.t 8)) .done)))))
 (.cond (.t 9) .skip
 (.exit 0)))
 (.seq (.block 1 (.seq (.reg (tm 12 (.t 0) (tm 13 (.t 5) (tq 14 (.iaddr 1 (.t 12) (.t 13)) (tq 15 (.load 1 false (.t 14)) (tm 16 (.t 1) (tq 17 (.bin .eql (.t 15) (.t 16)) .done)))))))
 (.cond (.t 17) (.seq (.reg (tm 4 (.c (.bool true)) .done))
 .ret)
 .skip)))
 (.reg (tm 10 (.t 5) (tq 11 (.bin .add (.t 10) (.c (.int .i64 1))) (tm 5 (.t 11) .done)))))))))
 (.cut (.seq (.reg (tm 4 (.c (.bool false)) .done))
 .ret))))
theorem fc195 : fcomp Try.prog Try.f195 = some (c195.erase, [.mov (.t 4)], 18) := by kernel_rfl
def spec_l12In_L1 (n_2 : Int) : List Int → Option (Fl Bool Unit)
  | [] =>
    some (.go ())
  | x_28 :: xs =>
    if (x_28 == n_2) then
    some (.ret true)
    else
    spec_l12In_L1 n_2 xs 

def spec_l12In (list_1 : (List Int)) (n_2 : Int) : Option Bool :=
    (spec_l12In_L1 n_2 list_1 ).bind fun q => (match q with
    | .ret r => some r
    | .go _ =>
    some false)
theorem w_spec_l12In (list_1 : (List Int)) (n_2 : Int) (r : Bool) (hf : spec_l12In list_1 n_2 = some r) : CallOK Try.prog 195 .flat [(.lst 1 (list_1.map encI)), (.int .i64 n_2)] (.bool r) := by
 refine CallOK.of_awp mixed Try.func195 fc195 nle ?_; rw [argT_eq]; unfold spec_l12In at hf; unfold c195; refine (show awp Try.prog false 0 _ (ofL [(0, (.lst 1 (list_1.map encI))), (1, (.int .i64 n_2))]) [] _ from ?_); refine awp_seq <| w_reg <| s_mov (.bool false) rfl <| w_done <| k_seq <| awp_seq <| awp_seq <| w_reg <| s_mov (.int .i64 0) rfl <| w_done <| k_seq <| ?_
 obtain ⟨p21, hb1, hf⟩ := ob hf
 refine awp_cutx (X := {q : Unit // p21 = .go q}) (fun q => ([], [])) ?_ ?_
 ·refine awp_loop (X := {q : Nat // spec_l12In_L1 n_2 (list_1.drop q)  = some p21}) (fun q => ([(0, (.lst 1 (list_1.map encI))), (1, (.int .i64 n_2)), (5, (.int .i64 (q.1 : Int)))], [])) (fun q => list_1.length - q.1) ⟨0, hb1⟩ ⟨[], [], _, _, rfl, rfl, ⟨.refl _, ⟨.refl _, ⟨.refl _, trivial⟩⟩⟩, (.refl _)⟩ ?_
  rintro ⟨i_14, hc1⟩
  have hc1 : spec_l12In_L1 n_2 (list_1.drop i_14)  = some p21 := hc1
  refine (show awp Try.prog false 0 _ (ofL [(0, (.lst 1 (list_1.map encI))), (1, (.int .i64 n_2)), (5, (.int .i64 (i_14 : Int)))]) [] _ from ?_)
  rcases dropc list_1 i_14 with ⟨hie24, hd27⟩ | ⟨hlt22, x_28, hx23, hd27⟩
  ·rw [hd27, spec_l12In_L1.eq_1] at hc1
   have hq26 := dlf hie24
   refine awp_seq <| awp_seq <| w_reg <| s_mov (.int .i64 (i_14 : Int)) rfl <| s_mov (.lst 1 (list_1.map encI)) rfl <| s_dof (o_len (enc := encI) rfl) fun hl29 => s_q (.bool (decide ((i_14 : Int) < (list_1.length : Int)))) rfl rfl rfl <| w_done <| k_seq <| w_condf rfl hq26 <| w_exit <| k_seqx <| k_loopx <| k_blkx <| ?_; obtain rfl := os hc1; exact k_cutn ⟨_, rfl⟩ ⟨[], [], _, _, rfl, rfl, trivial, (.refl _)⟩
  ·rw [hd27, spec_l12In_L1.eq_2] at hc1
   have hq26 := dlt hlt22
   refine awp_seq <| awp_seq <| w_reg <| s_mov (.int .i64 (i_14 : Int)) rfl <| s_mov (.lst 1 (list_1.map encI)) rfl <| s_dof (o_len (enc := encI) rfl) fun hl30 => s_q (.bool (decide ((i_14 : Int) < (list_1.length : Int)))) rfl rfl rfl <| w_done <| k_seq <| w_condt rfl hq26 <| w_skip <| k_seq <| awp_seq <| w_blk <| awp_seq <| w_reg <| s_mov (.lst 1 (list_1.map encI)) rfl <| s_mov (.int .i64 (i_14 : Int)) rfl <| s_do (o_iaddrn (enc := encI) rfl rfl hx23) <| s_q (.int .i64 x_28) rfl ⟨rfl, rfl⟩ rfl <| s_mov (.int .i64 n_2) rfl <| s_q (.bool (x_28 == n_2)) rfl rfl rfl <| w_done <| k_seq <| ?_
   rcases oi hc1 with ⟨c31, hc1⟩ | ⟨c31, hc1⟩
   ·refine w_condt rfl c31 <| awp_seq <| w_reg <| s_mov (.bool true) rfl <| w_done <| k_seq <| w_ret <| ?_; obtain rfl := os hc1; obtain rfl := os hf; exact r_flat ⟨trivial, trivial⟩ rfl (.refl _)
   ·refine w_condf rfl (bf c31) <| w_skip <| k_blk <| k_seq <| w_reg <| s_mov (.int .i64 (i_14 : Int)) rfl <| s_q (.int .i64 (w64 ((i_14 : Int) + 1))) rfl rfl rfl <| s_mov (.int .i64 (w64 ((i_14 : Int) + 1))) rfl <| w_done <| ?_; exact k_loopn ⟨(i_14 + 1), hc1⟩ (mul hlt22) ⟨[], [], _, _, rfl, rfl, ⟨.refl _, ⟨.refl _, ⟨.of_eq (congrArg (AV.int _) (w64_incr hlt22 hl30)), trivial⟩⟩⟩, (.refl _)⟩
 ·rintro ⟨_, rfl⟩
  refine awp_seq <| w_reg <| s_mov (.bool false) rfl <| w_done <| k_seq <| w_ret <| ?_; obtain rfl := os hf; exact r_flat ⟨trivial, trivial⟩ rfl (.refl _)

/- spec.l12Find -/
def c194_h0 : ACode :=
 (.seq (.reg (tm 4 (.c (.int .i64 0)) .done))
 (.seq (.seq (.reg (tm 5 (.c (.int .i64 0)) .done))
 (.block 0 (.loop (.seq (.seq (.reg (tm 6 (.t 5) (tm 7 (.t 0) (tq 8 (.len (.t 7)) (tq 9 (.bin .lss (.t 6) (.t 8)) .done)))))
 (.cond (.t 9) .skip
 (.exit 0)))
 (.seq (.block 1 (.seq (.reg (tm 12 (.t 0) (tm 13 (.t 5) (tq 14 (.iaddr 2 (.t 12) (.t 13)) (tq 15 (.faddr 0 (.t 14)) (tq 16 (.load 1 false (.t 15)) (tm 17 (.t 1) (tq 18 (.bin .eql (.t 16) (.t 17)) .done))))))))
 (.cond (.t 18) (.seq (.reg (tm 19 (.t 5) (tm 4 (.t 19) .done)))
 .ret)
 .skip)))
 (.reg (tm 10 (.t 5) (tq 11 (.bin .add (.t 10) (.c (.int .i64 1))) (tm 5 (.t 11) .done)))))))))
 (.cut (.seq (.reg (tq 4 (.mov (.c (.int .i64 (-1)))) .done))
 .ret))))
theorem fc194_h0 : fcomp Try.prog Try.f194 = some (c194_h0.erase, [.mov (.t 4)], 20) := by kernel_rfl
def spec_l12Find_h0_L1 (list_1 : (List GLock)) (name_2 : Str) : List GLock → Nat → Option (Fl Int Unit)
  | [], i_16 =>
    some (.go ())
  | x_31 :: xs, i_16 =>
    if i_16 < list_1.length then
    if (x_31.Name == name_2) then
    some (.ret (i_16 : Int))
    else
    spec_l12Find_h0_L1 list_1 name_2 xs (i_16 + 1)
    else none

def spec_l12Find_h0 (list_1 : (List GLock)) (name_2 : Str) : Option Int :=
    (spec_l12Find_h0_L1 list_1 name_2 list_1 0).bind fun q => (match q with
    | .ret r => some r
    | .go _ =>
    some (-1))
theorem w_spec_l12Find_h0 (list_1 : (List GLock)) (name_2 : Str) (r : Int) (hf : spec_l12Find_h0 list_1 name_2 = some r) : CallHeap Try.prog ⟨true, true⟩ 194 [(.own 0 0 list_1.length), (.str name_2)] [.row 2 (list_1.map encGLock)] (.int .i64 r) [.row 2 (list_1.map encGLock)] := by
 refine CallHeap.of_awp mixed Try.func194 fc194_h0 nle ?_; rw [argT_eq]; unfold spec_l12Find_h0 at hf; unfold c194_h0; refine (show awp Try.prog ⟨true, true⟩ 1 _ (ofL [(0, (.own 0 0 list_1.length)), (1, (.str name_2))]) [.row 2 (list_1.map encGLock)] _ from ?_); refine awp_seq <| w_reg <| s_mov (.int .i64 0) rfl <| w_done <| k_seq <| awp_seq <| awp_seq <| w_reg <| s_mov (.int .i64 0) rfl <| w_done <| k_seq <| ?_
 obtain ⟨p24, hb1, hf⟩ := ob hf
 refine awp_cutx (X := {q : Unit // p24 = .go q}) (fun q => ([], [.row 2 (list_1.map encGLock)])) ?_ ?_
 ·refine awp_loop (X := {q : Nat // spec_l12Find_h0_L1 list_1 name_2 (list_1.drop q) q = some p24}) (fun q => ([(0, (.own 0 0 list_1.length)), (1, (.str name_2)), (5, (.int .i64 (q.1 : Int)))], [.row 2 (list_1.map encGLock)])) (fun q => list_1.length - q.1) ⟨0, hb1⟩ ⟨[], [0], _, _, rfl, rfl, ⟨.refl _, ⟨.refl _, ⟨.refl _, trivial⟩⟩⟩, (.refl _)⟩ ?_
  rintro ⟨i_16, hc1⟩
  have hc1 : spec_l12Find_h0_L1 list_1 name_2 (list_1.drop i_16) i_16 = some p24 := hc1
  refine (show awp Try.prog ⟨true, true⟩ 1 _ (ofL [(0, (.own 0 0 list_1.length)), (1, (.str name_2)), (5, (.int .i64 (i_16 : Int)))]) [.row 2 (list_1.map encGLock)] _ from ?_)
  rcases dropc list_1 i_16 with ⟨hie27, hd30⟩ | ⟨hlt25, x_31, hx26, hd30⟩
  ·rw [hd30, spec_l12Find_h0_L1.eq_1] at hc1
   have hq29 := dlf hie27
   refine awp_seq <| awp_seq <| w_reg <| s_mov (.int .i64 (i_16 : Int)) rfl <| s_mov (.own 0 0 list_1.length) rfl <| s_dof (o_lenown rfl rfl) fun hl32 => s_q (.bool (decide ((i_16 : Int) < (list_1.length : Int)))) rfl (.of rfl trivial) rfl <| w_done <| k_seq <| w_condf rfl hq29 <| w_exit <| k_seqx <| k_loopx <| k_blkx <| ?_; obtain rfl := os hc1; exact k_cutn ⟨_, rfl⟩ ⟨[], [0], _, _, rfl, rfl, trivial, (.refl _)⟩
  ·rw [hd30, spec_l12Find_h0_L1.eq_2] at hc1
   have hq29 := dlt hlt25
   refine awp_seq <| awp_seq <| w_reg <| s_mov (.int .i64 (i_16 : Int)) rfl <| s_mov (.own 0 0 list_1.length) rfl <| s_dof (o_lenown rfl rfl) fun hl33 => s_q (.bool (decide ((i_16 : Int) < (list_1.length : Int)))) rfl (.of rfl trivial) rfl <| w_done <| k_seq <| w_condt rfl hq29 <| w_skip <| k_seq <| awp_seq <| w_blk <| awp_seq <| w_reg <| ?_
   obtain ⟨g34, hc1⟩ := og hc1
   refine s_mov (.own 0 0 list_1.length) rfl <| s_mov (.int .i64 (i_16 : Int)) rfl <| s_do (o_iaddrownn rfl rfl g34 rfl rfl) <| s_q (.ptr 0 i_16 0) rfl (.of trivial trivial) rfl <| s_do (o_loadrowm (enc := encGLock) (v := (.str x_31.Name)) rfl rfl hx26 nle rfl rfl) <| s_mov (.str name_2) rfl <| s_q (.bool (x_31.Name == name_2)) rfl (.of trivial trivial) rfl <| w_done <| k_seq <| ?_
   rcases oi hc1 with ⟨c35, hc1⟩ | ⟨c35, hc1⟩
   ·refine w_condt rfl c35 <| awp_seq <| w_reg <| s_mov (.int .i64 (i_16 : Int)) rfl <| s_mov (.int .i64 (i_16 : Int)) rfl <| w_done <| k_seq <| w_ret <| ?_; obtain rfl := os hc1; obtain rfl := os hf; exact r_heap [] [0] rfl ⟨.of trivial trivial, trivial⟩ rfl (.refl _) (.refl _)
   ·refine w_condf rfl (bf c35) <| w_skip <| k_blk <| k_seq <| w_reg <| s_mov (.int .i64 (i_16 : Int)) rfl <| s_q (.int .i64 (w64 ((i_16 : Int) + 1))) rfl (.of rfl trivial) rfl <| s_mov (.int .i64 (w64 ((i_16 : Int) + 1))) rfl <| w_done <| ?_; exact k_loopn ⟨(i_16 + 1), hc1⟩ (mul hlt25) ⟨[], [0], _, _, rfl, rfl, ⟨.refl _, ⟨.refl _, ⟨.of_eq (congrArg (AV.int _) (w64_incr hlt25 hl33)), trivial⟩⟩⟩, (.refl _)⟩
 ·rintro ⟨_, rfl⟩
  refine awp_seq <| w_reg <| s_mov (.int .i64 (-1)) rfl <| w_done <| k_seq <| w_ret <| ?_; obtain rfl := os hf; exact r_heap [] [0] rfl ⟨.of trivial trivial, trivial⟩ rfl (.refl _) (.refl _)

/- spec.l12In -/
def c195_h0 : ACode :=
 (.seq (.reg (tm 4 (.c (.bool false)) .done))
 (.seq (.seq (.reg (tm 5 (.c (.int .i64 0)) .done))
 (.block 0 (.loop (.seq (.seq (.reg (tm 6 (.t 5) (tm 7 (.t 0) (tq 8 (.len (.t 7)) (tq 9 (.bin .lss (.t 6) (.t 8)) .done)))))
 (.cond (.t 9) .skip
 (.exit 0)))
 (.seq (.block 1 (.seq (.reg (tm 12 (.t 0) (tm 13 (.t 5) (tq 14 (.iaddr 1 (.t 12) (.t 13)) (tq 15 (.load 1 false (.t 14)) (tm 16 (.t 1) (tq 17 (.bin .eql (.t 15) (.t 16)) .done)))))))
 (.cond (.t 17) (.seq (.reg (tm 4 (.c (.bool true)) .done))
 .ret)
 .skip)))
 (.reg (tm 10 (.t 5) (tq 11 (.bin .add (.t 10) (.c (.int .i64 1))) (tm 5 (.t 11) .done)))))))))
 (.cut (.seq (.reg (tm 4 (.c (.bool false)) .done))
 .ret))))
theorem fc195_h0 : fcomp Try.prog Try.f195 = some (c195_h0.erase, [.mov (.t 4)], 18) := by kernel_rfl
def spec_l12In_h0_L1 (list_1 : (List Int)) (n_2 : Int) : List Int → Nat → Option (Fl Bool Unit)
  | [], i_16 =>
    some (.go ())
  | x_31 :: xs, i_16 =>
    if i_16 < list_1.length then
    if (x_31 == n_2) then
    some (.ret true)
    else
    spec_l12In_h0_L1 list_1 n_2 xs (i_16 + 1)
    else none

def spec_l12In_h0 (list_1 : (List Int)) (n_2 : Int) : Option Bool :=
    (spec_l12In_h0_L1 list_1 n_2 list_1 0).bind fun q => (match q with
    | .ret r => some r
    | .go _ =>
    some false)
theorem w_spec_l12In_h0 (list_1 : (List Int)) (n_2 : Int) (r : Bool) (hf : spec_l12In_h0 list_1 n_2 = some r) : CallHeap Try.prog ⟨true, true⟩ 195 [(.own 0 0 list_1.length), (.int .i64 n_2)] [.row 1 (list_1.map encI)] (.bool r) [.row 1 (list_1.map encI)] := by
 refine CallHeap.of_awp mixed Try.func195 fc195_h0 nle ?_; rw [argT_eq]; unfold spec_l12In_h0 at hf; unfold c195_h0; refine (show awp Try.prog ⟨true, true⟩ 1 _ (ofL [(0, (.own 0 0 list_1.length)), (1, (.int .i64 n_2))]) [.row 1 (list_1.map encI)] _ from ?_); refine awp_seq <| w_reg <| s_mov (.bool false) rfl <| w_done <| k_seq <| awp_seq <| awp_seq <| w_reg <| s_mov (.int .i64 0) rfl <| w_done <| k_seq <| ?_
 obtain ⟨p24, hb1, hf⟩ := ob hf
 refine awp_cutx (X := {q : Unit // p24 = .go q}) (fun q => ([], [.row 1 (list_1.map encI)])) ?_ ?_
 ·refine awp_loop (X := {q : Nat // spec_l12In_h0_L1 list_1 n_2 (list_1.drop q) q = some p24}) (fun q => ([(0, (.own 0 0 list_1.length)), (1, (.int .i64 n_2)), (5, (.int .i64 (q.1 : Int)))], [.row 1 (list_1.map encI)])) (fun q => list_1.length - q.1) ⟨0, hb1⟩ ⟨[], [0], _, _, rfl, rfl, ⟨.refl _, ⟨.refl _, ⟨.refl _, trivial⟩⟩⟩, (.refl _)⟩ ?_
  rintro ⟨i_16, hc1⟩
  have hc1 : spec_l12In_h0_L1 list_1 n_2 (list_1.drop i_16) i_16 = some p24 := hc1
  refine (show awp Try.prog ⟨true, true⟩ 1 _ (ofL [(0, (.own 0 0 list_1.length)), (1, (.int .i64 n_2)), (5, (.int .i64 (i_16 : Int)))]) [.row 1 (list_1.map encI)] _ from ?_)
  rcases dropc list_1 i_16 with ⟨hie27, hd30⟩ | ⟨hlt25, x_31, hx26, hd30⟩
  ·rw [hd30, spec_l12In_h0_L1.eq_1] at hc1
   have hq29 := dlf hie27
   refine awp_seq <| awp_seq <| w_reg <| s_mov (.int .i64 (i_16 : Int)) rfl <| s_mov (.own 0 0 list_1.length) rfl <| s_dof (o_lenown rfl rfl) fun hl32 => s_q (.bool (decide ((i_16 : Int) < (list_1.length : Int)))) rfl (.of rfl trivial) rfl <| w_done <| k_seq <| w_condf rfl hq29 <| w_exit <| k_seqx <| k_loopx <| k_blkx <| ?_; obtain rfl := os hc1; exact k_cutn ⟨_, rfl⟩ ⟨[], [0], _, _, rfl, rfl, trivial, (.refl _)⟩
  ·rw [hd30, spec_l12In_h0_L1.eq_2] at hc1
   have hq29 := dlt hlt25
   refine awp_seq <| awp_seq <| w_reg <| s_mov (.int .i64 (i_16 : Int)) rfl <| s_mov (.own 0 0 list_1.length) rfl <| s_dof (o_lenown rfl rfl) fun hl33 => s_q (.bool (decide ((i_16 : Int) < (list_1.length : Int)))) rfl (.of rfl trivial) rfl <| w_done <| k_seq <| w_condt rfl hq29 <| w_skip <| k_seq <| awp_seq <| w_blk <| awp_seq <| w_reg <| ?_
   obtain ⟨g34, hc1⟩ := og hc1
   refine s_mov (.own 0 0 list_1.length) rfl <| s_mov (.int .i64 (i_16 : Int)) rfl <| s_do (o_iaddrownn rfl rfl g34 rfl rfl) <| s_do (o_loadrowm (enc := encI) (v := (.int .i64 x_31)) rfl rfl hx26 ⟨rfl, rfl⟩ rfl rfl) <| s_mov (.int .i64 n_2) rfl <| s_q (.bool (x_31 == n_2)) rfl (.of rfl trivial) rfl <| w_done <| k_seq <| ?_
   rcases oi hc1 with ⟨c35, hc1⟩ | ⟨c35, hc1⟩
   ·refine w_condt rfl c35 <| awp_seq <| w_reg <| s_mov (.bool true) rfl <| w_done <| k_seq <| w_ret <| ?_; obtain rfl := os hc1; obtain rfl := os hf; exact r_heap [] [0] rfl ⟨.of trivial trivial, trivial⟩ rfl (.refl _) (.refl _)
   ·refine w_condf rfl (bf c35) <| w_skip <| k_blk <| k_seq <| w_reg <| s_mov (.int .i64 (i_16 : Int)) rfl <| s_q (.int .i64 (w64 ((i_16 : Int) + 1))) rfl (.of rfl trivial) rfl <| s_mov (.int .i64 (w64 ((i_16 : Int) + 1))) rfl <| w_done <| ?_; exact k_loopn ⟨(i_16 + 1), hc1⟩ (mul hlt25) ⟨[], [0], _, _, rfl, rfl, ⟨.refl _, ⟨.refl _, ⟨.of_eq (congrArg (AV.int _) (w64_incr hlt25 hl33)), trivial⟩⟩⟩, (.refl _)⟩
 ·rintro ⟨_, rfl⟩
  refine awp_seq <| w_reg <| s_mov (.bool false) rfl <| w_done <| k_seq <| w_ret <| ?_; obtain rfl := os hf; exact r_heap [] [0] rfl ⟨.of trivial trivial, trivial⟩ rfl (.refl _) (.refl _)

/- spec.l12Leave -/
def c109 : ACode :=
 (.seq (.reg (tm 6 (.c .nil) (tm 7 (.c .nil) (tm 8 (.c (.int .i64 0)) .done))))
 (.seq (.reg (tq 14 (.bslice 3 []) (tm 9 (.t 14) .done)))
 (.seq (.reg (tm 15 (.t 0) (tq 16 (.call 191 [(.t 15)]) (tm 10 (.t 16) .done))))
 (.seq (.reg (tm 17 (.t 10) (tm 18 (.t 2) (tq 19 (.call 194 [(.t 17), (.t 18)]) (tm 11 (.t 19) .done)))))
 (.seq (.seq (.rev (.reg (tm 20 (.t 11) (tq 21 (.bin .lss (.t 20) (.c (.int .i64 0))) (tm 22 (.t 21) (tg 23 22 false (.mov (.t 10)) (tg 24 22 false (.mov (.t 11)) (tg 25 22 false (.iaddr 2 (.t 23) (.t 24)) (tg 26 22 false (.faddr 1 (.t 25)) (tg 27 22 false (.load 1 false (.t 26)) (tg 28 22 false (.mov (.t 1)) (tg 29 22 false (.call 195 [(.t 27), (.t 28)]) (tg 30 22 false (.not (.t 29)) (tq 31 (.pick (.t 22) (.c (.bool true)) (.t 30)) .done))))))))))))))
 (.cut (.cond (.t 31) (.seq (.reg (tm 32 (.t 10) (tm 33 (.t 9) (tm 6 (.t 32) (tm 7 (.t 33) (tm 8 (.c (.int .i64 5)) .done))))))
 .ret)
 .skip)))
 (.seq (.reg (tq 34 (.bslice 1 []) (tm 12 (.t 34) .done)))
 (.seq (.seq (.reg (tm 13 (.c (.int .i64 0)) .done))
 (.block 0 (.loop (.seq (.seq (.rev (.reg (tm 35 (.t 13) (tm 36 (.t 10) (tm 37 (.t 11) (tq 38 (.iaddr 2 (.t 36) (.t 37)) (tq 39 (.faddr 1 (.t 38)) (tq 40 (.load 1 false (.t 39)) (tq 41 (.len (.t 40)) (tq 42 (.bin .lss (.t 35) (.t 41)) .done))))))))))
 (.cond (.t 42) .skip
 (.exit 0)))
 (.seq (.block 1 (.seq (.reg (tm 45 (.t 10) (tm 46 (.t 11) (tq 47 (.iaddr 2 (.t 45) (.t 46)) (tq 48 (.faddr 1 (.t 47)) (tq 49 (.load 1 false (.t 48)) (tm 50 (.t 13) (tq 51 (.iaddr 1 (.t 49) (.t 50)) (tq 52 (.load 1 false (.t 51)) (tm 53 (.t 1) (tq 54 (.bin .neq (.t 52) (.t 53)) .done)))))))))))
 (.cond (.t 54) (.reg (tm 55 (.t 12) (tm 56 (.t 10) (tm 57 (.t 11) (tq 58 (.iaddr 2 (.t 56) (.t 57)) (tq 59 (.faddr 1 (.t 58)) (tq 60 (.load 1 false (.t 59)) (tm 61 (.t 13) (tq 62 (.iaddr 1 (.t 60) (.t 61)) (tq 63 (.load 1 false (.t 62)) (tq 64 (.bslice 1 [(.t 63)]) (tq 65 (.append 1 8 (.t 55) (.t 64)) (tm 12 (.t 65) .done)))))))))))))
 .skip)))
 (.reg (tm 43 (.t 13) (tq 44 (.bin .add (.t 43) (.c (.int .i64 1))) (tm 13 (.t 44) .done)))))))))
 (.cut (.seq (.seq (.rev (.reg (tm 66 (.t 10) (tm 67 (.t 11) (tq 68 (.iaddr 2 (.t 66) (.t 67)) (tq 69 (.faddr 1 (.t 68)) (tq 70 (.load 1 false (.t 69)) (tq 71 (.iaddr 1 (.t 70) (.c (.int .i64 0))) (tq 72 (.load 1 false (.t 71)) (tm 73 (.t 1) (tq 74 (.bin .eql (.t 72) (.t 73)) (tm 75 (.t 74) (tg 76 75 true (.mov (.t 12)) (tg 77 75 true (.len (.t 76)) (tg 78 75 true (.bin .gtr (.t 77) (.c (.int .i64 0))) (tq 79 (.pick (.t 75) (.t 78) (.c (.bool false))) .done))))))))))))))))
 (.cut (.cond (.t 79) (.reg (tm 80 (.t 9) (tm 81 (.t 12) (tq 82 (.iaddr 1 (.t 81) (.c (.int .i64 0))) (tq 83 (.load 1 false (.t 82)) (tm 84 (.t 2) (tq 85 (.build [(.int .i64 0), (.str []), (.str [])] [(0, 1, (.t 83)), (1, 1, (.c (.str [108, 111, 99, 107, 101, 100]))), (2, 1, (.t 84))]) (tq 86 (.bslice 3 [(.t 85)]) (tq 87 (.append 3 40 (.t 80) (.t 86)) (tm 9 (.t 87) .done))))))))))
 .skip)))
 (.cut (.seq (.rev (.reg (tm 88 (.t 10) (tm 89 (.t 11) (tm 90 (.t 12) (tq 91 (.iaddr 2 (.t 88) (.t 89)) (tq 92 (.faddr 1 (.t 91)) (.q ⟨none, none, .store 1 (.t 92) (.t 90)⟩
 .done))))))))
 (.seq (.seq (.reg (tm 93 (.t 12) (tq 94 (.len (.t 93)) (tq 95 (.bin .eql (.t 94) (.c (.int .i64 0))) .done))))
 (.cond (.t 95) (.rev (.reg (tm 96 (.t 10) (tm 97 (.t 11) (tq 98 (.slice 2 (.t 96) none (some (.t 97))) (tm 99 (.t 10) (tm 100 (.t 11) (tq 101 (.bin .add (.t 100) (.c (.int .i64 1))) (tq 102 (.slice 2 (.t 99) (some (.t 101)) none) (.l ⟨(some 103), none, .append 2 40 (.t 98) (.t 102)⟩ []
 (.l ⟨(some 10), none, .mov (.t 103)⟩ []
 .done .non) .non))))))))))
 .skip))
 (.seq (.reg (tm 104 (.t 10) (tm 105 (.t 9) (tm 6 (.t 104) (tm 7 (.t 105) (tm 8 (.c (.int .i64 0)) .done))))))
 (.rev .ret))))))))))))))
theorem fc109 : fcomp Try.prog Try.f109 = some (c109.erase, [.mov (.t 6), .mov (.t 7), .mov (.t 8)], 106) := by kernel_rfl
def spec_l12Leave_L1 (r_4 : (List GLock)) (r_6 : Int) (session_2 : Int) : Nat → Int → (List Int) → Option (List Int)
  | 0, _, _ => none
  | k + 1, i_108, q_109 =>
    ((r_4[(0 + r_6.toNat)]?)).bind fun x_127 =>
    if (0 : Int) ≤ r_6 ∧ r_6 < (r_4.length : Int) then
    if (decide (i_108 < (x_127.Queue.length : Int))) then
    if (0 : Int) ≤ r_6 ∧ r_6 < (r_4.length : Int) then
    if (0 : Int) ≤ i_108 ∧ i_108 < (x_127.Queue.length : Int) then
    (x_127.Queue[(0 + i_108.toNat)]?).bind fun x_134 =>
    if (x_134 != session_2) then
    if (0 : Int) ≤ r_6 ∧ r_6 < (r_4.length : Int) then
    if (0 : Int) ≤ i_108 ∧ i_108 < (x_127.Queue.length : Int) then
    if (q_109 ++ [x_134]).length ≤ 2 ^ 30 then
    spec_l12Leave_L1 r_4 r_6 session_2 k (w64 (i_108 + 1)) (q_109 ++ [x_134])
    else none
    else none
    else none
    else
    spec_l12Leave_L1 r_4 r_6 session_2 k (w64 (i_108 + 1)) q_109
    else none
    else none
    else
    some q_109
    else none

def spec_l12Leave (list_1 : (List GLock)) (session_2 : Int) (name_3 : Str) : Option ((List GLock) × (List GTold) × Int) :=
    (spec_l12Own list_1).bind fun r_4 =>
    (spec_l12Find_h0 r_4 name_3).bind fun r_6 =>
    ((onIdx (r_4[(0 + r_6.toNat)]?) (fun x_22 =>
    if (decide (r_6 < 0)) then
    some true
    else
    if (0 : Int) ≤ r_6 ∧ r_6 < (r_4.length : Int) then
    (spec_l12In_h0 x_22.Queue session_2).bind fun r_26 =>
    some (!r_26)
    else none) (
    if (decide (r_6 < 0)) then
    some true
    else
    if (0 : Int) ≤ r_6 ∧ r_6 < (r_4.length : Int) then
    none
    else none) : Option Bool)).bind fun s31_18 =>
    if s31_18 then
    some (r_4, [], 5)
    else
    (spec_l12Leave_L1 r_4 r_6 session_2 FUEL 0 []).bind fun q_124 =>
    ((((((r_4[(0 + r_6.toNat)]?)).bind fun x_179 =>
    if (0 : Int) ≤ r_6 ∧ r_6 < (r_4.length : Int) then
    if 0 < x_179.Queue.length then
    (x_179.Queue[0]?).bind fun x_183 =>
    if (x_183 == session_2) then
    some (decide ((q_124.length : Int) > 0))
    else
    some false
    else none
    else none : Option Bool)).bind fun s79_176 =>
    if s79_176 then
    if 0 < q_124.length then
    (q_124[0]?).bind fun x_189 =>
    if ([] ++ [(⟨x_189, [108, 111, 99, 107, 101, 100], name_3⟩ : GTold)]).length ≤ 2 ^ 30 then
    some ([] ++ [(⟨x_189, [108, 111, 99, 107, 101, 100], name_3⟩ : GTold)])
    else none
    else none
    else
    some [] : Option (List GTold))).bind fun told_165 =>
    ((r_4[(0 + r_6.toNat)]?)).bind fun x_193 =>
    if (0 : Int) ≤ r_6 ∧ r_6 < (r_4.length : Int) then
    if ((q_124.length : Int) == 0) then
    if (0 : Int) ≤ r_6 ∧ r_6 ≤ (r_4.length : Int) then
    if (0 : Int) ≤ w64 (r_6 + 1) ∧ w64 (r_6 + 1) ≤ (r_4.length : Int) then
    if r_6.toNat ≤ (w64 (r_6 + 1)).toNat then
    some (((r_4.set (0 + r_6.toNat) (⟨x_193.Name, q_124⟩ : GLock)).take r_6.toNat) ++ (((r_4.set (0 + r_6.toNat) (⟨x_193.Name, q_124⟩ : GLock)).drop ((w64 (r_6 + 1)).toNat)).take (r_4.length - (w64 (r_6 + 1)).toNat)), told_165, 0)
    else none
    else none
    else none
    else
    some (r_4.set (0 + r_6.toNat) (⟨x_193.Name, q_124⟩ : GLock), told_165, 0)
    else none
theorem w_spec_l12Leave (list_1 : (List GLock)) (session_2 : Int) (name_3 : Str) (r : ((List GLock) × (List GTold) × Int)) (hf : spec_l12Leave list_1 session_2 name_3 = some r) : CallOK Try.prog 109 .fresh [(.lst 2 (list_1.map encGLock)), (.int .i64 session_2), (.str name_3)] (.tup [(.lst 2 (r.1.map encGLock)), (.lst 3 (r.2.1.map encGTold)), (.int .i64 r.2.2)]) := by
 refine CallOK.of_awp' (md := ⟨true, true⟩) (fun _ => rfl) (fun _ => rfl) (fun h => by cases h) mixed Try.func109 fc109 nle ?_; rw [argT_eq]; unfold spec_l12Leave at hf; unfold c109; refine (show awp Try.prog ⟨true, true⟩ 0 _ (ofL [(0, (.lst 2 (list_1.map encGLock))), (1, (.int .i64 session_2)), (2, (.str name_3))]) [] _ from ?_); refine awp_seq <| w_reg <| s_mov .nil rfl <| s_mov .nil rfl <| s_mov (.int .i64 0) rfl <| w_done <| k_seq <| awp_seq <| w_reg <| ?_; refine s_do (o_bslice (j := 0) (as' := []) rfl (fun _ => by decide) trivial (.refl _) rfl rfl rfl) ?_; refine s_mov (.own 0 0 0) rfl <| w_done <| k_seq <| awp_seq <| w_reg <| ?_
 obtain ⟨r_4, er5, hf⟩ := ob hf
 refine s_mov (.lst 2 (list_1.map encGLock)) rfl <| s_do (o_callf (v := (.own 1 0 r_4.length)) (h' := [.row 2 (r_4.map encGLock)]) (w_spec_l12Own _ _ er5) rfl (.refl _) (by simp only [openV, openVs, List.length_map, List.nil_append, List.append_nil, List.cons_append]; rfl)) <| s_mov (.own 1 0 r_4.length) rfl <| w_done <| k_seq <| awp_seq <| w_reg <| ?_
 obtain ⟨r_6, er7, hf⟩ := ob hf
 refine s_mov (.own 1 0 r_4.length) rfl <| s_mov (.str name_3) rfl <| ?_; refine s_do (o_callh (v := (.int .i64 r_6)) (h2 := [.row 3 ([].map encGTold), .row 2 (r_4.map encGLock)]) [] [1] (fun _ => rfl) (w_spec_l12Find_h0 _ _ _ er7) rfl (.refl _) (.refl _) rfl rfl) ?_; refine s_mov (.int .i64 r_6) rfl <| w_done <| k_seq <| awp_seq <| awp_seq <| ?_
 obtain ⟨s31_18, hb1, hf⟩ := ob hf
 refine awp_cut ([(1, (.int .i64 session_2)), (2, (.str name_3)), (9, (.own 0 0 0)), (10, (.own 1 0 r_4.length)), (11, (.int .i64 r_6)), (31, (.bool s31_18))], [.row 3 ([].map encGTold), .row 2 (r_4.map encGLock)]) ?_ ?_
 ·rcases oo hb1 with ⟨x_22, ex23, hb1⟩ | ⟨ex23, hb1⟩
  ·refine w_opn (o := 1) (i := (0 + r_6.toNat)) (el := (.agg [(.str x_22.Name), (.lst 1 (x_22.Queue.map encI))])) (el2 := (.agg [(.str x_22.Name), (.own 2 0 x_22.Queue.length)])) (xs := [.row 1 (x_22.Queue.map encI)]) rfl rfl rfl ex23 rfl (by simp only [AV.cells, openVs, openV, List.length_map, List.nil_append, List.append_nil, List.cons_append]; rfl) <| w_reg <| ?_
   rcases oi hb1 with ⟨c24, hb1⟩ | ⟨c24, hb1⟩
   ·refine s_mov (.int .i64 r_6) rfl <| s_q (.bool (decide (r_6 < 0))) rfl (.of rfl trivial) rfl <| s_mov (.bool (decide (r_6 < 0))) rfl <| s_lit (s := 22) (b := true) rfl c24 <| s_off rfl rfl <| s_off rfl rfl <| s_off rfl rfl <| s_off rfl rfl <| s_off rfl rfl <| s_off rfl rfl <| s_off rfl rfl <| s_off rfl rfl <| s_q (.bool true) rfl (.of trivial trivial) rfl <| w_done <| ?_; obtain rfl := os hb1; exact ⟨[.cls 1], [0, 1], _, _, rfl, rfl, ⟨.refl _, ⟨.refl _, ⟨.of_eq (congrArg (AV.own _ 0) (by simp)), ⟨.refl _, ⟨.refl _, ⟨.refl _, trivial⟩⟩⟩⟩⟩⟩, (.cons (.refl _) (.cons ((leo_cls0 ex23 (.agg (.cons (.refl _) (.cons (.of_eq (congrArg (AV.lst _) (tk (enc := encI) x_22.Queue))) .nil))))) .nil))⟩
   ·obtain ⟨g25, hb1⟩ := og hb1
    obtain ⟨r_26, er27, hb1⟩ := ob hb1
    refine s_mov (.int .i64 r_6) rfl <| s_q (.bool (decide (r_6 < 0))) rfl (.of rfl trivial) rfl <| s_mov (.bool (decide (r_6 < 0))) rfl <| s_lit (s := 22) (b := false) rfl (bf c24) <| s_on rfl <| s_mov (.own 1 0 r_4.length) rfl <| s_on rfl <| s_mov (.int .i64 r_6) rfl <| s_on rfl <| s_do (o_iaddrx rfl rfl g25.1 g25.2 rfl rfl) <| s_on rfl <| s_do (o_faddrx rfl rfl) <| s_on rfl <| s_do (o_loadx rfl rfl nle rfl) <| s_on rfl <| s_mov (.int .i64 session_2) rfl <| s_on rfl <| ?_; refine s_do (o_callh (v := (.bool r_26)) (h2 := [.row 3 ([].map encGTold), .rowx 2 (r_4.map encGLock) (0 + r_6.toNat) (.agg [(.str x_22.Name), (.own 2 0 x_22.Queue.length)]), .row 1 (x_22.Queue.map encI)]) [] [2] (fun _ => rfl) (w_spec_l12In_h0 _ _ _ er27) rfl (.refl _) (.refl _) rfl rfl) ?_
    refine s_on rfl <| s_q (.bool (!r_26)) rfl (.of trivial trivial) rfl <| s_q (.bool (!r_26)) rfl (.of trivial trivial) rfl <| w_done <| ?_; obtain rfl := os hb1; exact ⟨[.cls 1], [0, 1], _, _, rfl, rfl, ⟨.refl _, ⟨.refl _, ⟨.of_eq (congrArg (AV.own _ 0) (by simp)), ⟨.refl _, ⟨.refl _, ⟨.refl _, trivial⟩⟩⟩⟩⟩⟩, (.cons (.refl _) (.cons ((leo_cls0 ex23 (.agg (.cons (.refl _) (.cons (.of_eq (congrArg (AV.lst _) (tk (enc := encI) x_22.Queue))) .nil))))) .nil))⟩
  ·refine w_rev0 <| w_reg <| ?_
   rcases oi hb1 with ⟨c28, hb1⟩ | ⟨c28, hb1⟩
   ·refine s_mov (.int .i64 r_6) rfl <| s_q (.bool (decide (r_6 < 0))) rfl (.of rfl trivial) rfl <| s_mov (.bool (decide (r_6 < 0))) rfl <| s_lit (s := 22) (b := true) rfl c28 <| s_off rfl rfl <| s_off rfl rfl <| s_off rfl rfl <| s_off rfl rfl <| s_off rfl rfl <| s_off rfl rfl <| s_off rfl rfl <| s_off rfl rfl <| s_q (.bool true) rfl (.of trivial trivial) rfl <| w_done <| ?_; obtain rfl := os hb1; exact ⟨[], [0, 1], _, _, rfl, rfl, ⟨.refl _, ⟨.refl _, ⟨.of_eq (congrArg (AV.own _ 0) (by simp)), ⟨.refl _, ⟨.refl _, ⟨.refl _, trivial⟩⟩⟩⟩⟩⟩, (.refl _)⟩
   ·obtain ⟨g29, hb1⟩ := og hb1
    cases hb1
 ·rcases oi hf with ⟨c30, hf⟩ | ⟨c30, hf⟩
  ·refine w_condt rfl c30 <| awp_seq <| w_reg <| s_mov (.own 1 0 r_4.length) rfl <| s_mov (.own 0 0 0) rfl <| s_mov (.own 1 0 r_4.length) rfl <| s_mov (.own 0 0 0) rfl <| s_mov (.int .i64 5) rfl <| w_done <| k_seq <| w_ret <| ?_; obtain rfl := os hf; exact r_fresh ⟨.of trivial trivial, ⟨.of trivial trivial, ⟨.of trivial trivial, trivial⟩⟩⟩ rfl (by decide) (.tup (.cons (.of_eq (congrArg (AV.lst _) (tk (enc := encGLock) r_4))) (.cons (.refl _) (.cons (.refl _) .nil))))
  ·refine w_condf rfl (bf c30) <| w_skip <| k_seq <| awp_seq <| w_reg <| ?_; refine s_do (o_bslice (j := 2) (as' := []) rfl (fun _ => by decide) trivial (.refl _) rfl rfl rfl) ?_; refine s_mov (.own 2 0 0) rfl <| w_done <| k_seq <| awp_seq <| awp_seq <| w_reg <| s_mov (.int .i64 0) rfl <| w_done <| k_seq <| ?_
   obtain ⟨q_124, hb1, hf⟩ := ob hf
   refine awp_cut ([(1, (.int .i64 session_2)), (2, (.str name_3)), (9, (.own 0 0 0)), (10, (.own 1 0 r_4.length)), (11, (.int .i64 r_6)), (12, (.own 2 0 q_124.length))], [.row 3 ([].map encGTold), .row 2 (r_4.map encGLock), .row 1 (q_124.map encI)]) ?_ ?_
   ·refine awp_loop (X := {q : (Nat × Int × (List Int)) // spec_l12Leave_L1 r_4 r_6 session_2 q.1 q.2.1 q.2.2 = some q_124}) (fun q => ([(1, (.int .i64 session_2)), (2, (.str name_3)), (9, (.own 0 0 0)), (10, (.own 1 0 r_4.length)), (11, (.int .i64 r_6)), (12, (.own 2 0 q.1.2.2.length)), (13, (.int .i64 q.1.2.1))], [.row 3 ([].map encGTold), .row 2 (r_4.map encGLock), .row 1 (q.1.2.2.map encI)])) (fun q => q.1.1) ⟨(FUEL, 0, []), hb1⟩ ⟨[], [0, 1, 2], _, _, rfl, rfl, ⟨.refl _, ⟨.refl _, ⟨.refl _, ⟨.refl _, ⟨.refl _, ⟨.of_eq (congrArg (AV.own _ 0) (by simp)), ⟨.refl _, trivial⟩⟩⟩⟩⟩⟩⟩, (.refl _)⟩ ?_
    rintro ⟨⟨k, i_108, q_109⟩, hc1⟩
    have hc1 : spec_l12Leave_L1 r_4 r_6 session_2 k i_108 q_109 = some q_124 := hc1
    refine (show awp Try.prog ⟨true, true⟩ 0 _ (ofL [(1, (.int .i64 session_2)), (2, (.str name_3)), (9, (.own 0 0 0)), (10, (.own 1 0 r_4.length)), (11, (.int .i64 r_6)), (12, (.own 2 0 q_109.length)), (13, (.int .i64 i_108))]) [.row 3 ([].map encGTold), .row 2 (r_4.map encGLock), .row 1 (q_109.map encI)] _ from ?_)
    rcases k with _ | k
    ·rw [spec_l12Leave_L1.eq_1] at hc1
     cases hc1
    ·rw [spec_l12Leave_L1.eq_2] at hc1; refine awp_seq <| awp_seq <| ?_
     obtain ⟨x_127, ex128, hc1⟩ := ob hc1
     refine w_opn (o := 1) (i := (0 + r_6.toNat)) (el := (.agg [(.str x_127.Name), (.lst 1 (x_127.Queue.map encI))])) (el2 := (.agg [(.str x_127.Name), (.own 3 0 x_127.Queue.length)])) (xs := [.row 1 (x_127.Queue.map encI)]) rfl rfl rfl ex128 rfl (by simp only [AV.cells, openVs, openV, List.length_map, List.nil_append, List.append_nil, List.cons_append]; rfl) <| w_reg <| ?_
     obtain ⟨g129, hc1⟩ := og hc1
     refine s_mov (.int .i64 i_108) rfl <| s_mov (.own 1 0 r_4.length) rfl <| s_mov (.int .i64 r_6) rfl <| s_do (o_iaddrx rfl rfl g129.1 g129.2 rfl rfl) <| s_do (o_faddrx rfl rfl) <| s_do (o_loadx rfl rfl nle rfl) <| s_dof (o_lenown rfl rfl) fun hl130 => s_q (.bool (decide (i_108 < (x_127.Queue.length : Int)))) rfl (.of rfl trivial) rfl <| w_done <| k_seq <| ?_
     rcases oi hc1 with ⟨c131, hc1⟩ | ⟨c131, hc1⟩
     ·refine w_condt rfl c131 <| w_skip <| k_seq <| awp_seq <| w_blk <| awp_seq <| w_reg <| ?_
      obtain ⟨g132, hc1⟩ := og hc1
      obtain ⟨g133, hc1⟩ := og hc1
      obtain ⟨x_134, ex135, hc1⟩ := ob hc1
      refine s_mov (.own 1 0 r_4.length) rfl <| s_mov (.int .i64 r_6) rfl <| s_do (o_iaddrx rfl rfl g132.1 g132.2 rfl rfl) <| s_do (o_faddrx rfl rfl) <| s_do (o_loadx rfl rfl nle rfl) <| s_mov (.int .i64 i_108) rfl <| s_do (o_iaddrown rfl rfl g133.1 g133.2 rfl rfl) <| s_do (o_loadrowm (enc := encI) (v := (.int .i64 x_134)) rfl rfl ex135 ⟨rfl, rfl⟩ rfl rfl) <| s_mov (.int .i64 session_2) rfl <| s_q (.bool (x_134 != session_2)) rfl (.of rfl trivial) rfl <| w_done <| k_seq <| ?_
      rcases oi hc1 with ⟨c136, hc1⟩ | ⟨c136, hc1⟩
      ·refine w_condt rfl c136 <| w_reg <| ?_
       obtain ⟨g137, hc1⟩ := og hc1
       obtain ⟨g138, hc1⟩ := og hc1
       obtain ⟨g139, hc1⟩ := og hc1
       refine s_mov (.own 2 0 q_109.length) rfl <| s_mov (.own 1 0 r_4.length) rfl <| s_mov (.int .i64 r_6) rfl <| s_do (o_iaddrx rfl rfl g137.1 g137.2 rfl rfl) <| s_do (o_faddrx rfl rfl) <| s_do (o_loadx rfl rfl nle rfl) <| s_mov (.int .i64 i_108) rfl <| s_do (o_iaddrown rfl rfl g138.1 g138.2 rfl rfl) <| s_do (o_loadrowm (enc := encI) (v := (.int .i64 x_134)) rfl rfl ex135 ⟨rfl, rfl⟩ rfl rfl) <| ?_; refine s_do (o_bslice (j := 4) (as' := [(.int .i64 x_134)]) rfl (fun _ => by decide) ⟨rfl, trivial⟩ (.refl _) rfl rfl rfl) ?_
       refine s_do (o_appendd (j := 5) (L := ((q_109 ++ [x_134]).map encI)) (len := (q_109 ++ [x_134]).length) rfl false rfl rfl (fun _ => flo (enc := encI) (fun _ => rfl) [x_134] _) (fun _ _ h => (ownl (show AV.own _ _ _ = AV.lst _ _ from h)).elim) (by decide) (apoc (enc := encI) q_109 [x_134] _ (by rfl)) (by simp <;> omega) g139 rfl rfl) ?_
       refine s_mov (.own 5 0 ((q_109 ++ [x_134]).length)) rfl <| w_done <| k_blk <| k_seq <| w_reg <| s_mov (.int .i64 i_108) rfl <| s_q (.int .i64 (w64 (i_108 + 1))) rfl (.of rfl trivial) rfl <| s_mov (.int .i64 (w64 (i_108 + 1))) rfl <| w_done <| ?_; exact k_loopn ⟨(k, w64 (i_108 + 1), q_109 ++ [x_134]), hc1⟩ (Nat.lt_succ_self _) ⟨[.cls 1], [0, 1, 5], _, _, rfl, rfl, ⟨.refl _, ⟨.refl _, ⟨.refl _, ⟨.refl _, ⟨.refl _, ⟨.refl _, ⟨.refl _, trivial⟩⟩⟩⟩⟩⟩⟩, (.cons (.refl _) (.cons ((leo_cls0 ex128 (.agg (.cons (.refl _) (.cons (.of_eq (congrArg (AV.lst _) (tk (enc := encI) x_127.Queue))) .nil))))) (.cons (.refl _) .nil)))⟩
      ·refine w_condf rfl (bf c136) <| w_skip <| k_blk <| k_seq <| w_reg <| s_mov (.int .i64 i_108) rfl <| s_q (.int .i64 (w64 (i_108 + 1))) rfl (.of rfl trivial) rfl <| s_mov (.int .i64 (w64 (i_108 + 1))) rfl <| w_done <| ?_; exact k_loopn ⟨(k, w64 (i_108 + 1), q_109), hc1⟩ (Nat.lt_succ_self _) ⟨[.cls 1], [0, 1, 2], _, _, rfl, rfl, ⟨.refl _, ⟨.refl _, ⟨.refl _, ⟨.refl _, ⟨.refl _, ⟨.refl _, ⟨.refl _, trivial⟩⟩⟩⟩⟩⟩⟩, (.cons (.refl _) (.cons ((leo_cls0 ex128 (.agg (.cons (.refl _) (.cons (.of_eq (congrArg (AV.lst _) (tk (enc := encI) x_127.Queue))) .nil))))) (.cons (.refl _) .nil)))⟩
     ·refine w_condf rfl (bf c131) <| w_exit <| k_seqx <| k_loopx <| k_blkx <| ?_; obtain rfl := os hc1; exact ⟨[.cls 1], [0, 1, 2], _, _, rfl, rfl, ⟨.refl _, ⟨.refl _, ⟨.refl _, ⟨.refl _, ⟨.refl _, ⟨.refl _, trivial⟩⟩⟩⟩⟩⟩, (.cons (.refl _) (.cons ((leo_cls0 ex128 (.agg (.cons (.refl _) (.cons (.of_eq (congrArg (AV.lst _) (tk (enc := encI) x_127.Queue))) .nil))))) (.cons (.refl _) .nil)))⟩
   ·refine awp_seq ?_
    obtain ⟨told_165, hb1, hf⟩ := ob hf
    refine awp_cut ([(9, (.own 0 0 told_165.length)), (10, (.own 1 0 r_4.length)), (11, (.int .i64 r_6)), (12, (.own 2 0 q_124.length))], [.row 3 (told_165.map encGTold), .row 2 (r_4.map encGLock), .row 1 (q_124.map encI)]) ?_ ?_
    ·refine awp_seq ?_
     obtain ⟨s79_176, hb2, hb1⟩ := ob hb1
     refine awp_cut ([(2, (.str name_3)), (9, (.own 0 0 0)), (10, (.own 1 0 r_4.length)), (11, (.int .i64 r_6)), (12, (.own 2 0 q_124.length)), (79, (.bool s79_176))], [.row 3 ([].map encGTold), .row 2 (r_4.map encGLock), .row 1 (q_124.map encI)]) ?_ ?_
     ·obtain ⟨x_179, ex180, hb2⟩ := ob hb2
      refine w_opn (o := 1) (i := (0 + r_6.toNat)) (el := (.agg [(.str x_179.Name), (.lst 1 (x_179.Queue.map encI))])) (el2 := (.agg [(.str x_179.Name), (.own 3 0 x_179.Queue.length)])) (xs := [.row 1 (x_179.Queue.map encI)]) rfl rfl rfl ex180 rfl (by simp only [AV.cells, openVs, openV, List.length_map, List.nil_append, List.append_nil, List.cons_append]; rfl) <| w_reg <| s_mov (.own 1 0 r_4.length) rfl <| s_mov (.int .i64 r_6) rfl <| ?_
      obtain ⟨g181, hb2⟩ := og hb2
      refine s_do (o_iaddrx rfl rfl g181.1 g181.2 rfl rfl) <| s_do (o_faddrx rfl rfl) <| s_do (o_loadx rfl rfl nle rfl) <| ?_
      obtain ⟨g182, hb2⟩ := og hb2
      refine s_do (o_iaddrownn rfl rfl g182 rfl rfl) ?_
      obtain ⟨x_183, ex184, hb2⟩ := ob hb2
      refine s_do (o_loadrowm (enc := encI) (v := (.int .i64 x_183)) rfl rfl ex184 ⟨rfl, rfl⟩ rfl rfl) <| s_mov (.int .i64 session_2) rfl <| s_q (.bool (x_183 == session_2)) rfl (.of rfl trivial) rfl <| s_mov (.bool (x_183 == session_2)) rfl <| ?_
      rcases oi hb2 with ⟨c185, hb2⟩ | ⟨c185, hb2⟩
      ·refine s_lit (s := 75) (b := true) rfl c185 <| s_on rfl <| s_mov (.own 2 0 q_124.length) rfl <| s_on rfl <| s_dof (o_lenown rfl rfl) fun hl186 => s_on rfl <| s_q (.bool (decide ((q_124.length : Int) > 0))) rfl (.of rfl trivial) rfl <| s_q (.bool (decide ((q_124.length : Int) > 0))) rfl (.of trivial trivial) rfl <| w_done <| ?_; obtain rfl := os hb2; exact ⟨[.cls 1], [0, 1, 2], _, _, rfl, rfl, ⟨.refl _, ⟨.refl _, ⟨.refl _, ⟨.refl _, ⟨.refl _, ⟨.refl _, trivial⟩⟩⟩⟩⟩⟩, (.cons (.refl _) (.cons ((leo_cls0 ex180 (.agg (.cons (.refl _) (.cons (.of_eq (congrArg (AV.lst _) (tk (enc := encI) x_179.Queue))) .nil))))) (.cons (.refl _) .nil)))⟩
      ·refine s_lit (s := 75) (b := false) rfl (bf c185) <| s_off rfl rfl <| s_off rfl rfl <| s_off rfl rfl <| s_q (.bool false) rfl (.of trivial trivial) rfl <| w_done <| ?_; obtain rfl := os hb2; exact ⟨[.cls 1], [0, 1, 2], _, _, rfl, rfl, ⟨.refl _, ⟨.refl _, ⟨.refl _, ⟨.refl _, ⟨.refl _, ⟨.refl _, trivial⟩⟩⟩⟩⟩⟩, (.cons (.refl _) (.cons ((leo_cls0 ex180 (.agg (.cons (.refl _) (.cons (.of_eq (congrArg (AV.lst _) (tk (enc := encI) x_179.Queue))) .nil))))) (.cons (.refl _) .nil)))⟩
     ·rcases oi hb1 with ⟨c187, hb1⟩ | ⟨c187, hb1⟩
      ·refine w_condt rfl c187 <| w_reg <| ?_
       obtain ⟨g188, hb1⟩ := og hb1
       obtain ⟨x_189, ex190, hb1⟩ := ob hb1
       obtain ⟨g191, hb1⟩ := og hb1
       refine s_mov (.own 0 0 0) rfl <| s_mov (.own 2 0 q_124.length) rfl <| s_do (o_iaddrownn rfl rfl g188 rfl rfl) <| s_do (o_loadrowm (enc := encI) (v := (.int .i64 x_189)) rfl rfl ex190 ⟨rfl, rfl⟩ rfl rfl) <| s_mov (.str name_3) rfl <| s_q (.agg [(.int .i64 x_189), (.str [108, 111, 99, 107, 101, 100]), (.str name_3)]) rfl (.of ⟨⟨rfl, nle, trivial⟩, ⟨⟨rfl, nle, trivial⟩, ⟨⟨rfl, nle, trivial⟩, trivial⟩⟩⟩ trivial) rfl <| ?_; refine s_do (o_bslice (j := 3) (as' := [(encGTold (⟨x_189, [108, 111, 99, 107, 101, 100], name_3⟩ : GTold))]) rfl (fun _ => by decide) ⟨rfl, trivial⟩ (.refl _) rfl rfl rfl) ?_
       refine s_do (o_appendd (j := 4) (L := (([] ++ [(⟨x_189, [108, 111, 99, 107, 101, 100], name_3⟩ : GTold)]).map encGTold)) (len := ([] ++ [(⟨x_189, [108, 111, 99, 107, 101, 100], name_3⟩ : GTold)]).length) rfl false rfl rfl (fun _ => flo (enc := encGTold) (fun _ => rfl) [(⟨x_189, [108, 111, 99, 107, 101, 100], name_3⟩ : GTold)] _) (fun _ _ h => (ownl (show AV.own _ _ _ = AV.lst _ _ from h)).elim) (by decide) ((by simp [← List.map_take])) (by simp <;> omega) g191 rfl rfl) ?_
       refine s_mov (.own 4 0 (([] ++ [(⟨x_189, [108, 111, 99, 107, 101, 100], name_3⟩ : GTold)]).length)) rfl <| w_done <| ?_; obtain rfl := os hb1; exact ⟨[], [4, 1, 2], _, _, rfl, rfl, ⟨.refl _, ⟨.refl _, ⟨.refl _, ⟨.refl _, trivial⟩⟩⟩⟩, (.refl _)⟩
      ·refine w_condf rfl (bf c187) <| w_skip <| ?_; obtain rfl := os hb1; exact ⟨[], [0, 1, 2], _, _, rfl, rfl, ⟨.refl _, ⟨.refl _, ⟨.refl _, ⟨.refl _, trivial⟩⟩⟩⟩, (.refl _)⟩
    ·refine awp_seq ?_
     obtain ⟨x_193, ex194, hf⟩ := ob hf
     refine w_opn (o := 1) (i := (0 + r_6.toNat)) (el := (.agg [(.str x_193.Name), (.lst 1 (x_193.Queue.map encI))])) (el2 := (.agg [(.str x_193.Name), (.own 3 0 x_193.Queue.length)])) (xs := [.row 1 (x_193.Queue.map encI)]) rfl rfl rfl ex194 rfl (by simp only [AV.cells, openVs, openV, List.length_map, List.nil_append, List.append_nil, List.cons_append]; rfl) <| w_reg <| ?_
     obtain ⟨g195, hf⟩ := og hf
     refine s_mov (.own 1 0 r_4.length) rfl <| s_mov (.int .i64 r_6) rfl <| s_mov (.own 2 0 q_124.length) rfl <| s_do (o_iaddrx rfl rfl g195.1 g195.2 rfl rfl) <| s_do (o_faddrx rfl rfl) <| s_do0 (o_storex (v := (.own 2 0 q_124.length)) (y' := (.agg [(.str x_193.Name), (.own 2 0 q_124.length)])) rfl rfl rfl trivial ⟨rfl, nle⟩ ⟨⟨rfl, trivial⟩, trivial⟩ rfl) <| w_done <| k_seq <| awp_seq <| awp_seq <| w_reg <| s_mov (.own 2 0 q_124.length) rfl <| s_dof (o_lenown rfl rfl) fun hl196 => s_q (.bool ((q_124.length : Int) == 0)) rfl (.of rfl trivial) rfl <| w_done <| k_seq <| ?_
     rcases oi hf with ⟨c197, hf⟩ | ⟨c197, hf⟩
     ·refine w_condt rfl c197 <| w_cls (o := 1) (y := (⟨x_193.Name, q_124⟩ : GLock)) (h2 := [.row 3 (told_165.map encGTold), .rowx 2 (r_4.map encGLock) (0 + r_6.toNat) (.agg [(.str x_193.Name), (.own 2 0 q_124.length)]), .dead, .row 1 (x_193.Queue.map encI)]) rfl rfl rfl (.agg (.cons (.refl _) (.cons (.of_eq (congrArg (AV.lst _) (tk (enc := encI) q_124))) .nil))) rfl <| w_reg <| ?_
      obtain ⟨g200, hf⟩ := og hf
      obtain ⟨g201, hf⟩ := og hf
      obtain ⟨g202, hf⟩ := og hf
      refine s_mov (.own 1 0 r_4.length) rfl <| s_mov (.int .i64 r_6) rfl <| s_do (o_slto rfl rfl rfl g200.1 g200.2) <| s_mov (.own 1 0 r_4.length) rfl <| s_mov (.int .i64 r_6) rfl <| s_q (.int .i64 (w64 (r_6 + 1))) rfl (.of rfl trivial) rfl <| s_do (o_sldo rfl rfl rfl g201.1 g201.2) <| s_dol (o_shift rfl (j := 4) (L := (((r_4.set (0 + r_6.toNat) (⟨x_193.Name, q_124⟩ : GLock)).take r_6.toNat) ++ (((r_4.set (0 + r_6.toNat) (⟨x_193.Name, q_124⟩ : GLock)).drop ((w64 (r_6 + 1)).toNat)).take (r_4.length - (w64 (r_6 + 1)).toNat))).map encGLock) (len := (r_6.toNat + (r_4.length - (w64 (r_6 + 1)).toNat))) rfl rfl g202 rfl (by simp only [List.map_append, List.map_take, List.map_drop]) rfl rfl) trivial trivial <| s_dol (o_mov (.own 4 0 (r_6.toNat + (r_4.length - (w64 (r_6 + 1)).toNat))) rfl) a_same trivial <| ?_
      refine w_done <| k_seq <| awp_seq <| w_reg <| s_mov (.own 4 0 (r_6.toNat + (r_4.length - (w64 (r_6 + 1)).toNat))) rfl <| s_mov (.own 0 0 told_165.length) rfl <| s_mov (.own 4 0 (r_6.toNat + (r_4.length - (w64 (r_6 + 1)).toNat))) rfl <| s_mov (.own 0 0 told_165.length) rfl <| s_mov (.int .i64 0) rfl <| w_done <| k_seq <| w_rev0 <| w_ret <| ?_; obtain rfl := os hf
      exact r_fresh ⟨.of trivial trivial, ⟨.of trivial trivial, ⟨.of trivial trivial, trivial⟩⟩⟩ rfl (by decide) (.tup (.cons (.of_eq (congrArg (AV.lst _) (tkl (enc := encGLock) (a := ((r_4.set (0 + r_6.toNat) (⟨x_193.Name, q_124⟩ : GLock)).take r_6.toNat) ++ (((r_4.set (0 + r_6.toNat) (⟨x_193.Name, q_124⟩ : GLock)).drop ((w64 (r_6 + 1)).toNat)).take (r_4.length - (w64 (r_6 + 1)).toNat))) (by first | (simp; done) | (simp <;> omega))))) (.cons (.of_eq (congrArg (AV.lst _) (tk (enc := encGTold) told_165))) (.cons (.refl _) .nil))))
     ·refine w_condf rfl (bf c197) <| w_skip <| k_seq <| awp_seq <| w_reg <| s_mov (.own 1 0 r_4.length) rfl <| s_mov (.own 0 0 told_165.length) rfl <| s_mov (.own 1 0 r_4.length) rfl <| s_mov (.own 0 0 told_165.length) rfl <| s_mov (.int .i64 0) rfl <| w_done <| k_seq <| w_cls (o := 1) (y := (⟨x_193.Name, q_124⟩ : GLock)) (h2 := [.row 3 (told_165.map encGTold), .rowx 2 (r_4.map encGLock) (0 + r_6.toNat) (.agg [(.str x_193.Name), (.own 2 0 q_124.length)]), .dead, .row 1 (x_193.Queue.map encI)]) rfl rfl rfl (.agg (.cons (.refl _) (.cons (.of_eq (congrArg (AV.lst _) (tk (enc := encI) q_124))) .nil))) rfl <| w_ret <| ?_; obtain rfl := os hf
      exact r_fresh ⟨.of trivial trivial, ⟨.of trivial trivial, ⟨.of trivial trivial, trivial⟩⟩⟩ rfl (by decide) (.tup (.cons (.of_eq (congrArg (AV.lst _) (tkl (enc := encGLock) (a := r_4.set (0 + r_6.toNat) (⟨x_193.Name, q_124⟩ : GLock)) (by first | (simp; done) | (simp <;> omega))))) (.cons (.of_eq (congrArg (AV.lst _) (tk (enc := encGTold) told_165))) (.cons (.refl _) .nil))))

/- spec.l12Room -/
def c200 : ACode :=
 (.seq (.reg (tm 4 (.c .nil) (tm 5 (.c (.int .i64 0)) (tm 6 (.c (.bool false)) .done))))
 (.seq (.reg (tm 11 (.t 0) (tq 12 (.call 191 [(.t 11)]) (tm 7 (.t 12) .done))))
 (.seq (.seq (.reg (tm 13 (.t 7) (tm 14 (.t 1) (tq 15 (.call 194 [(.t 13), (.t 14)]) (tm 8 (.t 15) .done)))))
 (.seq (.reg (tm 16 (.t 8) (tq 17 (.bin .geq (.t 16) (.c (.int .i64 0))) .done)))
 (.cond (.t 17) (.seq (.reg (tm 18 (.t 7) (tm 19 (.t 8) (tm 4 (.t 18) (tm 5 (.t 19) (tm 6 (.c (.bool true)) .done))))))
 .ret)
 .skip)))
 (.seq (.seq (.reg (tm 20 (.t 7) (tq 21 (.len (.t 20)) (tq 22 (.bin .eql (.t 21) (.c (.int .i64 6))) .done))))
 (.cond (.t 22) (.seq (.reg (tm 23 (.t 7) (tm 4 (.t 23) (tm 5 (.c (.int .i64 0)) (tm 6 (.c (.bool false)) .done)))))
 .ret)
 .skip))
 (.seq (.reg (tm 9 (.c (.int .i64 0)) .done))
 (.seq (.block 0 (.loop (.seq (.seq (.reg (tm 24 (.t 9) (tm 25 (.t 7) (tq 26 (.len (.t 25)) (tq 27 (.bin .lss (.t 24) (.t 26)) (tm 28 (.t 27) (tg 29 28 true (.mov (.t 7)) (tg 30 28 true (.mov (.t 9)) (tg 31 28 true (.iaddr 2 (.t 29) (.t 30)) (tg 32 28 true (.faddr 0 (.t 31)) (tg 33 28 true (.load 1 false (.t 32)) (tg 34 28 true (.mov (.t 1)) (tg 35 28 true (.bin .lss (.t 33) (.t 34)) (tq 36 (.pick (.t 28) (.t 35) (.c (.bool false))) .done))))))))))))))
 (.cut (.cond (.t 36) .skip
 (.exit 0))))
 (.block 1 (.reg (tm 37 (.t 9) (tq 38 (.bin .add (.t 37) (.c (.int .i64 1))) (tm 9 (.t 38) .done))))))))
 (.cut (.seq (.reg (tm 39 (.t 7) (tm 40 (.t 9) (tq 41 (.slice 2 (.t 39) (some (.t 40)) none) (tq 42 (.call 191 [(.t 41)]) (tm 10 (.t 42) .done))))))
 (.seq (.reg (tm 43 (.t 7) (tm 44 (.t 9) (tq 45 (.slice 2 (.t 43) none (some (.t 44))) (tm 46 (.t 1) (tq 47 (.build [(.str []), .nil] [(0, 1, (.t 46))]) (tq 48 (.bslice 2 [(.t 47)]) (tq 49 (.append 2 40 (.t 45) (.t 48)) (tm 50 (.t 10) (tq 51 (.append 2 40 (.t 49) (.t 50)) (tm 52 (.t 9) (tm 4 (.t 51) (tm 5 (.t 52) (tm 6 (.c (.bool true)) .done))))))))))))))
 .ret)))))))))
theorem fc200 : fcomp Try.prog Try.f200 = some (c200.erase, [.mov (.t 4), .mov (.t 5), .mov (.t 6)], 53) := by kernel_rfl
def spec_l12Room_L1 (r_3 : (List GLock)) (name_2 : Str) : Nat → Int → Option Int
  | 0, _ => none
  | k + 1, k_37 =>
    ((if (decide (k_37 < (r_3.length : Int))) then
    if (0 : Int) ≤ k_37 ∧ k_37 < (r_3.length : Int) then
    (r_3[(0 + k_37.toNat)]?).bind fun x_63 =>
    some (Op.bytesLess x_63.Name name_2)
    else none
    else
    some false : Option Bool)).bind fun s36_58 =>
    if s36_58 then
    spec_l12Room_L1 r_3 name_2 k (w64 (k_37 + 1))
    else
    some k_37

def spec_l12Room (list_1 : (List GLock)) (name_2 : Str) : Option ((List GLock) × Int × Bool) :=
    (spec_l12Own list_1).bind fun r_3 =>
    (spec_l12Find r_3 name_2).bind fun r_5 =>
    if (decide (r_5 ≥ 0)) then
    some (r_3, r_5, true)
    else
    if ((r_3.length : Int) == 6) then
    some (r_3, 0, false)
    else
    (spec_l12Room_L1 r_3 name_2 FUEL 0).bind fun k_51 =>
    if (0 : Int) ≤ k_51 ∧ k_51 ≤ (r_3.length : Int) then
    (spec_l12Own ((r_3.drop k_51.toNat).take (r_3.length - k_51.toNat))).bind fun r_67 =>
    if (0 : Int) ≤ k_51 ∧ k_51 ≤ (r_3.length : Int) then
    if ((r_3.take k_51.toNat) ++ [(⟨name_2, []⟩ : GLock)]).length ≤ 2 ^ 30 then
    if (((r_3.take k_51.toNat) ++ [(⟨name_2, []⟩ : GLock)]) ++ r_67).length ≤ 2 ^ 30 then
    some (((r_3.take k_51.toNat) ++ [(⟨name_2, []⟩ : GLock)]) ++ r_67, k_51, true)
    else none
    else none
    else none
    else none
theorem w_spec_l12Room (list_1 : (List GLock)) (name_2 : Str) (r : ((List GLock) × Int × Bool)) (hf : spec_l12Room list_1 name_2 = some r) : CallOK Try.prog 200 .fresh [(.lst 2 (list_1.map encGLock)), (.str name_2)] (.tup [(.lst 2 (r.1.map encGLock)), (.int .i64 r.2.1), (.bool r.2.2)]) := by
 refine CallOK.of_awp mixed Try.func200 fc200 nle ?_; rw [argT_eq]; unfold spec_l12Room at hf; unfold c200; refine (show awp Try.prog true 0 _ (ofL [(0, (.lst 2 (list_1.map encGLock))), (1, (.str name_2))]) [] _ from ?_); refine awp_seq <| w_reg <| s_mov .nil rfl <| s_mov (.int .i64 0) rfl <| s_mov (.bool false) rfl <| w_done <| k_seq <| awp_seq <| w_reg <| ?_
 obtain ⟨r_3, er4, hf⟩ := ob hf
 refine s_mov (.lst 2 (list_1.map encGLock)) rfl <| s_do (o_callf (v := (.own 0 0 r_3.length)) (h' := [.row 2 (r_3.map encGLock)]) (w_spec_l12Own _ _ er4) rfl (.refl _) (by simp only [openV, openVs, List.length_map, List.nil_append, List.append_nil, List.cons_append]; rfl)) <| s_mov (.own 0 0 r_3.length) rfl <| w_done <| k_seq <| awp_seq <| awp_seq <| w_reg <| ?_
 obtain ⟨r_5, er6, hf⟩ := ob hf
 refine s_mov (.own 0 0 r_3.length) rfl <| s_mov (.str name_2) rfl <| s_do (o_call (w_spec_l12Find _ _ _ er6) rfl (.cons (.of_eq (congrArg (AV.lst _) (tko r_3))) (.cons (.refl _) .nil)) rfl) <| s_mov (.int .i64 r_5) rfl <| w_done <| k_seq <| awp_seq <| w_reg <| s_mov (.int .i64 r_5) rfl <| s_q (.bool (decide (r_5 ≥ 0))) rfl rfl rfl <| w_done <| k_seq <| ?_
 rcases oi hf with ⟨c7, hf⟩ | ⟨c7, hf⟩
 ·refine w_condt rfl c7 <| awp_seq <| w_reg <| s_mov (.own 0 0 r_3.length) rfl <| s_mov (.int .i64 r_5) rfl <| s_mov (.own 0 0 r_3.length) rfl <| s_mov (.int .i64 r_5) rfl <| s_mov (.bool true) rfl <| w_done <| k_seq <| w_ret <| ?_; obtain rfl := os hf; exact r_fresh ⟨trivial, ⟨trivial, ⟨trivial, trivial⟩⟩⟩ rfl (by decide) (.tup (.cons (.of_eq (congrArg (AV.lst _) (tk (enc := encGLock) r_3))) (.cons (.refl _) (.cons (.refl _) .nil))))
 ·refine w_condf rfl (bf c7) <| w_skip <| k_seq <| awp_seq <| awp_seq <| w_reg <| s_mov (.own 0 0 r_3.length) rfl <| s_dof (o_lenown rfl rfl) fun hl8 => s_q (.bool ((r_3.length : Int) == 6)) rfl rfl rfl <| w_done <| k_seq <| ?_
  rcases oi hf with ⟨c9, hf⟩ | ⟨c9, hf⟩
  ·refine w_condt rfl c9 <| awp_seq <| w_reg <| s_mov (.own 0 0 r_3.length) rfl <| s_mov (.own 0 0 r_3.length) rfl <| s_mov (.int .i64 0) rfl <| s_mov (.bool false) rfl <| w_done <| k_seq <| w_ret <| ?_; obtain rfl := os hf; exact r_fresh ⟨trivial, ⟨trivial, ⟨trivial, trivial⟩⟩⟩ rfl (by decide) (.tup (.cons (.of_eq (congrArg (AV.lst _) (tk (enc := encGLock) r_3))) (.cons (.refl _) (.cons (.refl _) .nil))))
  ·refine w_condf rfl (bf c9) <| w_skip <| k_seq <| awp_seq <| w_reg <| s_mov (.int .i64 0) rfl <| w_done <| k_seq <| awp_seq <| ?_
   obtain ⟨k_51, hb1, hf⟩ := ob hf
   refine awp_cut ([(1, (.str name_2)), (7, (.own 0 0 r_3.length)), (9, (.int .i64 k_51))], [.row 2 (r_3.map encGLock)]) ?_ ?_
   ·refine awp_loop (X := {q : (Nat × Int) // spec_l12Room_L1 r_3 name_2 q.1 q.2 = some k_51}) (fun q => ([(1, (.str name_2)), (7, (.own 0 0 r_3.length)), (9, (.int .i64 q.1.2))], [.row 2 (r_3.map encGLock)])) (fun q => q.1.1) ⟨(FUEL, 0), hb1⟩ ⟨[], [0], _, _, rfl, rfl, ⟨.refl _, ⟨.refl _, ⟨.refl _, trivial⟩⟩⟩, (.refl _)⟩ ?_
    rintro ⟨⟨k, k_37⟩, hc1⟩
    have hc1 : spec_l12Room_L1 r_3 name_2 k k_37 = some k_51 := hc1
    refine (show awp Try.prog true 0 _ (ofL [(1, (.str name_2)), (7, (.own 0 0 r_3.length)), (9, (.int .i64 k_37))]) [.row 2 (r_3.map encGLock)] _ from ?_)
    rcases k with _ | k
    ·rw [spec_l12Room_L1.eq_1] at hc1
     cases hc1
    ·rw [spec_l12Room_L1.eq_2] at hc1; refine awp_seq <| awp_seq <| ?_
     obtain ⟨s36_58, hb2, hc1⟩ := ob hc1
     refine awp_cut ([(1, (.str name_2)), (7, (.own 0 0 r_3.length)), (9, (.int .i64 k_37)), (36, (.bool s36_58))], [.row 2 (r_3.map encGLock)]) ?_ ?_
     ·refine w_reg <| s_mov (.int .i64 k_37) rfl <| s_mov (.own 0 0 r_3.length) rfl <| s_dof (o_lenown rfl rfl) fun hl60 => s_q (.bool (decide (k_37 < (r_3.length : Int)))) rfl rfl rfl <| s_mov (.bool (decide (k_37 < (r_3.length : Int)))) rfl <| ?_
      rcases oi hb2 with ⟨c61, hb2⟩ | ⟨c61, hb2⟩
      ·refine s_lit (s := 28) (b := true) rfl c61 <| s_on rfl <| s_mov (.own 0 0 r_3.length) rfl <| s_on rfl <| s_mov (.int .i64 k_37) rfl <| s_on rfl <| ?_
       obtain ⟨g62, hb2⟩ := og hb2
       refine s_do (o_iaddrown rfl rfl g62.1 g62.2 rfl rfl) <| s_on rfl <| s_q (.ptr 0 (0 + k_37.toNat) 0) rfl trivial rfl <| s_on rfl <| ?_
       obtain ⟨x_63, ex64, hb2⟩ := ob hb2
       refine s_do (o_loadrow (enc := encGLock) (v := (.str x_63.Name)) rfl rfl ex64 nle rfl) <| s_on rfl <| s_mov (.str name_2) rfl <| s_on rfl <| s_q (.bool (Op.bytesLess x_63.Name name_2)) rfl trivial rfl <| s_q (.bool (Op.bytesLess x_63.Name name_2)) rfl trivial rfl <| w_done <| ?_; obtain rfl := os hb2; exact ⟨[], [0], _, _, rfl, rfl, ⟨.refl _, ⟨.refl _, ⟨.refl _, ⟨.refl _, trivial⟩⟩⟩⟩, (.refl _)⟩
      ·refine s_lit (s := 28) (b := false) rfl (bf c61) <| s_off rfl rfl <| s_off rfl rfl <| s_off rfl rfl <| s_off rfl rfl <| s_off rfl rfl <| s_off rfl rfl <| s_off rfl rfl <| s_q (.bool false) rfl trivial rfl <| w_done <| ?_; obtain rfl := os hb2; exact ⟨[], [0], _, _, rfl, rfl, ⟨.refl _, ⟨.refl _, ⟨.refl _, ⟨.refl _, trivial⟩⟩⟩⟩, (.refl _)⟩
     ·rcases oi hc1 with ⟨c65, hc1⟩ | ⟨c65, hc1⟩
      ·refine w_condt rfl c65 <| w_skip <| k_seq <| w_blk <| w_reg <| s_mov (.int .i64 k_37) rfl <| s_q (.int .i64 (w64 (k_37 + 1))) rfl rfl rfl <| s_mov (.int .i64 (w64 (k_37 + 1))) rfl <| w_done <| k_blk <| ?_; exact k_loopn ⟨(k, w64 (k_37 + 1)), hc1⟩ (Nat.lt_succ_self _) ⟨[], [0], _, _, rfl, rfl, ⟨.refl _, ⟨.refl _, ⟨.refl _, trivial⟩⟩⟩, (.refl _)⟩
      ·refine w_condf rfl (bf c65) <| w_exit <| k_seqx <| k_loopx <| k_blkx <| ?_; obtain rfl := os hc1; exact ⟨[], [0], _, _, rfl, rfl, ⟨.refl _, ⟨.refl _, ⟨.refl _, trivial⟩⟩⟩, (.refl _)⟩
   ·refine awp_seq <| w_reg <| ?_
    obtain ⟨g66, hf⟩ := og hf
    obtain ⟨r_67, er68, hf⟩ := ob hf
    refine s_mov (.own 0 0 r_3.length) rfl <| s_mov (.int .i64 k_51) rfl <| s_do (o_sldo rfl rfl rfl g66.1 g66.2) <| s_do (o_callf (v := (.own 1 0 r_67.length)) (h' := [.row 2 (r_67.map encGLock)]) (w_spec_l12Own _ _ er68) rfl (.cons (.of_eq (congrArg (AV.lst _) (tkw _ _ _))) .nil) (by simp only [openV, openVs, List.length_map, List.nil_append, List.append_nil, List.cons_append]; rfl)) <| s_mov (.own 1 0 r_67.length) rfl <| w_done <| k_seq <| awp_seq <| w_reg <| s_mov (.own 0 0 r_3.length) rfl <| s_mov (.int .i64 k_51) rfl <| ?_
    obtain ⟨g69, hf⟩ := og hf
    refine s_do (o_slto rfl rfl rfl g69.1 g69.2) <| s_mov (.str name_2) rfl <| s_q (.agg [(.str name_2), .nil]) rfl ⟨⟨rfl, nle, trivial⟩, trivial⟩ rfl <| ?_; refine s_do (o_bslice (j := 2) (as' := [(encGLock (⟨name_2, []⟩ : GLock))]) rfl (fun _ => by decide) ⟨rfl, trivial⟩ (.cons (.agg (.cons (.refl _) (.cons (.nil _) .nil))) .nil) rfl rfl rfl) ?_
    obtain ⟨g70, hf⟩ := og hf
    refine s_do (o_appendd (j := 3) (L := (((r_3.take k_51.toNat) ++ [(⟨name_2, []⟩ : GLock)]).map encGLock)) (len := ((r_3.take k_51.toNat) ++ [(⟨name_2, []⟩ : GLock)]).length) rfl true rfl rfl (fun h => Bool.noConfusion h) (fun _ _ h => (ownl (show AV.own _ _ _ = AV.lst _ _ from h)).elim) (by decide) ((by simp)) (by simp <;> omega) g70 rfl rfl) ?_
    refine s_mov (.own 1 0 r_67.length) rfl ?_
    obtain ⟨g71, hf⟩ := og hf
    refine s_do (o_appendd (j := 4) (L := ((((r_3.take k_51.toNat) ++ [(⟨name_2, []⟩ : GLock)]) ++ r_67).map encGLock)) (len := (((r_3.take k_51.toNat) ++ [(⟨name_2, []⟩ : GLock)]) ++ r_67).length) rfl true rfl rfl (fun h => Bool.noConfusion h) (fun _ _ h => (ownl (show AV.own _ _ _ = AV.lst _ _ from h)).elim) (by decide) (apo (enc := encGLock) ((r_3.take k_51.toNat) ++ [(⟨name_2, []⟩ : GLock)]) r_67) (by simp <;> omega) g71 rfl rfl) ?_
    refine s_mov (.int .i64 k_51) rfl <| s_mov (.own 4 0 ((((r_3.take k_51.toNat) ++ [(⟨name_2, []⟩ : GLock)]) ++ r_67).length)) rfl <| s_mov (.int .i64 k_51) rfl <| s_mov (.bool true) rfl <| w_done <| k_seq <| w_ret <| ?_; obtain rfl := os hf; exact r_fresh ⟨trivial, ⟨trivial, ⟨trivial, trivial⟩⟩⟩ rfl (by decide) (.tup (.cons (.of_eq (congrArg (AV.lst _) (tk (enc := encGLock) (((r_3.take k_51.toNat) ++ [(⟨name_2, []⟩ : GLock)]) ++ r_67)))) (.cons (.refl _) (.cons (.refl _) .nil))))

/- spec.l12Steal -/
def c118 : ACode :=
 (.seq (.reg (tm 6 (.c .nil) (tm 7 (.c .nil) (tm 8 (.c (.int .i64 0)) .done))))
 (.seq (.reg (tq 15 (.bslice 3 []) (tm 9 (.t 15) .done)))
 (.seq (.reg (tm 17 (.t 0) (tm 18 (.t 2) (tq 19 (.call 200 [(.t 17), (.t 18)]) (tm 16 (.t 19) (tq 20 (.extract 0 (.t 16)) (tq 21 (.extract 1 (.t 16)) (tq 22 (.extract 2 (.t 16)) (tm 10 (.t 20) (tm 11 (.t 21) (tm 12 (.t 22) .done)))))))))))
 (.seq (.seq (.reg (tm 23 (.t 12) (tq 24 (.not (.t 23)) .done)))
 (.cond (.t 24) (.seq (.reg (tm 25 (.t 10) (tm 26 (.t 9) (tm 6 (.t 25) (tm 7 (.t 26) (tm 8 (.c (.int .i64 7)) .done))))))
 .ret)
 .skip))
 (.seq (.reg (tm 27 (.t 1) (tq 28 (.bslice 1 [(.t 27)]) (tm 13 (.t 28) .done))))
 (.seq (.seq (.reg (tm 14 (.c (.int .i64 0)) .done))
 (.block 0 (.loop (.seq (.seq (.reg (tm 29 (.t 14) (tm 30 (.t 10) (tm 31 (.t 11) (tq 32 (.iaddr 2 (.t 30) (.t 31)) (tq 33 (.faddr 1 (.t 32)) (tq 34 (.load 1 false (.t 33)) (tq 35 (.len (.t 34)) (tq 36 (.bin .lss (.t 29) (.t 35)) .done)))))))))
 (.cond (.t 36) .skip
 (.exit 0)))
 (.seq (.block 1 (.seq (.reg (tm 39 (.t 10) (tm 40 (.t 11) (tq 41 (.iaddr 2 (.t 39) (.t 40)) (tq 42 (.faddr 1 (.t 41)) (tq 43 (.load 1 false (.t 42)) (tm 44 (.t 14) (tq 45 (.iaddr 1 (.t 43) (.t 44)) (tq 46 (.load 1 false (.t 45)) (tm 47 (.t 1) (tq 48 (.bin .neq (.t 46) (.t 47)) .done)))))))))))
 (.cond (.t 48) (.reg (tm 49 (.t 13) (tm 50 (.t 10) (tm 51 (.t 11) (tq 52 (.iaddr 2 (.t 50) (.t 51)) (tq 53 (.faddr 1 (.t 52)) (tq 54 (.load 1 false (.t 53)) (tm 55 (.t 14) (tq 56 (.iaddr 1 (.t 54) (.t 55)) (tq 57 (.load 1 false (.t 56)) (tq 58 (.bslice 1 [(.t 57)]) (tq 59 (.append 1 8 (.t 49) (.t 58)) (tm 13 (.t 59) .done)))))))))))))
 .skip)))
 (.reg (tm 37 (.t 14) (tq 38 (.bin .add (.t 37) (.c (.int .i64 1))) (tm 14 (.t 38) .done)))))))))
 (.cut (.seq (.seq (.reg (tm 60 (.t 10) (tm 61 (.t 11) (tq 62 (.iaddr 2 (.t 60) (.t 61)) (tq 63 (.faddr 1 (.t 62)) (tq 64 (.load 1 false (.t 63)) (tq 65 (.len (.t 64)) (tq 66 (.bin .gtr (.t 65) (.c (.int .i64 0))) (tm 67 (.t 66) (tg 68 67 true (.mov (.t 10)) (tg 69 67 true (.mov (.t 11)) (tg 70 67 true (.iaddr 2 (.t 68) (.t 69)) (tg 71 67 true (.faddr 1 (.t 70)) (tg 72 67 true (.load 1 false (.t 71)) (tg 73 67 true (.iaddr 1 (.t 72) (.c (.int .i64 0))) (tg 74 67 true (.load 1 false (.t 73)) (tg 75 67 true (.mov (.t 1)) (tg 76 67 true (.bin .neq (.t 74) (.t 75)) (tq 77 (.pick (.t 67) (.t 76) (.c (.bool false))) .done)))))))))))))))))))
 (.cut (.cond (.t 77) (.reg (tm 78 (.t 9) (tm 79 (.t 10) (tm 80 (.t 11) (tq 81 (.iaddr 2 (.t 79) (.t 80)) (tq 82 (.faddr 1 (.t 81)) (tq 83 (.load 1 false (.t 82)) (tq 84 (.iaddr 1 (.t 83) (.c (.int .i64 0))) (tq 85 (.load 1 false (.t 84)) (tm 86 (.t 2) (tq 87 (.build [(.int .i64 0), (.str []), (.str [])] [(0, 1, (.t 85)), (1, 1, (.c (.str [115, 116, 111, 108, 101, 110]))), (2, 1, (.t 86))]) (tq 88 (.bslice 3 [(.t 87)]) (tq 89 (.append 3 40 (.t 78) (.t 88)) (tm 9 (.t 89) .done))))))))))))))
 .skip)))
 (.cut (.seq (.reg (tm 90 (.t 10) (tm 91 (.t 11) (tm 92 (.t 13) (tq 93 (.iaddr 2 (.t 90) (.t 91)) (tq 94 (.faddr 1 (.t 93)) (.q ⟨none, none, .store 1 (.t 94) (.t 92)⟩
 .done)))))))
 (.seq (.reg (tm 95 (.t 10) (tm 96 (.t 9) (tm 6 (.t 95) (tm 7 (.t 96) (tm 8 (.c (.int .i64 0)) .done))))))
 .ret)))))))))))
theorem fc118 : fcomp Try.prog Try.f118 = some (c118.erase, [.mov (.t 6), .mov (.t 7), .mov (.t 8)], 97) := by kernel_rfl
def spec_l12Steal_L1 (r_4 : ((List GLock) × Int × Bool)) (session_2 : Int) : Nat → Int → (List Int) → Option (List Int)
  | 0, _, _ => none
  | k + 1, i_82, q_83 =>
    if (0 : Int) ≤ r_4.2.1 ∧ r_4.2.1 < (r_4.1.length : Int) then
    (r_4.1[(0 + r_4.2.1.toNat)]?).bind fun x_100 =>
    if (decide (i_82 < (x_100.Queue.length : Int))) then
    if (0 : Int) ≤ r_4.2.1 ∧ r_4.2.1 < (r_4.1.length : Int) then
    (idx x_100.Queue i_82).bind fun x_105 =>
    if (x_105 != session_2) then
    if (0 : Int) ≤ r_4.2.1 ∧ r_4.2.1 < (r_4.1.length : Int) then
    (idx x_100.Queue i_82).bind fun x_109 =>
    if (q_83 ++ [x_109]).length ≤ 2 ^ 30 then
    spec_l12Steal_L1 r_4 session_2 k (w64 (i_82 + 1)) (q_83 ++ [x_109])
    else none
    else none
    else
    spec_l12Steal_L1 r_4 session_2 k (w64 (i_82 + 1)) q_83
    else none
    else
    some q_83
    else none

def spec_l12Steal (list_1 : (List GLock)) (session_2 : Int) (name_3 : Str) : Option ((List GLock) × (List GTold) × Int) :=
    (spec_l12Room list_1 name_3).bind fun r_4 =>
    if (!r_4.2.2) then
    some (r_4.1, [], 7)
    else
    (spec_l12Steal_L1 r_4 session_2 FUEL 0 [session_2]).bind fun q_97 =>
    ((((if (0 : Int) ≤ r_4.2.1 ∧ r_4.2.1 < (r_4.1.length : Int) then
    (r_4.1[(0 + r_4.2.1.toNat)]?).bind fun x_150 =>
    if (decide ((x_150.Queue.length : Int) > 0)) then
    if (0 : Int) ≤ r_4.2.1 ∧ r_4.2.1 < (r_4.1.length : Int) then
    (idx x_150.Queue 0).bind fun x_155 =>
    some (x_155 != session_2)
    else none
    else
    some false
    else none : Option Bool)).bind fun s77_147 =>
    if s77_147 then
    if (0 : Int) ≤ r_4.2.1 ∧ r_4.2.1 < (r_4.1.length : Int) then
    (r_4.1[(0 + r_4.2.1.toNat)]?).bind fun x_159 =>
    (idx x_159.Queue 0).bind fun x_161 =>
    if ([] ++ [(⟨x_161, [115, 116, 111, 108, 101, 110], name_3⟩ : GTold)]).length ≤ 2 ^ 30 then
    some ([] ++ [(⟨x_161, [115, 116, 111, 108, 101, 110], name_3⟩ : GTold)])
    else none
    else none
    else
    some [] : Option (List GTold))).bind fun told_137 =>
    if (0 : Int) ≤ r_4.2.1 ∧ r_4.2.1 < (r_4.1.length : Int) then
    (r_4.1[(0 + r_4.2.1.toNat)]?).bind fun x_165 =>
    some (r_4.1.set (0 + r_4.2.1.toNat) (⟨x_165.Name, q_97⟩ : GLock), told_137, 0)
    else none
theorem w_spec_l12Steal (list_1 : (List GLock)) (session_2 : Int) (name_3 : Str) (r : ((List GLock) × (List GTold) × Int)) (hf : spec_l12Steal list_1 session_2 name_3 = some r) : CallOK Try.prog 118 .fresh [(.lst 2 (list_1.map encGLock)), (.int .i64 session_2), (.str name_3)] (.tup [(.lst 2 (r.1.map encGLock)), (.lst 3 (r.2.1.map encGTold)), (.int .i64 r.2.2)]) := by
 refine CallOK.of_awp mixed Try.func118 fc118 nle ?_; rw [argT_eq]; unfold spec_l12Steal at hf; unfold c118; refine (show awp Try.prog true 0 _ (ofL [(0, (.lst 2 (list_1.map encGLock))), (1, (.int .i64 session_2)), (2, (.str name_3))]) [] _ from ?_); refine awp_seq <| w_reg <| s_mov .nil rfl <| s_mov .nil rfl <| s_mov (.int .i64 0) rfl <| w_done <| k_seq <| awp_seq <| w_reg <| ?_; refine s_do (o_bslice (j := 0) (as' := []) rfl (fun _ => by decide) trivial (.refl _) rfl rfl rfl) ?_; refine s_mov (.own 0 0 0) rfl <| w_done <| k_seq <| awp_seq <| w_reg <| ?_
 obtain ⟨r_4, er5, hf⟩ := ob hf
 refine s_mov (.lst 2 (list_1.map encGLock)) rfl <| s_mov (.str name_3) rfl <| s_do (o_callf (v := (.tup [(.own 1 0 r_4.1.length), (.int .i64 r_4.2.1), (.bool r_4.2.2)])) (h' := [.row 2 (r_4.1.map encGLock)]) (w_spec_l12Room _ _ _ er5) rfl (.refl _) (by simp only [openV, openVs, List.length_map, List.nil_append, List.append_nil, List.cons_append]; rfl)) <| s_mov (.tup [(.own 1 0 r_4.1.length), (.int .i64 r_4.2.1), (.bool r_4.2.2)]) rfl <| s_q (.own 1 0 r_4.1.length) rfl nle rfl <| s_q (.int .i64 r_4.2.1) rfl nle rfl <| s_q (.bool r_4.2.2) rfl nle rfl <| s_mov (.own 1 0 r_4.1.length) rfl <| s_mov (.int .i64 r_4.2.1) rfl <| s_mov (.bool r_4.2.2) rfl <| w_done <| k_seq <| awp_seq <| awp_seq <| w_reg <| s_mov (.bool r_4.2.2) rfl <| ?_
 refine s_q (.bool (!r_4.2.2)) rfl trivial rfl <| w_done <| k_seq <| ?_
 rcases oi hf with ⟨c6, hf⟩ | ⟨c6, hf⟩
 ·refine w_condt rfl c6 <| awp_seq <| w_reg <| s_mov (.own 1 0 r_4.1.length) rfl <| s_mov (.own 0 0 0) rfl <| s_mov (.own 1 0 r_4.1.length) rfl <| s_mov (.own 0 0 0) rfl <| s_mov (.int .i64 7) rfl <| w_done <| k_seq <| w_ret <| ?_; obtain rfl := os hf; exact r_fresh ⟨trivial, ⟨trivial, ⟨trivial, trivial⟩⟩⟩ rfl (by decide) (.tup (.cons (.of_eq (congrArg (AV.lst _) (tk (enc := encGLock) r_4.1))) (.cons (.refl _) (.cons (.refl _) .nil))))
 ·refine w_condf rfl (bf c6) <| w_skip <| k_seq <| awp_seq <| w_reg <| s_mov (.int .i64 session_2) rfl <| ?_; refine s_do (o_bslice (j := 2) (as' := [(.int .i64 session_2)]) rfl (fun _ => by decide) ⟨rfl, trivial⟩ (.refl _) rfl rfl rfl) ?_; refine s_mov (.own 2 0 1) rfl <| w_done <| k_seq <| awp_seq <| awp_seq <| w_reg <| s_mov (.int .i64 0) rfl <| w_done <| k_seq <| ?_
  obtain ⟨q_97, hb1, hf⟩ := ob hf
  refine awp_cut ([(1, (.int .i64 session_2)), (2, (.str name_3)), (9, (.own 0 0 0)), (10, (.own 1 0 r_4.1.length)), (11, (.int .i64 r_4.2.1)), (13, (.own 2 0 q_97.length))], [.row 3 ([].map encGTold), .row 2 (r_4.1.map encGLock), .row 1 (q_97.map encI)]) ?_ ?_
  ·refine awp_loop (X := {q : (Nat × Int × (List Int)) // spec_l12Steal_L1 r_4 session_2 q.1 q.2.1 q.2.2 = some q_97}) (fun q => ([(1, (.int .i64 session_2)), (2, (.str name_3)), (9, (.own 0 0 0)), (10, (.own 1 0 r_4.1.length)), (11, (.int .i64 r_4.2.1)), (13, (.own 2 0 q.1.2.2.length)), (14, (.int .i64 q.1.2.1))], [.row 3 ([].map encGTold), .row 2 (r_4.1.map encGLock), .row 1 (q.1.2.2.map encI)])) (fun q => q.1.1) ⟨(FUEL, 0, [session_2]), hb1⟩ ⟨[], [0, 1, 2], _, _, rfl, rfl, ⟨.refl _, ⟨.refl _, ⟨.of_eq (congrArg (AV.own _ 0) (by simp)), ⟨.refl _, ⟨.refl _, ⟨.of_eq (congrArg (AV.own _ 0) (by simp)), ⟨.refl _, trivial⟩⟩⟩⟩⟩⟩⟩, (.refl _)⟩ ?_
   rintro ⟨⟨k, i_82, q_83⟩, hc1⟩
   have hc1 : spec_l12Steal_L1 r_4 session_2 k i_82 q_83 = some q_97 := hc1
   refine (show awp Try.prog true 0 _ (ofL [(1, (.int .i64 session_2)), (2, (.str name_3)), (9, (.own 0 0 0)), (10, (.own 1 0 r_4.1.length)), (11, (.int .i64 r_4.2.1)), (13, (.own 2 0 q_83.length)), (14, (.int .i64 i_82))]) [.row 3 ([].map encGTold), .row 2 (r_4.1.map encGLock), .row 1 (q_83.map encI)] _ from ?_)
   rcases k with _ | k
   ·rw [spec_l12Steal_L1.eq_1] at hc1
    cases hc1
   ·rw [spec_l12Steal_L1.eq_2] at hc1; refine awp_seq <| awp_seq <| w_reg <| ?_
    obtain ⟨g99, hc1⟩ := og hc1
    obtain ⟨x_100, ex101, hc1⟩ := ob hc1
    refine s_mov (.int .i64 i_82) rfl <| s_mov (.own 1 0 r_4.1.length) rfl <| s_mov (.int .i64 r_4.2.1) rfl <| s_do (o_iaddrown rfl rfl g99.1 g99.2 rfl rfl) <| s_q (.ptr 1 (0 + r_4.2.1.toNat) 1) rfl trivial rfl <| s_do (o_loadrow (enc := encGLock) (v := (.lst 1 (x_100.Queue.map encI))) rfl rfl ex101 nle rfl) <| s_dof (o_len (enc := encI) rfl) fun hl102 => s_q (.bool (decide (i_82 < (x_100.Queue.length : Int)))) rfl rfl rfl <| w_done <| k_seq <| ?_
    rcases oi hc1 with ⟨c103, hc1⟩ | ⟨c103, hc1⟩
    ·refine w_condt rfl c103 <| w_skip <| k_seq <| awp_seq <| w_blk <| awp_seq <| w_reg <| ?_
     obtain ⟨g104, hc1⟩ := og hc1
     obtain ⟨x_105, ex106, hc1⟩ := ob hc1
     refine s_mov (.own 1 0 r_4.1.length) rfl <| s_mov (.int .i64 r_4.2.1) rfl <| s_do (o_iaddrown rfl rfl g104.1 g104.2 rfl rfl) <| s_q (.ptr 1 (0 + r_4.2.1.toNat) 1) rfl trivial rfl <| s_do (o_loadrow (enc := encGLock) (v := (.lst 1 (x_100.Queue.map encI))) rfl rfl ex101 nle rfl) <| s_mov (.int .i64 i_82) rfl <| s_do (o_iaddr (enc := encI) rfl rfl (idx0 ex106) (idx1 ex106)) <| s_q (.int .i64 x_105) rfl ⟨rfl, rfl⟩ rfl <| s_mov (.int .i64 session_2) rfl <| s_q (.bool (x_105 != session_2)) rfl rfl rfl <| w_done <| k_seq <| ?_
     rcases oi hc1 with ⟨c107, hc1⟩ | ⟨c107, hc1⟩
     ·refine w_condt rfl c107 <| w_reg <| ?_
      obtain ⟨g108, hc1⟩ := og hc1
      obtain ⟨x_109, ex110, hc1⟩ := ob hc1
      obtain ⟨g111, hc1⟩ := og hc1
      refine s_mov (.own 2 0 q_83.length) rfl <| s_mov (.own 1 0 r_4.1.length) rfl <| s_mov (.int .i64 r_4.2.1) rfl <| s_do (o_iaddrown rfl rfl g108.1 g108.2 rfl rfl) <| s_q (.ptr 1 (0 + r_4.2.1.toNat) 1) rfl trivial rfl <| s_do (o_loadrow (enc := encGLock) (v := (.lst 1 (x_100.Queue.map encI))) rfl rfl ex101 nle rfl) <| s_mov (.int .i64 i_82) rfl <| s_do (o_iaddr (enc := encI) rfl rfl (idx0 ex110) (idx1 ex110)) <| s_q (.int .i64 x_109) rfl ⟨rfl, rfl⟩ rfl <| ?_; refine s_do (o_bslice (j := 3) (as' := [(.int .i64 x_109)]) rfl (fun _ => by decide) ⟨rfl, trivial⟩ (.refl _) rfl rfl rfl) ?_
      refine s_do (o_appendd (j := 4) (L := ((q_83 ++ [x_109]).map encI)) (len := (q_83 ++ [x_109]).length) rfl false rfl rfl (fun _ => flo (enc := encI) (fun _ => rfl) [x_109] _) (fun _ _ h => (ownl (show AV.own _ _ _ = AV.lst _ _ from h)).elim) (by decide) (apoc (enc := encI) q_83 [x_109] _ (by rfl)) (by simp <;> omega) g111 rfl rfl) ?_
      refine s_mov (.own 4 0 ((q_83 ++ [x_109]).length)) rfl <| w_done <| k_blk <| k_seq <| w_reg <| s_mov (.int .i64 i_82) rfl <| s_q (.int .i64 (w64 (i_82 + 1))) rfl rfl rfl <| s_mov (.int .i64 (w64 (i_82 + 1))) rfl <| w_done <| ?_; exact k_loopn ⟨(k, w64 (i_82 + 1), q_83 ++ [x_109]), hc1⟩ (Nat.lt_succ_self _) ⟨[], [0, 1, 4], _, _, rfl, rfl, ⟨.refl _, ⟨.refl _, ⟨.refl _, ⟨.refl _, ⟨.refl _, ⟨.refl _, ⟨.refl _, trivial⟩⟩⟩⟩⟩⟩⟩, (.refl _)⟩
     ·refine w_condf rfl (bf c107) <| w_skip <| k_blk <| k_seq <| w_reg <| s_mov (.int .i64 i_82) rfl <| s_q (.int .i64 (w64 (i_82 + 1))) rfl rfl rfl <| s_mov (.int .i64 (w64 (i_82 + 1))) rfl <| w_done <| ?_; exact k_loopn ⟨(k, w64 (i_82 + 1), q_83), hc1⟩ (Nat.lt_succ_self _) ⟨[], [0, 1, 2], _, _, rfl, rfl, ⟨.refl _, ⟨.refl _, ⟨.refl _, ⟨.refl _, ⟨.refl _, ⟨.refl _, ⟨.refl _, trivial⟩⟩⟩⟩⟩⟩⟩, (.refl _)⟩
    ·refine w_condf rfl (bf c103) <| w_exit <| k_seqx <| k_loopx <| k_blkx <| ?_; obtain rfl := os hc1; exact ⟨[], [0, 1, 2], _, _, rfl, rfl, ⟨.refl _, ⟨.refl _, ⟨.refl _, ⟨.refl _, ⟨.refl _, ⟨.refl _, trivial⟩⟩⟩⟩⟩⟩, (.refl _)⟩
  ·refine awp_seq ?_
   obtain ⟨told_137, hb1, hf⟩ := ob hf
   refine awp_cut ([(9, (.own 0 0 told_137.length)), (10, (.own 1 0 r_4.1.length)), (11, (.int .i64 r_4.2.1)), (13, (.own 2 0 q_97.length))], [.row 3 (told_137.map encGTold), .row 2 (r_4.1.map encGLock), .row 1 (q_97.map encI)]) ?_ ?_
   ·refine awp_seq ?_
    obtain ⟨s77_147, hb2, hb1⟩ := ob hb1
    refine awp_cut ([(2, (.str name_3)), (9, (.own 0 0 0)), (10, (.own 1 0 r_4.1.length)), (11, (.int .i64 r_4.2.1)), (13, (.own 2 0 q_97.length)), (77, (.bool s77_147))], [.row 3 ([].map encGTold), .row 2 (r_4.1.map encGLock), .row 1 (q_97.map encI)]) ?_ ?_
    ·refine w_reg <| s_mov (.own 1 0 r_4.1.length) rfl <| s_mov (.int .i64 r_4.2.1) rfl <| ?_
     obtain ⟨g149, hb2⟩ := og hb2
     refine s_do (o_iaddrown rfl rfl g149.1 g149.2 rfl rfl) <| s_q (.ptr 1 (0 + r_4.2.1.toNat) 1) rfl trivial rfl <| ?_
     obtain ⟨x_150, ex151, hb2⟩ := ob hb2
     refine s_do (o_loadrow (enc := encGLock) (v := (.lst 1 (x_150.Queue.map encI))) rfl rfl ex151 nle rfl) <| s_dof (o_len (enc := encI) rfl) fun hl152 => s_q (.bool (decide ((x_150.Queue.length : Int) > 0))) rfl rfl rfl <| s_mov (.bool (decide ((x_150.Queue.length : Int) > 0))) rfl <| ?_
     rcases oi hb2 with ⟨c153, hb2⟩ | ⟨c153, hb2⟩
     ·refine s_lit (s := 67) (b := true) rfl c153 <| s_on rfl <| s_mov (.own 1 0 r_4.1.length) rfl <| s_on rfl <| s_mov (.int .i64 r_4.2.1) rfl <| s_on rfl <| ?_
      obtain ⟨g154, hb2⟩ := og hb2
      refine s_do (o_iaddrown rfl rfl g154.1 g154.2 rfl rfl) <| s_on rfl <| s_q (.ptr 1 (0 + r_4.2.1.toNat) 1) rfl trivial rfl <| s_on rfl <| s_do (o_loadrow (enc := encGLock) (v := (.lst 1 (x_150.Queue.map encI))) rfl rfl ex151 nle rfl) <| s_on rfl <| ?_
      obtain ⟨x_155, ex156, hb2⟩ := ob hb2
      refine s_do (o_iaddr (enc := encI) rfl rfl (idx0 ex156) (idx1 ex156)) <| s_on rfl <| s_q (.int .i64 x_155) rfl ⟨rfl, rfl⟩ rfl <| s_on rfl <| s_mov (.int .i64 session_2) rfl <| s_on rfl <| s_q (.bool (x_155 != session_2)) rfl rfl rfl <| s_q (.bool (x_155 != session_2)) rfl trivial rfl <| w_done <| ?_; obtain rfl := os hb2; exact ⟨[], [0, 1, 2], _, _, rfl, rfl, ⟨.refl _, ⟨.refl _, ⟨.refl _, ⟨.refl _, ⟨.refl _, ⟨.refl _, trivial⟩⟩⟩⟩⟩⟩, (.refl _)⟩
     ·refine s_lit (s := 67) (b := false) rfl (bf c153) <| s_off rfl rfl <| s_off rfl rfl <| s_off rfl rfl <| s_off rfl rfl <| s_off rfl rfl <| s_off rfl rfl <| s_off rfl rfl <| s_off rfl rfl <| s_off rfl rfl <| s_q (.bool false) rfl trivial rfl <| w_done <| ?_; obtain rfl := os hb2; exact ⟨[], [0, 1, 2], _, _, rfl, rfl, ⟨.refl _, ⟨.refl _, ⟨.refl _, ⟨.refl _, ⟨.refl _, ⟨.refl _, trivial⟩⟩⟩⟩⟩⟩, (.refl _)⟩
    ·rcases oi hb1 with ⟨c157, hb1⟩ | ⟨c157, hb1⟩
     ·refine w_condt rfl c157 <| w_reg <| s_mov (.own 0 0 0) rfl <| s_mov (.own 1 0 r_4.1.length) rfl <| s_mov (.int .i64 r_4.2.1) rfl <| ?_
      obtain ⟨g158, hb1⟩ := og hb1
      refine s_do (o_iaddrown rfl rfl g158.1 g158.2 rfl rfl) <| s_q (.ptr 1 (0 + r_4.2.1.toNat) 1) rfl trivial rfl <| ?_
      obtain ⟨x_159, ex160, hb1⟩ := ob hb1
      refine s_do (o_loadrow (enc := encGLock) (v := (.lst 1 (x_159.Queue.map encI))) rfl rfl ex160 nle rfl) ?_
      obtain ⟨x_161, ex162, hb1⟩ := ob hb1
      refine s_do (o_iaddr (enc := encI) rfl rfl (idx0 ex162) (idx1 ex162)) <| s_q (.int .i64 x_161) rfl ⟨rfl, rfl⟩ rfl <| s_mov (.str name_3) rfl <| s_q (.agg [(.int .i64 x_161), (.str [115, 116, 111, 108, 101, 110]), (.str name_3)]) rfl ⟨⟨rfl, nle, trivial⟩, ⟨⟨rfl, nle, trivial⟩, ⟨⟨rfl, nle, trivial⟩, trivial⟩⟩⟩ rfl <| ?_; refine s_do (o_bslice (j := 3) (as' := [(encGTold (⟨x_161, [115, 116, 111, 108, 101, 110], name_3⟩ : GTold))]) rfl (fun _ => by decide) ⟨rfl, trivial⟩ (.refl _) rfl rfl rfl) ?_
      obtain ⟨g163, hb1⟩ := og hb1
      refine s_do (o_appendd (j := 4) (L := (([] ++ [(⟨x_161, [115, 116, 111, 108, 101, 110], name_3⟩ : GTold)]).map encGTold)) (len := ([] ++ [(⟨x_161, [115, 116, 111, 108, 101, 110], name_3⟩ : GTold)]).length) rfl false rfl rfl (fun _ => flo (enc := encGTold) (fun _ => rfl) [(⟨x_161, [115, 116, 111, 108, 101, 110], name_3⟩ : GTold)] _) (fun _ _ h => (ownl (show AV.own _ _ _ = AV.lst _ _ from h)).elim) (by decide) ((by simp [← List.map_take])) (by simp <;> omega) g163 rfl rfl) ?_
      refine s_mov (.own 4 0 (([] ++ [(⟨x_161, [115, 116, 111, 108, 101, 110], name_3⟩ : GTold)]).length)) rfl <| w_done <| ?_; obtain rfl := os hb1; exact ⟨[], [4, 1, 2], _, _, rfl, rfl, ⟨.refl _, ⟨.refl _, ⟨.refl _, ⟨.refl _, trivial⟩⟩⟩⟩, (.refl _)⟩
     ·refine w_condf rfl (bf c157) <| w_skip <| ?_; obtain rfl := os hb1; exact ⟨[], [0, 1, 2], _, _, rfl, rfl, ⟨.refl _, ⟨.refl _, ⟨.refl _, ⟨.refl _, trivial⟩⟩⟩⟩, (.refl _)⟩
   ·refine awp_seq <| w_reg <| ?_
    obtain ⟨g164, hf⟩ := og hf
    obtain ⟨x_165, ex166, hf⟩ := ob hf
    refine s_mov (.own 1 0 r_4.1.length) rfl <| s_mov (.int .i64 r_4.2.1) rfl <| s_mov (.own 2 0 q_97.length) rfl <| s_do (o_iaddrown rfl rfl g164.1 g164.2 rfl rfl) <| s_q (.ptr 1 (0 + r_4.2.1.toNat) 1) rfl trivial rfl <| ?_
    refine s_do0 (o_storerow (v' := (.lst 1 (q_97.map encI))) (e' := (⟨x_165.Name, q_97⟩ : GLock)) rfl rfl ex166 rfl rfl (by first | (simp only [tk, tko, List.take_length]; done) | rfl | simp) (by decide) (fun _ => by decide) ⟨rfl, nle⟩ (.refl _) rfl) ?_
    refine w_done <| k_seq <| awp_seq <| w_reg <| s_mov (.own 1 0 r_4.1.length) rfl <| s_mov (.own 0 0 told_137.length) rfl <| s_mov (.own 1 0 r_4.1.length) rfl <| s_mov (.own 0 0 told_137.length) rfl <| s_mov (.int .i64 0) rfl <| w_done <| k_seq <| w_ret <| ?_; obtain rfl := os hf
    exact r_fresh ⟨trivial, ⟨trivial, ⟨trivial, trivial⟩⟩⟩ rfl (by decide) (.tup (.cons (.of_eq (congrArg (AV.lst _) (tkl (enc := encGLock) (a := r_4.1.set (0 + r_4.2.1.toNat) (⟨x_165.Name, q_97⟩ : GLock)) (by first | (simp; done) | (simp <;> omega))))) (.cons (.of_eq (congrArg (AV.lst _) (tk (enc := encGTold) told_137))) (.cons (.refl _) .nil))))

/- spec.l12Take -/
def c116 : ACode :=
 (.seq (.reg (tm 6 (.c .nil) (tm 7 (.c (.bool false)) (tm 8 (.c (.int .i64 0)) .done))))
 (.seq (.reg (tm 13 (.t 0) (tm 14 (.t 2) (tq 15 (.call 200 [(.t 13), (.t 14)]) (tm 12 (.t 15) (tq 16 (.extract 0 (.t 12)) (tq 17 (.extract 1 (.t 12)) (tq 18 (.extract 2 (.t 12)) (tm 9 (.t 16) (tm 10 (.t 17) (tm 11 (.t 18) .done)))))))))))
 (.seq (.seq (.reg (tm 19 (.t 11) (tq 20 (.not (.t 19)) .done)))
 (.cond (.t 20) (.seq (.reg (tm 21 (.t 9) (tm 6 (.t 21) (tm 7 (.c (.bool false)) (tm 8 (.c (.int .i64 7)) .done)))))
 .ret)
 .skip))
 (.seq (.seq (.rev (.reg (tm 22 (.t 9) (tm 23 (.t 10) (tq 24 (.iaddr 2 (.t 22) (.t 23)) (tq 25 (.faddr 1 (.t 24)) (tq 26 (.load 1 false (.t 25)) (tm 27 (.t 1) (tq 28 (.call 195 [(.t 26), (.t 27)]) .done)))))))))
 (.cond (.t 28) (.seq (.reg (tm 29 (.t 9) (tm 6 (.t 29) (tm 7 (.c (.bool false)) (tm 8 (.c (.int .i64 8)) .done)))))
 (.rev .ret))
 .skip))
 (.seq (.reg (tm 30 (.t 9) (tm 31 (.t 10) (tm 32 (.t 9) (tm 33 (.t 10) (tq 34 (.iaddr 2 (.t 32) (.t 33)) (tq 35 (.faddr 1 (.t 34)) (tq 36 (.load 1 false (.t 35)) (tm 37 (.t 1) (tq 38 (.bslice 1 [(.t 37)]) (tq 39 (.append 1 8 (.t 36) (.t 38)) (tq 40 (.iaddr 2 (.t 30) (.t 31)) (tq 41 (.faddr 1 (.t 40)) (.q ⟨none, none, .store 1 (.t 41) (.t 39)⟩
 .done))))))))))))))
 (.seq (.reg (tm 42 (.t 9) (tm 43 (.t 9) (tm 44 (.t 10) (tq 45 (.iaddr 2 (.t 43) (.t 44)) (tq 46 (.faddr 1 (.t 45)) (tq 47 (.load 1 false (.t 46)) (tq 48 (.len (.t 47)) (tq 49 (.bin .eql (.t 48) (.c (.int .i64 1))) (tm 6 (.t 42) (tm 7 (.t 49) (tm 8 (.c (.int .i64 0)) .done))))))))))))
 (.rev .ret)))))))
theorem fc116 : fcomp Try.prog Try.f116 = some (c116.erase, [.mov (.t 6), .mov (.t 7), .mov (.t 8)], 50) := by kernel_rfl
def spec_l12Take (list_1 : (List GLock)) (session_2 : Int) (name_3 : Str) : Option ((List GLock) × Bool × Int) :=
    (spec_l12Room list_1 name_3).bind fun r_4 =>
    if (!r_4.2.2) then
    some (r_4.1, false, 7)
    else
    ((r_4.1[(0 + r_4.2.1.toNat)]?)).bind fun x_8 =>
    if (0 : Int) ≤ r_4.2.1 ∧ r_4.2.1 < (r_4.1.length : Int) then
    (spec_l12In_h0 x_8.Queue session_2).bind fun r_11 =>
    if r_11 then
    some (r_4.1, false, 8)
    else
    if (0 : Int) ≤ r_4.2.1 ∧ r_4.2.1 < (r_4.1.length : Int) then
    if (x_8.Queue ++ [session_2]).length ≤ 2 ^ 30 then
    if (0 : Int) ≤ r_4.2.1 ∧ r_4.2.1 < (r_4.1.length : Int) then
    if (0 : Int) ≤ r_4.2.1 ∧ r_4.2.1 < (r_4.1.length : Int) then
    some (r_4.1.set (0 + r_4.2.1.toNat) (⟨x_8.Name, x_8.Queue ++ [session_2]⟩ : GLock), (((x_8.Queue ++ [session_2]).length : Int) == 1), 0)
    else none
    else none
    else none
    else none
    else none
theorem w_spec_l12Take (list_1 : (List GLock)) (session_2 : Int) (name_3 : Str) (r : ((List GLock) × Bool × Int)) (hf : spec_l12Take list_1 session_2 name_3 = some r) : CallOK Try.prog 116 .fresh [(.lst 2 (list_1.map encGLock)), (.int .i64 session_2), (.str name_3)] (.tup [(.lst 2 (r.1.map encGLock)), (.bool r.2.1), (.int .i64 r.2.2)]) := by
 refine CallOK.of_awp' (md := ⟨true, true⟩) (fun _ => rfl) (fun _ => rfl) (fun h => by cases h) mixed Try.func116 fc116 nle ?_; rw [argT_eq]; unfold spec_l12Take at hf; unfold c116; refine (show awp Try.prog ⟨true, true⟩ 0 _ (ofL [(0, (.lst 2 (list_1.map encGLock))), (1, (.int .i64 session_2)), (2, (.str name_3))]) [] _ from ?_); refine awp_seq <| w_reg <| s_mov .nil rfl <| s_mov (.bool false) rfl <| s_mov (.int .i64 0) rfl <| w_done <| k_seq <| awp_seq <| w_reg <| ?_
 obtain ⟨r_4, er5, hf⟩ := ob hf
 refine s_mov (.lst 2 (list_1.map encGLock)) rfl <| s_mov (.str name_3) rfl <| s_do (o_callf (v := (.tup [(.own 0 0 r_4.1.length), (.int .i64 r_4.2.1), (.bool r_4.2.2)])) (h' := [.row 2 (r_4.1.map encGLock)]) (w_spec_l12Room _ _ _ er5) rfl (.refl _) (by simp only [openV, openVs, List.length_map, List.nil_append, List.append_nil, List.cons_append]; rfl)) <| s_mov (.tup [(.own 0 0 r_4.1.length), (.int .i64 r_4.2.1), (.bool r_4.2.2)]) rfl <| s_q (.own 0 0 r_4.1.length) rfl (.of nle trivial) rfl <| s_q (.int .i64 r_4.2.1) rfl (.of nle trivial) rfl <| s_q (.bool r_4.2.2) rfl (.of nle trivial) rfl <| s_mov (.own 0 0 r_4.1.length) rfl <| s_mov (.int .i64 r_4.2.1) rfl <| s_mov (.bool r_4.2.2) rfl <| w_done <| k_seq <| ?_
 refine awp_seq <| awp_seq <| w_reg <| s_mov (.bool r_4.2.2) rfl <| s_q (.bool (!r_4.2.2)) rfl (.of trivial trivial) rfl <| w_done <| k_seq <| ?_
 rcases oi hf with ⟨c6, hf⟩ | ⟨c6, hf⟩
 ·refine w_condt rfl c6 <| awp_seq <| w_reg <| s_mov (.own 0 0 r_4.1.length) rfl <| s_mov (.own 0 0 r_4.1.length) rfl <| s_mov (.bool false) rfl <| s_mov (.int .i64 7) rfl <| w_done <| k_seq <| w_ret <| ?_; obtain rfl := os hf; exact r_fresh ⟨.of trivial trivial, ⟨.of trivial trivial, ⟨.of trivial trivial, trivial⟩⟩⟩ rfl (by decide) (.tup (.cons (.of_eq (congrArg (AV.lst _) (tk (enc := encGLock) r_4.1))) (.cons (.refl _) (.cons (.refl _) .nil))))
 ·refine w_condf rfl (bf c6) <| w_skip <| k_seq <| awp_seq <| awp_seq <| ?_
  obtain ⟨x_8, ex9, hf⟩ := ob hf
  refine w_opn (o := 0) (i := (0 + r_4.2.1.toNat)) (el := (.agg [(.str x_8.Name), (.lst 1 (x_8.Queue.map encI))])) (el2 := (.agg [(.str x_8.Name), (.own 1 0 x_8.Queue.length)])) (xs := [.row 1 (x_8.Queue.map encI)]) rfl rfl rfl ex9 rfl (by simp only [AV.cells, openVs, openV, List.length_map, List.nil_append, List.append_nil, List.cons_append]; rfl) <| w_reg <| ?_
  obtain ⟨g10, hf⟩ := og hf
  obtain ⟨r_11, er12, hf⟩ := ob hf
  refine s_mov (.own 0 0 r_4.1.length) rfl <| s_mov (.int .i64 r_4.2.1) rfl <| s_do (o_iaddrx rfl rfl g10.1 g10.2 rfl rfl) <| s_do (o_faddrx rfl rfl) <| s_do (o_loadx rfl rfl nle rfl) <| s_mov (.int .i64 session_2) rfl <| ?_; refine s_do (o_callh (v := (.bool r_11)) (h2 := [.rowx 2 (r_4.1.map encGLock) (0 + r_4.2.1.toNat) (.agg [(.str x_8.Name), (.own 1 0 x_8.Queue.length)]), .row 1 (x_8.Queue.map encI)]) [] [1] (fun _ => rfl) (w_spec_l12In_h0 _ _ _ er12) rfl (.refl _) (.refl _) rfl rfl) ?_; refine w_done <| k_seq <| ?_
  rcases oi hf with ⟨c13, hf⟩ | ⟨c13, hf⟩
  ·refine w_condt rfl c13 <| awp_seq <| w_reg <| s_mov (.own 0 0 r_4.1.length) rfl <| s_mov (.own 0 0 r_4.1.length) rfl <| s_mov (.bool false) rfl <| s_mov (.int .i64 8) rfl <| w_done <| k_seq <| w_cls0 (o := 0) (h2 := [.rowx 2 (r_4.1.map encGLock) (0 + r_4.2.1.toNat) (.agg [(.str x_8.Name), (.own 1 0 x_8.Queue.length)]), .dead]) ex9 rfl rfl rfl (.agg (.cons (.refl _) (.cons (.of_eq (congrArg (AV.lst _) (tk (enc := encI) x_8.Queue))) .nil))) rfl <| w_ret <| ?_; obtain rfl := os hf; exact r_fresh ⟨.of trivial trivial, ⟨.of trivial trivial, ⟨.of trivial trivial, trivial⟩⟩⟩ rfl (by decide) (.tup (.cons (.of_eq (congrArg (AV.lst _) (tk (enc := encGLock) r_4.1))) (.cons (.refl _) (.cons (.refl _) .nil))))
  ·refine w_condf rfl (bf c13) <| w_skip <| k_seq <| awp_seq <| w_reg <| s_mov (.own 0 0 r_4.1.length) rfl <| s_mov (.int .i64 r_4.2.1) rfl <| s_mov (.own 0 0 r_4.1.length) rfl <| s_mov (.int .i64 r_4.2.1) rfl <| ?_
   obtain ⟨g14, hf⟩ := og hf
   refine s_do (o_iaddrx rfl rfl g14.1 g14.2 rfl rfl) <| s_do (o_faddrx rfl rfl) <| s_do (o_loadx rfl rfl nle rfl) <| s_mov (.int .i64 session_2) rfl <| ?_; refine s_do (o_bslice (j := 2) (as' := [(.int .i64 session_2)]) rfl (fun _ => by decide) ⟨rfl, trivial⟩ (.refl _) rfl rfl rfl) ?_
   obtain ⟨g15, hf⟩ := og hf
   refine s_do (o_appendd (j := 3) (L := ((x_8.Queue ++ [session_2]).map encI)) (len := (x_8.Queue ++ [session_2]).length) rfl false rfl rfl (fun _ => flo (enc := encI) (fun _ => rfl) [session_2] _) (fun _ _ h => (ownl (show AV.own _ _ _ = AV.lst _ _ from h)).elim) (by decide) (apoc (enc := encI) x_8.Queue [session_2] _ (by rfl)) (by simp <;> omega) g15 rfl rfl) ?_
   obtain ⟨g16, hf⟩ := og hf
   refine s_do (o_iaddrx rfl rfl g16.1 g16.2 rfl rfl) <| s_do (o_faddrx rfl rfl) <| s_do0 (o_storex (v := (.own 3 0 ((x_8.Queue ++ [session_2]).length))) (y' := (.agg [(.str x_8.Name), (.own 3 0 ((x_8.Queue ++ [session_2]).length))])) rfl rfl rfl trivial ⟨rfl, nle⟩ ⟨⟨rfl, trivial⟩, trivial⟩ rfl) <| w_done <| k_seq <| awp_seq <| w_reg <| ?_
   obtain ⟨g17, hf⟩ := og hf
   refine s_mov (.own 0 0 r_4.1.length) rfl <| s_mov (.own 0 0 r_4.1.length) rfl <| s_mov (.int .i64 r_4.2.1) rfl <| s_do (o_iaddrx rfl rfl g17.1 g17.2 rfl rfl) <| s_do (o_faddrx rfl rfl) <| s_do (o_loadx rfl rfl nle rfl) <| s_dof (o_lenown rfl rfl) fun hl18 => s_q (.bool (((x_8.Queue ++ [session_2]).length : Int) == 1)) rfl (.of rfl trivial) rfl <| s_mov (.own 0 0 r_4.1.length) rfl <| s_mov (.bool (((x_8.Queue ++ [session_2]).length : Int) == 1)) rfl <| s_mov (.int .i64 0) rfl <| w_done <| k_seq <| w_cls (o := 0) (y := (⟨x_8.Name, x_8.Queue ++ [session_2]⟩ : GLock)) (h2 := [.rowx 2 (r_4.1.map encGLock) (0 + r_4.2.1.toNat) (.agg [(.str x_8.Name), (.own 3 0 ((x_8.Queue ++ [session_2]).length))]), .dead, .row 1 ([session_2].map encI), .dead]) rfl rfl rfl (.agg (.cons (.refl _) (.cons (.of_eq (congrArg (AV.lst _) (tk (enc := encI) (x_8.Queue ++ [session_2])))) .nil))) rfl <| ?_
   refine w_ret ?_; obtain rfl := os hf
   exact r_fresh ⟨.of trivial trivial, ⟨.of trivial trivial, ⟨.of trivial trivial, trivial⟩⟩⟩ rfl (by decide) (.tup (.cons (.of_eq (congrArg (AV.lst _) (tkl (enc := encGLock) (a := r_4.1.set (0 + r_4.2.1.toNat) (⟨x_8.Name, x_8.Queue ++ [session_2]⟩ : GLock)) (by first | (simp; done) | (simp <;> omega))))) (.cons (.refl _) (.cons (.refl _) .nil))))

/- (*spec.l00Src).locks -/
def c96_h0 : ACode :=
 (.seq (.reg (tm 2 (.c .nil) .done))
 (.seq (.reg (tq 8 (.bslice 2 []) (tm 3 (.t 8) .done)))
 (.seq (.seq (.reg (tm 9 (.t 0) (tq 10 (.call 181 [(.t 9), (.c (.int .i64 10))]) (tm 4 (.t 10) .done))))
 (.block 0 (.loop (.seq (.seq (.reg (tm 11 (.t 4) (tq 12 (.bin .gtr (.t 11) (.c (.int .i64 0))) .done)))
 (.cond (.t 12) .skip
 (.exit 0)))
 (.seq (.block 1 (.seq (.reg (tm 15 (.t 0) (tq 16 (.call 181 [(.t 15), (.c (.int .i64 4))]) .done)))
 (.block 2 (.seq (.reg (tq 31 (.bin .eql (.t 16) (.c (.int .i64 0))) (tm 30 (.t 31) .done)))
 (.cond (.t 30) (.reg (tm 33 (.t 3) (tm 34 (.t 0) (tq 35 (.call 181 [(.t 34), (.c (.int .i64 3))]) (tm 36 (.t 0) (tq 37 (.call 122 [(.t 36)]) (tq 38 (.call 109 [(.t 33), (.t 35), (.t 37)]) (tm 32 (.t 38) (tq 39 (.extract 0 (.t 32)) (tq 40 (.extract 1 (.t 32)) (tq 41 (.extract 2 (.t 32)) (tm 3 (.t 39) .done))))))))))))
 (.seq (.reg (tq 43 (.bin .eql (.t 16) (.c (.int .i64 1))) (tm 42 (.t 43) .done)))
 (.cond (.t 42) (.reg (tm 45 (.t 3) (tm 46 (.t 0) (tq 47 (.call 181 [(.t 46), (.c (.int .i64 3))]) (tm 48 (.t 0) (tq 49 (.call 122 [(.t 48)]) (tq 50 (.call 118 [(.t 45), (.t 47), (.t 49)]) (tm 44 (.t 50) (tq 51 (.extract 0 (.t 44)) (tq 52 (.extract 1 (.t 44)) (tq 53 (.extract 2 (.t 44)) (tm 3 (.t 51) .done))))))))))))
 (.seq (.reg (tm 18 (.t 3) (tm 19 (.t 0) (tq 20 (.call 181 [(.t 19), (.c (.int .i64 3))]) (tm 21 (.t 0) (tq 22 (.call 122 [(.t 21)]) (tq 23 (.call 116 [(.t 18), (.t 20), (.t 22)]) (tm 17 (.t 23) (tq 24 (.extract 0 (.t 17)) (tq 25 (.extract 1 (.t 17)) (tq 26 (.extract 2 (.t 17)) (tm 5 (.t 24) (tm 6 (.t 25) (tm 7 (.t 26) .done))))))))))))))
 (.seq (.reg (tm 27 (.t 7) (tq 28 (.bin .eql (.t 27) (.c (.int .i64 0))) .done)))
 (.cond (.t 28) (.reg (tm 29 (.t 5) (tm 3 (.t 29) .done)))
 .skip))))))))))
 (.reg (tm 13 (.t 4) (tq 14 (.bin .sub (.t 13) (.c (.int .i64 1))) (tm 4 (.t 14) .done)))))))))
 (.cut (.seq (.reg (tm 54 (.t 3) (tm 2 (.t 54) .done)))
 .ret)))))
theorem fc96_h0 : fcomp Try.prog Try.f96 = some (c96_h0.erase, [.mov (.t 2)], 55) := by kernel_rfl
def spec_l00Src_locks_L1  : Nat → Int → (List Int) → Int → Int → (List GLock) → Option ((List Int) × Int × Int × (List GLock))
  | 0, _, _, _, _, _ => none
  | k + 1, i_57, x_58, x_59, x_60, out_61 =>
    if (decide (i_57 > 0)) then
    (spec_l00Src_next 4 (⟨x_58, x_59, x_60⟩ : GL00Src)).bind fun r_92 =>
    if (r_92.1 == 0) then
    (spec_l00Src_next 3 r_92.2).bind fun r_95 =>
    (spec_l00Src_lockName r_95.2).bind fun r_97 =>
    (spec_l12Leave out_61 r_95.1 r_97.1).bind fun r_99 =>
    spec_l00Src_locks_L1 k (w64 (i_57 - 1)) r_97.2.Code r_97.2.At r_97.2.Seed r_99.1
    else
    if (r_92.1 == 1) then
    (spec_l00Src_next 3 r_92.2).bind fun r_102 =>
    (spec_l00Src_lockName r_102.2).bind fun r_104 =>
    (spec_l12Steal out_61 r_102.1 r_104.1).bind fun r_106 =>
    spec_l00Src_locks_L1 k (w64 (i_57 - 1)) r_104.2.Code r_104.2.At r_104.2.Seed r_106.1
    else
    (spec_l00Src_next 3 r_92.2).bind fun r_108 =>
    (spec_l00Src_lockName r_108.2).bind fun r_110 =>
    (spec_l12Take out_61 r_108.1 r_110.1).bind fun r_112 =>
    if (r_112.2.2 == 0) then
    spec_l00Src_locks_L1 k (w64 (i_57 - 1)) r_110.2.Code r_110.2.At r_110.2.Seed r_112.1
    else
    spec_l00Src_locks_L1 k (w64 (i_57 - 1)) r_110.2.Code r_110.2.At r_110.2.Seed out_61
    else
    some (x_58, x_59, x_60, out_61)

def spec_l00Src_locks (s_1 : GL00Src) : Option ((List GLock) × GL00Src) :=
    (spec_l00Src_next 10 s_1).bind fun r_2 =>
    (spec_l00Src_locks_L1 FUEL r_2.1 r_2.2.Code r_2.2.At r_2.2.Seed []).bind fun p90 =>
    (match p90 with
    | (x_86, x_87, x_88, out_89) =>
    some (out_89, (⟨x_86, x_87, x_88⟩ : GL00Src)))
theorem w_spec_l00Src_locks (s_1 : GL00Src) (r : ((List GLock) × GL00Src)) (hf : spec_l00Src_locks s_1 = some r) : CallHeap Try.prog true 96 [(.ptr 0 0 0)] [.box 3 (.agg [(.lst 1 (s_1.Code.map enc_u8)), (.int .i64 s_1.At), (.int .i64 s_1.Seed)])] (.own 1 0 r.1.length) [.box 3 (.agg [(.lst 1 (r.2.Code.map enc_u8)), (.int .i64 r.2.At), (.int .i64 r.2.Seed)]), .row 2 (r.1.map encGLock)] := by
 refine CallHeap.of_awp mixed Try.func96 fc96_h0 nle ?_; rw [argT_eq]; unfold spec_l00Src_locks at hf; unfold c96_h0; refine (show awp Try.prog true 1 _ (ofL [(0, (.ptr 0 0 0))]) [.box 3 (.agg [(.lst 1 (s_1.Code.map enc_u8)), (.int .i64 s_1.At), (.int .i64 s_1.Seed)])] _ from ?_); refine awp_seq <| w_reg <| s_mov .nil rfl <| w_done <| k_seq <| awp_seq <| w_reg <| ?_; refine s_do (o_bslice (j := 1) (as' := []) rfl (fun _ => by decide) trivial (.refl _) rfl rfl rfl) ?_; refine s_mov (.own 1 0 0) rfl <| w_done <| k_seq <| awp_seq <| awp_seq <| w_reg <| ?_
 obtain ⟨r_2, er3, hf⟩ := ob hf
 refine s_mov (.ptr 0 0 0) rfl ?_; refine s_do (o_callh (v := (.int .i64 r_2.1)) (h2 := [.box 3 (.agg [(.lst 1 (r_2.2.Code.map enc_u8)), (.int .i64 r_2.2.At), (.int .i64 r_2.2.Seed)]), .row 2 ([].map encGLock)]) [] [0] (fun _ => rfl) (w_spec_l00Src_next _ _ _ er3) rfl (.refl _) (.refl _) rfl rfl) ?_; refine s_mov (.int .i64 r_2.1) rfl <| w_done <| k_seq <| ?_
 obtain ⟨p90, hb1, hf⟩ := ob hf
 refine awp_cut ([(3, (.own 1 0 p90.2.2.2.length))], [.box 3 (.agg [(.lst 1 (p90.1.map enc_u8)), (.int .i64 p90.2.1), (.int .i64 p90.2.2.1)]), .row 2 (p90.2.2.2.map encGLock)]) ?_ ?_
 ·refine awp_loop (X := {q : (Nat × Int × (List Int) × Int × Int × (List GLock)) // spec_l00Src_locks_L1 q.1 q.2.1 q.2.2.1 q.2.2.2.1 q.2.2.2.2.1 q.2.2.2.2.2 = some p90}) (fun q => ([(0, (.ptr 0 0 0)), (3, (.own 1 0 q.1.2.2.2.2.2.length)), (4, (.int .i64 q.1.2.1))], [.box 3 (.agg [(.lst 1 (q.1.2.2.1.map enc_u8)), (.int .i64 q.1.2.2.2.1), (.int .i64 q.1.2.2.2.2.1)]), .row 2 (q.1.2.2.2.2.2.map encGLock)])) (fun q => q.1.1) ⟨(FUEL, r_2.1, r_2.2.Code, r_2.2.At, r_2.2.Seed, []), hb1⟩ ⟨[], [0, 1], _, _, rfl, rfl, ⟨.refl _, ⟨.of_eq (congrArg (AV.own _ 0) (by simp)), ⟨.refl _, trivial⟩⟩⟩, (.refl _)⟩ ?_
  rintro ⟨⟨k, i_57, x_58, x_59, x_60, out_61⟩, hc1⟩
  have hc1 : spec_l00Src_locks_L1 k i_57 x_58 x_59 x_60 out_61 = some p90 := hc1
  refine (show awp Try.prog true 1 _ (ofL [(0, (.ptr 0 0 0)), (3, (.own 1 0 out_61.length)), (4, (.int .i64 i_57))]) [.box 3 (.agg [(.lst 1 (x_58.map enc_u8)), (.int .i64 x_59), (.int .i64 x_60)]), .row 2 (out_61.map encGLock)] _ from ?_)
  rcases k with _ | k
  ·rw [spec_l00Src_locks_L1.eq_1] at hc1
   cases hc1
  ·rw [spec_l00Src_locks_L1.eq_2] at hc1; refine awp_seq <| awp_seq <| w_reg <| s_mov (.int .i64 i_57) rfl <| s_q (.bool (decide (i_57 > 0))) rfl rfl rfl <| w_done <| k_seq <| ?_
   rcases oi hc1 with ⟨c91, hc1⟩ | ⟨c91, hc1⟩
   ·refine w_condt rfl c91 <| w_skip <| k_seq <| awp_seq <| w_blk <| awp_seq <| w_reg <| ?_
    obtain ⟨r_92, er93, hc1⟩ := ob hc1
    refine s_mov (.ptr 0 0 0) rfl ?_; refine s_do (o_callh (v := (.int .i64 r_92.1)) (h2 := [.box 3 (.agg [(.lst 1 (r_92.2.Code.map enc_u8)), (.int .i64 r_92.2.At), (.int .i64 r_92.2.Seed)]), .row 2 (out_61.map encGLock)]) [] [0] (fun _ => rfl) (w_spec_l00Src_next _ _ _ er93) rfl (.refl _) (.refl _) rfl rfl) ?_; refine w_done <| k_seq <| w_blk <| awp_seq <| w_reg <| s_q (.bool (r_92.1 == 0)) rfl rfl rfl <| s_mov (.bool (r_92.1 == 0)) rfl <| w_done <| k_seq <| ?_
    rcases oi hc1 with ⟨c94, hc1⟩ | ⟨c94, hc1⟩
    ·refine w_condt rfl c94 <| w_reg <| ?_
     obtain ⟨r_95, er96, hc1⟩ := ob hc1
     obtain ⟨r_97, er98, hc1⟩ := ob hc1
     obtain ⟨r_99, er100, hc1⟩ := ob hc1
     refine s_mov (.own 1 0 out_61.length) rfl <| s_mov (.ptr 0 0 0) rfl <| ?_; refine s_do (o_callh (v := (.int .i64 r_95.1)) (h2 := [.box 3 (.agg [(.lst 1 (r_95.2.Code.map enc_u8)), (.int .i64 r_95.2.At), (.int .i64 r_95.2.Seed)]), .row 2 (out_61.map encGLock)]) [] [0] (fun _ => rfl) (w_spec_l00Src_next _ _ _ er96) rfl (.refl _) (.refl _) rfl rfl) ?_; refine s_mov (.ptr 0 0 0) rfl ?_; refine s_do (o_callh (v := (.str r_97.1)) (h2 := [.box 3 (.agg [(.lst 1 (r_97.2.Code.map enc_u8)), (.int .i64 r_97.2.At), (.int .i64 r_97.2.Seed)]), .row 2 (out_61.map encGLock)]) [] [0] (fun _ => rfl) (w_spec_l00Src_lockName _ _ er98) rfl (.refl _) (.refl _) rfl rfl) ?_; refine s_do (o_callf (v := (.tup [(.own 2 0 r_99.1.length), (.own 3 0 r_99.2.1.length), (.int .i64 r_99.2.2)])) (h' := [.row 2 (r_99.1.map encGLock), .row 3 (r_99.2.1.map encGTold)]) (w_spec_l12Leave _ _ _ _ er100) rfl (.cons (.of_eq (congrArg (AV.lst _) (tko out_61))) (.cons (.refl _) (.cons (.refl _) .nil))) (by simp only [openV, openVs, List.length_map, List.nil_append, List.append_nil, List.cons_append]; rfl)) ?_
     refine s_mov (.tup [(.own 2 0 r_99.1.length), (.own 3 0 r_99.2.1.length), (.int .i64 r_99.2.2)]) rfl <| s_q (.own 2 0 r_99.1.length) rfl nle rfl <| s_q (.own 3 0 r_99.2.1.length) rfl nle rfl <| s_q (.int .i64 r_99.2.2) rfl nle rfl <| s_mov (.own 2 0 r_99.1.length) rfl <| w_done <| k_blk <| k_blk <| k_seq <| w_reg <| s_mov (.int .i64 i_57) rfl <| s_q (.int .i64 (w64 (i_57 - 1))) rfl rfl rfl <| s_mov (.int .i64 (w64 (i_57 - 1))) rfl <| w_done <| ?_; exact k_loopn ⟨(k, w64 (i_57 - 1), r_97.2.Code, r_97.2.At, r_97.2.Seed, r_99.1), hc1⟩ (Nat.lt_succ_self _) ⟨[], [0, 2], _, _, rfl, rfl, ⟨.refl _, ⟨.refl _, ⟨.refl _, trivial⟩⟩⟩, (.refl _)⟩
    ·refine w_condf rfl (bf c94) <| awp_seq <| w_reg <| s_q (.bool (r_92.1 == 1)) rfl rfl rfl <| s_mov (.bool (r_92.1 == 1)) rfl <| w_done <| k_seq <| ?_
     rcases oi hc1 with ⟨c101, hc1⟩ | ⟨c101, hc1⟩
     ·refine w_condt rfl c101 <| w_reg <| ?_
      obtain ⟨r_102, er103, hc1⟩ := ob hc1
      obtain ⟨r_104, er105, hc1⟩ := ob hc1
      obtain ⟨r_106, er107, hc1⟩ := ob hc1
      refine s_mov (.own 1 0 out_61.length) rfl <| s_mov (.ptr 0 0 0) rfl <| ?_; refine s_do (o_callh (v := (.int .i64 r_102.1)) (h2 := [.box 3 (.agg [(.lst 1 (r_102.2.Code.map enc_u8)), (.int .i64 r_102.2.At), (.int .i64 r_102.2.Seed)]), .row 2 (out_61.map encGLock)]) [] [0] (fun _ => rfl) (w_spec_l00Src_next _ _ _ er103) rfl (.refl _) (.refl _) rfl rfl) ?_; refine s_mov (.ptr 0 0 0) rfl ?_; refine s_do (o_callh (v := (.str r_104.1)) (h2 := [.box 3 (.agg [(.lst 1 (r_104.2.Code.map enc_u8)), (.int .i64 r_104.2.At), (.int .i64 r_104.2.Seed)]), .row 2 (out_61.map encGLock)]) [] [0] (fun _ => rfl) (w_spec_l00Src_lockName _ _ er105) rfl (.refl _) (.refl _) rfl rfl) ?_; refine s_do (o_callf (v := (.tup [(.own 2 0 r_106.1.length), (.own 3 0 r_106.2.1.length), (.int .i64 r_106.2.2)])) (h' := [.row 2 (r_106.1.map encGLock), .row 3 (r_106.2.1.map encGTold)]) (w_spec_l12Steal _ _ _ _ er107) rfl (.cons (.of_eq (congrArg (AV.lst _) (tko out_61))) (.cons (.refl _) (.cons (.refl _) .nil))) (by simp only [openV, openVs, List.length_map, List.nil_append, List.append_nil, List.cons_append]; rfl)) ?_
      refine s_mov (.tup [(.own 2 0 r_106.1.length), (.own 3 0 r_106.2.1.length), (.int .i64 r_106.2.2)]) rfl <| s_q (.own 2 0 r_106.1.length) rfl nle rfl <| s_q (.own 3 0 r_106.2.1.length) rfl nle rfl <| s_q (.int .i64 r_106.2.2) rfl nle rfl <| s_mov (.own 2 0 r_106.1.length) rfl <| w_done <| k_blk <| k_blk <| k_seq <| w_reg <| s_mov (.int .i64 i_57) rfl <| s_q (.int .i64 (w64 (i_57 - 1))) rfl rfl rfl <| s_mov (.int .i64 (w64 (i_57 - 1))) rfl <| w_done <| ?_; exact k_loopn ⟨(k, w64 (i_57 - 1), r_104.2.Code, r_104.2.At, r_104.2.Seed, r_106.1), hc1⟩ (Nat.lt_succ_self _) ⟨[], [0, 2], _, _, rfl, rfl, ⟨.refl _, ⟨.refl _, ⟨.refl _, trivial⟩⟩⟩, (.refl _)⟩
     ·refine w_condf rfl (bf c101) <| awp_seq <| w_reg <| s_mov (.own 1 0 out_61.length) rfl <| s_mov (.ptr 0 0 0) rfl <| ?_
      obtain ⟨r_108, er109, hc1⟩ := ob hc1
      refine s_do (o_callh (v := (.int .i64 r_108.1)) (h2 := [.box 3 (.agg [(.lst 1 (r_108.2.Code.map enc_u8)), (.int .i64 r_108.2.At), (.int .i64 r_108.2.Seed)]), .row 2 (out_61.map encGLock)]) [] [0] (fun _ => rfl) (w_spec_l00Src_next _ _ _ er109) rfl (.refl _) (.refl _) rfl rfl) ?_; refine s_mov (.ptr 0 0 0) rfl ?_
      obtain ⟨r_110, er111, hc1⟩ := ob hc1
      refine s_do (o_callh (v := (.str r_110.1)) (h2 := [.box 3 (.agg [(.lst 1 (r_110.2.Code.map enc_u8)), (.int .i64 r_110.2.At), (.int .i64 r_110.2.Seed)]), .row 2 (out_61.map encGLock)]) [] [0] (fun _ => rfl) (w_spec_l00Src_lockName _ _ er111) rfl (.refl _) (.refl _) rfl rfl) ?_
      obtain ⟨r_112, er113, hc1⟩ := ob hc1
      refine s_do (o_callf (v := (.tup [(.own 2 0 r_112.1.length), (.bool r_112.2.1), (.int .i64 r_112.2.2)])) (h' := [.row 2 (r_112.1.map encGLock)]) (w_spec_l12Take _ _ _ _ er113) rfl (.cons (.of_eq (congrArg (AV.lst _) (tko out_61))) (.cons (.refl _) (.cons (.refl _) .nil))) (by simp only [openV, openVs, List.length_map, List.nil_append, List.append_nil, List.cons_append]; rfl)) <| s_mov (.tup [(.own 2 0 r_112.1.length), (.bool r_112.2.1), (.int .i64 r_112.2.2)]) rfl <| s_q (.own 2 0 r_112.1.length) rfl nle rfl <| s_q (.bool r_112.2.1) rfl nle rfl <| s_q (.int .i64 r_112.2.2) rfl nle rfl <| s_mov (.own 2 0 r_112.1.length) rfl <| s_mov (.bool r_112.2.1) rfl <| s_mov (.int .i64 r_112.2.2) rfl <| w_done <| k_seq <| ?_
      refine awp_seq <| w_reg <| s_mov (.int .i64 r_112.2.2) rfl <| s_q (.bool (r_112.2.2 == 0)) rfl rfl rfl <| w_done <| k_seq <| ?_
      rcases oi hc1 with ⟨c114, hc1⟩ | ⟨c114, hc1⟩
      ·refine w_condt rfl c114 <| w_reg <| s_mov (.own 2 0 r_112.1.length) rfl <| s_mov (.own 2 0 r_112.1.length) rfl <| w_done <| k_blk <| k_blk <| k_seq <| w_reg <| s_mov (.int .i64 i_57) rfl <| s_q (.int .i64 (w64 (i_57 - 1))) rfl rfl rfl <| s_mov (.int .i64 (w64 (i_57 - 1))) rfl <| w_done <| ?_; exact k_loopn ⟨(k, w64 (i_57 - 1), r_110.2.Code, r_110.2.At, r_110.2.Seed, r_112.1), hc1⟩ (Nat.lt_succ_self _) ⟨[], [0, 2], _, _, rfl, rfl, ⟨.refl _, ⟨.refl _, ⟨.refl _, trivial⟩⟩⟩, (.refl _)⟩
      ·refine w_condf rfl (bf c114) <| w_skip <| k_blk <| k_blk <| k_seq <| w_reg <| s_mov (.int .i64 i_57) rfl <| s_q (.int .i64 (w64 (i_57 - 1))) rfl rfl rfl <| s_mov (.int .i64 (w64 (i_57 - 1))) rfl <| w_done <| ?_; exact k_loopn ⟨(k, w64 (i_57 - 1), r_110.2.Code, r_110.2.At, r_110.2.Seed, out_61), hc1⟩ (Nat.lt_succ_self _) ⟨[], [0, 1], _, _, rfl, rfl, ⟨.refl _, ⟨.refl _, ⟨.refl _, trivial⟩⟩⟩, (.refl _)⟩
   ·refine w_condf rfl (bf c91) <| w_exit <| k_seqx <| k_loopx <| k_blkx <| ?_; obtain rfl := os hc1; exact ⟨[], [0, 1], _, _, rfl, rfl, ⟨.refl _, trivial⟩, (.refl _)⟩
 ·obtain ⟨x_86, x_87, x_88, out_89⟩ := p90
  refine awp_seq <| w_reg <| s_mov (.own 1 0 out_89.length) rfl <| s_mov (.own 1 0 out_89.length) rfl <| w_done <| k_seq <| w_ret <| ?_; obtain rfl := os hf; exact r_heap [] [0, 1] rfl ⟨trivial, trivial⟩ rfl (.refl _) (.refl _)

/- spec.LocksOf -/
def c24 : ACode :=
 (.seq (.reg (tm 2 (.c .nil) .done))
 (.seq (.reg (tm 3 (.t 0) (tq 4 (.call 95 [(.t 3)]) (tq 5 (.call 96 [(.t 4)]) (tm 2 (.t 5) .done)))))
 .ret))
theorem fc24 : fcomp Try.prog Try.f24 = some (c24.erase, [.mov (.t 2)], 6) := by kernel_rfl
def spec_LocksOf (code_1 : (List Int)) : Option (List GLock) :=
    (spec_l00Source code_1).bind fun r_2 =>
    (spec_l00Src_locks r_2).bind fun r_4 =>
    some r_4.1
theorem w_spec_LocksOf (code_1 : (List Int)) (r : (List GLock)) (hf : spec_LocksOf code_1 = some r) : CallOK Try.prog 24 .fresh [(.lst 1 (code_1.map enc_u8))] (.lst 2 (r.map encGLock)) := by
  refine CallOK.of_awp mixed Try.func24 fc24 nle ?_
  rw [argT_eq]
  unfold spec_LocksOf at hf
  unfold c24
  refine (show awp Try.prog true 0 _ (ofL [(0, (.lst 1 (code_1.map enc_u8)))]) [] _ from ?_)
  refine awp_seq ?_
  refine w_reg ?_
  refine s_do (o_mov .nil rfl) ?_
  refine w_done ?_
  refine k_seq ?_
  refine awp_seq ?_
  refine w_reg ?_
  obtain ⟨r_2, er3, hf⟩ := ob hf
  obtain ⟨r_4, er5, hf⟩ := ob hf
  refine s_do (o_mov (.lst 1 (code_1.map enc_u8)) rfl) ?_
  refine s_do (o_callh (v := (.ptr 0 0 0)) (h2 := [.box 3 (.agg [(.lst 1 (r_2.Code.map enc_u8)), (.int .i64 r_2.At), (.int .i64 r_2.Seed)])]) [] [] (fun _ => rfl) (w_spec_l00Source _ _ er3) rfl (.refl _) (.refl _) rfl rfl) ?_
  refine s_do (o_callh (v := (.own 1 0 r_4.1.length)) (h2 := [.box 3 (.agg [(.lst 1 (r_4.2.Code.map enc_u8)), (.int .i64 r_4.2.At), (.int .i64 r_4.2.Seed)]), .row 2 (r_4.1.map encGLock)]) [] [0] (fun _ => rfl) (w_spec_l00Src_locks _ _ er5) rfl (.refl _) (.refl _) rfl rfl) ?_
  refine s_do (o_mov (.own 1 0 r_4.1.length) rfl) ?_
  refine w_done ?_
  refine k_seq ?_
  refine w_ret ?_
  obtain rfl := os hf
  exact r_fresh ⟨trivial, trivial⟩ rfl (by decide) (.of_eq (congrArg (AV.lst _) (tk (enc := encGLock) r_4.1)))

/- spec.l00Source -/
def c95_h1 : ACode :=
 (.seq (.reg (tm 2 (.c .undef) .done))
 (.seq (.reg (tm 3 (.t 0) (tm 4 (.t 0) (tq 5 (.len (.t 4)) (tq 6 (.bin .rem (.t 5) (.c (.int .i64 1000))) (tq 7 (.build [.nil, (.int .i64 0), (.int .i64 0)] [(0, 1, (.t 3)), (2, 1, (.t 6))]) (tq 8 (.box 3 (.t 7)) (tm 2 (.t 8) .done))))))))
 .ret))
theorem fc95_h1 : fcomp Try.prog Try.f95 = some (c95_h1.erase, [.mov (.t 2)], 9) := by kernel_rfl
def spec_l00Source_h1 (code_1 : (List Int)) : Option GL00Src :=
    some (⟨code_1, 0, (code_1.length : Int).tmod 1000⟩ : GL00Src)
theorem w_spec_l00Source_h1 (code_1 : (List Int)) (r : GL00Src) (hf : spec_l00Source_h1 code_1 = some r) : CallHeap Try.prog false 95 [(.lst 1 (code_1.map enc_u8))] [] (.ptr 0 0 0) [.box 3 (.agg [(.lst 1 (r.Code.map enc_u8)), (.int .i64 r.At), (.int .i64 r.Seed)])] := by
  refine CallHeap.of_awp mixed Try.func95 fc95_h1 nle ?_
  rw [argT_eq]
  unfold spec_l00Source_h1 at hf
  unfold c95_h1
  refine (show awp Try.prog false 0 _ (ofL [(0, (.lst 1 (code_1.map enc_u8)))]) [] _ from ?_)
  refine awp_seq ?_
  refine w_reg ?_
  refine s_do (o_mov .undef rfl) ?_
  refine w_done ?_
  refine k_seq ?_
  refine awp_seq ?_
  refine w_reg ?_
  refine s_do (o_mov (.lst 1 (code_1.map enc_u8)) rfl) ?_
  refine s_do (o_mov (.lst 1 (code_1.map enc_u8)) rfl) ?_
  refine s_dof (o_len (enc := enc_u8) rfl) fun hl2 => ?_
  refine s_do (o_q (.int .i64 ((code_1.length : Int).tmod 1000)) rfl ⟨rfl, by decide⟩ rfl) ?_
  refine s_do (o_q (.agg [(.lst 1 (code_1.map enc_u8)), (.int .i64 0), (.int .i64 ((code_1.length : Int).tmod 1000))]) rfl ⟨⟨rfl, nle, trivial⟩, ⟨⟨rfl, nle, trivial⟩, trivial⟩⟩ rfl) ?_
  refine s_do (o_box (j := 0) (c := (.agg [(.lst 1 (code_1.map enc_u8)), (.int .i64 0), (.int .i64 ((code_1.length : Int).tmod 1000))])) rfl trivial rfl rfl) ?_
  refine s_do (o_mov (.ptr 0 0 0) rfl) ?_
  refine w_done ?_
  refine k_seq ?_
  refine w_ret ?_
  obtain rfl := os hf
  exact r_heap [] [0] rfl ⟨trivial, trivial⟩ rfl (.refl _) (.refl _)

/- (*spec.l00Src).byte -/
def c250_h1 : ACode :=
 (.seq (.reg (tm 2 (.c (.int .i64 0)) .done))
 (.seq (.reg (tm 3 (.t 0) (tq 4 (.nilck (.t 3)) (tq 5 (.faddr 1 (.t 4)) (tq 6 (.load 1 false (.t 5)) (tq 7 (.bin .add (.t 6) (.c (.int .i64 1))) (tq 8 (.nilck (.t 3)) (tq 9 (.faddr 1 (.t 8)) (.q ⟨none, none, .store 1 (.t 9) (.t 7)⟩
 .done)))))))))
 (.seq (.seq (.reg (tm 10 (.t 0) (tq 11 (.nilck (.t 10)) (tq 12 (.faddr 1 (.t 11)) (tq 13 (.load 1 false (.t 12)) (tm 14 (.t 0) (tq 15 (.nilck (.t 14)) (tq 16 (.faddr 0 (.t 15)) (tq 17 (.load 1 false (.t 16)) (tq 18 (.len (.t 17)) (tq 19 (.bin .leq (.t 13) (.t 18)) .done)))))))))))
 (.cond (.t 19) (.seq (.reg (tm 20 (.t 0) (tm 21 (.t 0) (tq 22 (.nilck (.t 21)) (tq 23 (.faddr 2 (.t 22)) (tq 24 (.load 1 false (.t 23)) (tq 25 (.bin .mul (.t 24) (.c (.int .i64 31))) (tm 26 (.t 0) (tq 27 (.nilck (.t 26)) (tq 28 (.faddr 0 (.t 27)) (tq 29 (.load 1 false (.t 28)) (tm 30 (.t 0) (tq 31 (.nilck (.t 30)) (tq 32 (.faddr 1 (.t 31)) (tq 33 (.load 1 false (.t 32)) (tq 34 (.bin .sub (.t 33) (.c (.int .i64 1))) (tq 35 (.iaddr 1 (.t 29) (.t 34)) (tq 36 (.load 1 false (.t 35)) (tq 37 (.convI .i64 (.t 36)) (tq 38 (.bin .add (.t 25) (.t 37)) (tq 39 (.bin .add (.t 38) (.c (.int .i64 7))) (tq 40 (.bin .rem (.t 39) (.c (.int .i64 2147483648))) (tq 41 (.nilck (.t 20)) (tq 42 (.faddr 2 (.t 41)) (.l ⟨none, none, .store 1 (.t 42) (.t 40)⟩ []
 .done .non)))))))))))))))))))))))))
 (.seq (.reg (tm 43 (.t 0) (tq 44 (.nilck (.t 43)) (tq 45 (.faddr 0 (.t 44)) (tq 46 (.load 1 false (.t 45)) (tm 47 (.t 0) (tq 48 (.nilck (.t 47)) (tq 49 (.faddr 1 (.t 48)) (tq 50 (.load 1 false (.t 49)) (tq 51 (.bin .sub (.t 50) (.c (.int .i64 1))) (tq 52 (.iaddr 1 (.t 46) (.t 51)) (tq 53 (.load 1 false (.t 52)) (tq 54 (.convI .i64 (.t 53)) (tm 2 (.t 54) .done))))))))))))))
 .ret))
 .skip))
 (.seq (.seq (.reg (tm 55 (.t 0) (tq 56 (.nilck (.t 55)) (tq 57 (.faddr 1 (.t 56)) (tq 58 (.load 1 false (.t 57)) (tq 59 (.bin .gtr (.t 58) (.c (.int .i64 3000))) .done))))))
 (.cond (.t 59) (.seq (.reg (tm 2 (.c (.int .i64 0)) .done))
 .ret)
 .skip))
 (.seq (.reg (tm 60 (.t 0) (tm 61 (.t 0) (tq 62 (.nilck (.t 61)) (tq 63 (.faddr 2 (.t 62)) (tq 64 (.load 1 false (.t 63)) (tq 65 (.bin .mul (.t 64) (.c (.int .i64 1103515245))) (tq 66 (.bin .add (.t 65) (.c (.int .i64 12345))) (tq 67 (.bin .rem (.t 66) (.c (.int .i64 2147483648))) (tq 68 (.nilck (.t 60)) (tq 69 (.faddr 2 (.t 68)) (.q ⟨none, none, .store 1 (.t 69) (.t 67)⟩
 .done))))))))))))
 (.seq (.reg (tm 70 (.t 0) (tq 71 (.nilck (.t 70)) (tq 72 (.faddr 2 (.t 71)) (tq 73 (.load 1 false (.t 72)) (tq 74 (.bin .quo (.t 73) (.c (.int .i64 65536))) (tq 75 (.bin .rem (.t 74) (.c (.int .i64 256))) (tm 2 (.t 75) .done))))))))
 .ret))))))
theorem fc250_h1 : fcomp Try.prog Try.f250 = some (c250_h1.erase, [.mov (.t 2)], 76) := by kernel_rfl
def spec_l00Src_byte_h1 (s_1 : GL00Src) : Option (Int × GL00Src) :=
    if (decide (w64 (s_1.At + 1) ≤ (s_1.Code.length : Int))) then
    (idx s_1.Code (w64 ((w64 (s_1.At + 1)) - 1))).bind fun x_4 =>
    (idx s_1.Code (w64 ((w64 (s_1.At + 1)) - 1))).bind fun x_6 =>
    some (w64 x_6, (⟨s_1.Code, w64 (s_1.At + 1), (w64 ((w64 ((w64 (s_1.Seed * 31)) + (w64 x_4))) + 7)).tmod 2147483648⟩ : GL00Src))
    else
    if (decide (w64 (s_1.At + 1) > 3000)) then
    some (0, (⟨s_1.Code, w64 (s_1.At + 1), s_1.Seed⟩ : GL00Src))
    else
    some ((w64 (((w64 ((w64 (s_1.Seed * 1103515245)) + 12345)).tmod 2147483648).tdiv 65536)).tmod 256, (⟨s_1.Code, w64 (s_1.At + 1), (w64 ((w64 (s_1.Seed * 1103515245)) + 12345)).tmod 2147483648⟩ : GL00Src))
theorem w_spec_l00Src_byte_h1 (s_1 : GL00Src) (r : (Int × GL00Src)) (hf : spec_l00Src_byte_h1 s_1 = some r) : CallHeap Try.prog false 250 [(.ptr 0 0 0)] [.box 3 (.agg [(.lst 1 (s_1.Code.map enc_u8)), (.int .i64 s_1.At), (.int .i64 s_1.Seed)])] (.int .i64 r.1) [.box 3 (.agg [(.lst 1 (r.2.Code.map enc_u8)), (.int .i64 r.2.At), (.int .i64 r.2.Seed)])] := by
 refine CallHeap.of_awp mixed Try.func250 fc250_h1 nle ?_; rw [argT_eq]; unfold spec_l00Src_byte_h1 at hf; unfold c250_h1; refine (show awp Try.prog false 1 _ (ofL [(0, (.ptr 0 0 0))]) [.box 3 (.agg [(.lst 1 (s_1.Code.map enc_u8)), (.int .i64 s_1.At), (.int .i64 s_1.Seed)])] _ from ?_); refine awp_seq <| w_reg <| s_mov (.int .i64 0) rfl <| w_done <| k_seq <| awp_seq <| w_reg <| s_mov (.ptr 0 0 0) rfl <| s_q (.ptr 0 0 0) rfl trivial rfl <| s_q (.ptr 0 0 1) rfl trivial rfl <| s_q (.int .i64 s_1.At) rfl nle rfl <| s_q (.int .i64 (w64 (s_1.At + 1))) rfl rfl rfl <| s_q (.ptr 0 0 0) rfl trivial rfl <| s_q (.ptr 0 0 1) rfl trivial rfl <| s_do0 (o_storebox (v := (.int .i64 (w64 (s_1.At + 1)))) (y' := (.agg [(.lst 1 (s_1.Code.map enc_u8)), (.int .i64 (w64 (s_1.At + 1))), (.int .i64 s_1.Seed)])) rfl rfl rfl trivial ⟨rfl, nle⟩ ⟨⟨rfl, trivial⟩, trivial⟩ rfl) <| ?_
 refine w_done <| k_seq <| awp_seq <| awp_seq <| w_reg <| s_mov (.ptr 0 0 0) rfl <| s_q (.ptr 0 0 0) rfl trivial rfl <| s_q (.ptr 0 0 1) rfl trivial rfl <| s_q (.int .i64 (w64 (s_1.At + 1))) rfl nle rfl <| s_mov (.ptr 0 0 0) rfl <| s_q (.ptr 0 0 0) rfl trivial rfl <| s_q (.ptr 0 0 0) rfl trivial rfl <| s_q (.lst 1 (s_1.Code.map enc_u8)) rfl nle rfl <| s_dof (o_len (enc := enc_u8) rfl) fun hl2 => s_q (.bool (decide (w64 (s_1.At + 1) ≤ (s_1.Code.length : Int)))) rfl rfl rfl <| w_done <| k_seq <| ?_
 rcases oi hf with ⟨c3, hf⟩ | ⟨c3, hf⟩
 ·refine w_condt rfl c3 <| awp_seq <| w_reg <| s_mov (.ptr 0 0 0) rfl <| s_mov (.ptr 0 0 0) rfl <| s_q (.ptr 0 0 0) rfl trivial rfl <| s_q (.ptr 0 0 2) rfl trivial rfl <| s_q (.int .i64 s_1.Seed) rfl nle rfl <| s_q (.int .i64 (w64 (s_1.Seed * 31))) rfl rfl rfl <| s_mov (.ptr 0 0 0) rfl <| s_q (.ptr 0 0 0) rfl trivial rfl <| s_q (.ptr 0 0 0) rfl trivial rfl <| s_q (.lst 1 (s_1.Code.map enc_u8)) rfl nle rfl <| s_mov (.ptr 0 0 0) rfl <| s_q (.ptr 0 0 0) rfl trivial rfl <| s_q (.ptr 0 0 1) rfl trivial rfl <| s_q (.int .i64 (w64 (s_1.At + 1))) rfl nle rfl <| s_q (.int .i64 (w64 ((w64 (s_1.At + 1)) - 1))) rfl rfl rfl <| ?_
  obtain ⟨x_4, ex5, hf⟩ := ob hf
  refine s_do (o_iaddr (enc := enc_u8) rfl rfl (idx0 ex5) (idx1 ex5)) <| s_q (.int .u8 x_4) rfl ⟨rfl, rfl⟩ rfl <| s_q (.int .i64 (w64 x_4)) rfl trivial rfl <| s_q (.int .i64 (w64 ((w64 (s_1.Seed * 31)) + (w64 x_4)))) rfl rfl rfl <| s_q (.int .i64 (w64 ((w64 ((w64 (s_1.Seed * 31)) + (w64 x_4))) + 7))) rfl rfl rfl <| s_q (.int .i64 ((w64 ((w64 ((w64 (s_1.Seed * 31)) + (w64 x_4))) + 7)).tmod 2147483648)) rfl ⟨rfl, by decide⟩ rfl <| s_q (.ptr 0 0 0) rfl trivial rfl <| s_q (.ptr 0 0 2) rfl trivial rfl <| s_dol0 (o_storebox (v := (.int .i64 ((w64 ((w64 ((w64 (s_1.Seed * 31)) + (w64 x_4))) + 7)).tmod 2147483648))) (y' := (.agg [(.lst 1 (s_1.Code.map enc_u8)), (.int .i64 (w64 (s_1.At + 1))), (.int .i64 ((w64 ((w64 ((w64 (s_1.Seed * 31)) + (w64 x_4))) + 7)).tmod 2147483648))])) rfl rfl rfl trivial ⟨rfl, nle⟩ ⟨⟨rfl, trivial⟩, trivial⟩ rfl) trivial trivial <| ?_
  refine w_done <| k_seq <| awp_seq <| w_reg <| s_mov (.ptr 0 0 0) rfl <| s_q (.ptr 0 0 0) rfl trivial rfl <| s_q (.ptr 0 0 0) rfl trivial rfl <| s_q (.lst 1 (s_1.Code.map enc_u8)) rfl nle rfl <| s_mov (.ptr 0 0 0) rfl <| s_q (.ptr 0 0 0) rfl trivial rfl <| s_q (.ptr 0 0 1) rfl trivial rfl <| s_q (.int .i64 (w64 (s_1.At + 1))) rfl nle rfl <| s_q (.int .i64 (w64 ((w64 (s_1.At + 1)) - 1))) rfl rfl rfl <| ?_
  obtain ⟨x_6, ex7, hf⟩ := ob hf
  refine s_do (o_iaddr (enc := enc_u8) rfl rfl (idx0 ex7) (idx1 ex7)) <| s_q (.int .u8 x_6) rfl ⟨rfl, rfl⟩ rfl <| s_q (.int .i64 (w64 x_6)) rfl trivial rfl <| s_mov (.int .i64 (w64 x_6)) rfl <| w_done <| k_seq <| w_ret <| ?_; obtain rfl := os hf; exact r_heap [] [0] rfl ⟨trivial, trivial⟩ rfl (.refl _) (.refl _)
 ·refine w_condf rfl (bf c3) <| w_skip <| k_seq <| awp_seq <| awp_seq <| w_reg <| s_mov (.ptr 0 0 0) rfl <| s_q (.ptr 0 0 0) rfl trivial rfl <| s_q (.ptr 0 0 1) rfl trivial rfl <| s_q (.int .i64 (w64 (s_1.At + 1))) rfl nle rfl <| s_q (.bool (decide (w64 (s_1.At + 1) > 3000))) rfl rfl rfl <| w_done <| k_seq <| ?_
  rcases oi hf with ⟨c8, hf⟩ | ⟨c8, hf⟩
  ·refine w_condt rfl c8 <| awp_seq <| w_reg <| s_mov (.int .i64 0) rfl <| w_done <| k_seq <| w_ret <| ?_; obtain rfl := os hf; exact r_heap [] [0] rfl ⟨trivial, trivial⟩ rfl (.refl _) (.refl _)
  ·refine w_condf rfl (bf c8) <| w_skip <| k_seq <| awp_seq <| w_reg <| s_mov (.ptr 0 0 0) rfl <| s_mov (.ptr 0 0 0) rfl <| s_q (.ptr 0 0 0) rfl trivial rfl <| s_q (.ptr 0 0 2) rfl trivial rfl <| s_q (.int .i64 s_1.Seed) rfl nle rfl <| s_q (.int .i64 (w64 (s_1.Seed * 1103515245))) rfl rfl rfl <| s_q (.int .i64 (w64 ((w64 (s_1.Seed * 1103515245)) + 12345))) rfl rfl rfl <| s_q (.int .i64 ((w64 ((w64 (s_1.Seed * 1103515245)) + 12345)).tmod 2147483648)) rfl ⟨rfl, by decide⟩ rfl <| s_q (.ptr 0 0 0) rfl trivial rfl <| s_q (.ptr 0 0 2) rfl trivial rfl <| s_do0 (o_storebox (v := (.int .i64 ((w64 ((w64 (s_1.Seed * 1103515245)) + 12345)).tmod 2147483648))) (y' := (.agg [(.lst 1 (s_1.Code.map enc_u8)), (.int .i64 (w64 (s_1.At + 1))), (.int .i64 ((w64 ((w64 (s_1.Seed * 1103515245)) + 12345)).tmod 2147483648))])) rfl rfl rfl trivial ⟨rfl, nle⟩ ⟨⟨rfl, trivial⟩, trivial⟩ rfl) <| ?_
   refine w_done <| k_seq <| awp_seq <| w_reg <| s_mov (.ptr 0 0 0) rfl <| s_q (.ptr 0 0 0) rfl trivial rfl <| s_q (.ptr 0 0 2) rfl trivial rfl <| s_q (.int .i64 ((w64 ((w64 (s_1.Seed * 1103515245)) + 12345)).tmod 2147483648)) rfl nle rfl <| s_q (.int .i64 (w64 (((w64 ((w64 (s_1.Seed * 1103515245)) + 12345)).tmod 2147483648).tdiv 65536))) rfl ⟨rfl, by decide⟩ rfl <| s_q (.int .i64 ((w64 (((w64 ((w64 (s_1.Seed * 1103515245)) + 12345)).tmod 2147483648).tdiv 65536)).tmod 256)) rfl ⟨rfl, by decide⟩ rfl <| s_mov (.int .i64 ((w64 (((w64 ((w64 (s_1.Seed * 1103515245)) + 12345)).tmod 2147483648).tdiv 65536)).tmod 256)) rfl <| w_done <| k_seq <| w_ret <| ?_; obtain rfl := os hf; exact r_heap [] [0] rfl ⟨trivial, trivial⟩ rfl (.refl _) (.refl _)

/- (*spec.l00Src).next -/
def c181_h1 : ACode :=
 (.seq (.reg (tm 4 (.c (.int .i64 0)) .done))
 (.seq (.seq (.reg (tm 8 (.t 1) (tq 9 (.bin .leq (.t 8) (.c (.int .i64 1))) .done)))
 (.cond (.t 9) (.seq (.reg (tm 4 (.c (.int .i64 0)) .done))
 .ret)
 .skip))
 (.seq (.seq (.reg (tm 10 (.t 1) (tq 11 (.bin .leq (.t 10) (.c (.int .i64 256))) .done)))
 (.cond (.t 11) (.seq (.reg (tm 12 (.t 0) (tq 13 (.call 250 [(.t 12)]) (tm 14 (.t 1) (tq 15 (.bin .rem (.t 13) (.t 14)) (tm 4 (.t 15) .done))))))
 .ret)
 .skip))
 (.seq (.reg (tm 16 (.t 0) (tq 17 (.call 250 [(.t 16)]) (tm 5 (.t 17) .done))))
 (.seq (.reg (tm 18 (.t 0) (tq 19 (.call 250 [(.t 18)]) (tm 6 (.t 19) .done))))
 (.seq (.reg (tm 20 (.t 0) (tq 21 (.call 250 [(.t 20)]) (tm 7 (.t 21) .done))))
 (.seq (.reg (tm 22 (.t 5) (tq 23 (.bin .mul (.t 22) (.c (.int .i64 65536))) (tm 24 (.t 6) (tq 25 (.bin .mul (.t 24) (.c (.int .i64 256))) (tq 26 (.bin .add (.t 23) (.t 25)) (tm 27 (.t 7) (tq 28 (.bin .add (.t 26) (.t 27)) (tm 29 (.t 1) (tq 30 (.bin .rem (.t 28) (.t 29)) (tm 4 (.t 30) .done)))))))))))
 .ret)))))))
theorem fc181_h1 : fcomp Try.prog Try.f181 = some (c181_h1.erase, [.mov (.t 4)], 31) := by kernel_rfl
def spec_l00Src_next_h1 (n_1 : Int) (s_2 : GL00Src) : Option (Int × GL00Src) :=
    if (decide (n_1 ≤ 1)) then
    some (0, s_2)
    else
    if (decide (n_1 ≤ 256)) then
    (spec_l00Src_byte_h1 s_2).bind fun r_5 =>
    if n_1 ≠ 0 then
    some (r_5.1.tmod n_1, r_5.2)
    else none
    else
    (spec_l00Src_byte_h1 s_2).bind fun r_8 =>
    (spec_l00Src_byte_h1 r_8.2).bind fun r_10 =>
    (spec_l00Src_byte_h1 r_10.2).bind fun r_12 =>
    if n_1 ≠ 0 then
    some ((w64 ((w64 ((w64 (r_8.1 * 65536)) + (w64 (r_10.1 * 256)))) + r_12.1)).tmod n_1, r_12.2)
    else none
theorem w_spec_l00Src_next_h1 (n_1 : Int) (s_2 : GL00Src) (r : (Int × GL00Src)) (hf : spec_l00Src_next_h1 n_1 s_2 = some r) : CallHeap Try.prog false 181 [(.ptr 0 0 0), (.int .i64 n_1)] [.box 3 (.agg [(.lst 1 (s_2.Code.map enc_u8)), (.int .i64 s_2.At), (.int .i64 s_2.Seed)])] (.int .i64 r.1) [.box 3 (.agg [(.lst 1 (r.2.Code.map enc_u8)), (.int .i64 r.2.At), (.int .i64 r.2.Seed)])] := by
 refine CallHeap.of_awp mixed Try.func181 fc181_h1 nle ?_; rw [argT_eq]; unfold spec_l00Src_next_h1 at hf; unfold c181_h1; refine (show awp Try.prog false 1 _ (ofL [(0, (.ptr 0 0 0)), (1, (.int .i64 n_1))]) [.box 3 (.agg [(.lst 1 (s_2.Code.map enc_u8)), (.int .i64 s_2.At), (.int .i64 s_2.Seed)])] _ from ?_); refine awp_seq <| w_reg <| s_mov (.int .i64 0) rfl <| w_done <| k_seq <| awp_seq <| awp_seq <| w_reg <| s_mov (.int .i64 n_1) rfl <| s_q (.bool (decide (n_1 ≤ 1))) rfl rfl rfl <| w_done <| k_seq <| ?_
 rcases oi hf with ⟨c3, hf⟩ | ⟨c3, hf⟩
 ·refine w_condt rfl c3 <| awp_seq <| w_reg <| s_mov (.int .i64 0) rfl <| w_done <| k_seq <| w_ret <| ?_; obtain rfl := os hf; exact r_heap [] [0] rfl ⟨trivial, trivial⟩ rfl (.refl _) (.refl _)
 ·refine w_condf rfl (bf c3) <| w_skip <| k_seq <| awp_seq <| awp_seq <| w_reg <| s_mov (.int .i64 n_1) rfl <| s_q (.bool (decide (n_1 ≤ 256))) rfl rfl rfl <| w_done <| k_seq <| ?_
  rcases oi hf with ⟨c4, hf⟩ | ⟨c4, hf⟩
  ·refine w_condt rfl c4 <| awp_seq <| w_reg <| ?_
   obtain ⟨r_5, er6, hf⟩ := ob hf
   obtain ⟨g7, hf⟩ := og hf
   refine s_mov (.ptr 0 0 0) rfl ?_; refine s_do (o_callh (v := (.int .i64 r_5.1)) (h2 := [.box 3 (.agg [(.lst 1 (r_5.2.Code.map enc_u8)), (.int .i64 r_5.2.At), (.int .i64 r_5.2.Seed)])]) [] [0] (fun _ => rfl) (w_spec_l00Src_byte_h1 _ _ er6) rfl (.refl _) (.refl _) rfl rfl) ?_; refine s_mov (.int .i64 n_1) rfl <| s_q (.int .i64 (r_5.1.tmod n_1)) rfl ⟨rfl, g7⟩ rfl <| s_mov (.int .i64 (r_5.1.tmod n_1)) rfl <| w_done <| k_seq <| w_ret <| ?_; obtain rfl := os hf; exact r_heap [] [0] rfl ⟨trivial, trivial⟩ rfl (.refl _) (.refl _)
  ·refine w_condf rfl (bf c4) <| w_skip <| k_seq <| awp_seq <| w_reg <| ?_
   obtain ⟨r_8, er9, hf⟩ := ob hf
   refine s_mov (.ptr 0 0 0) rfl ?_; refine s_do (o_callh (v := (.int .i64 r_8.1)) (h2 := [.box 3 (.agg [(.lst 1 (r_8.2.Code.map enc_u8)), (.int .i64 r_8.2.At), (.int .i64 r_8.2.Seed)])]) [] [0] (fun _ => rfl) (w_spec_l00Src_byte_h1 _ _ er9) rfl (.refl _) (.refl _) rfl rfl) ?_; refine s_mov (.int .i64 r_8.1) rfl <| w_done <| k_seq <| awp_seq <| w_reg <| ?_
   obtain ⟨r_10, er11, hf⟩ := ob hf
   refine s_mov (.ptr 0 0 0) rfl ?_; refine s_do (o_callh (v := (.int .i64 r_10.1)) (h2 := [.box 3 (.agg [(.lst 1 (r_10.2.Code.map enc_u8)), (.int .i64 r_10.2.At), (.int .i64 r_10.2.Seed)])]) [] [0] (fun _ => rfl) (w_spec_l00Src_byte_h1 _ _ er11) rfl (.refl _) (.refl _) rfl rfl) ?_; refine s_mov (.int .i64 r_10.1) rfl <| w_done <| k_seq <| awp_seq <| w_reg <| ?_
   obtain ⟨r_12, er13, hf⟩ := ob hf
   refine s_mov (.ptr 0 0 0) rfl ?_; refine s_do (o_callh (v := (.int .i64 r_12.1)) (h2 := [.box 3 (.agg [(.lst 1 (r_12.2.Code.map enc_u8)), (.int .i64 r_12.2.At), (.int .i64 r_12.2.Seed)])]) [] [0] (fun _ => rfl) (w_spec_l00Src_byte_h1 _ _ er13) rfl (.refl _) (.refl _) rfl rfl) ?_; refine s_mov (.int .i64 r_12.1) rfl <| w_done <| k_seq <| awp_seq <| w_reg <| ?_
   obtain ⟨g14, hf⟩ := og hf
   refine s_mov (.int .i64 r_8.1) rfl <| s_q (.int .i64 (w64 (r_8.1 * 65536))) rfl rfl rfl <| s_mov (.int .i64 r_10.1) rfl <| s_q (.int .i64 (w64 (r_10.1 * 256))) rfl rfl rfl <| s_q (.int .i64 (w64 ((w64 (r_8.1 * 65536)) + (w64 (r_10.1 * 256))))) rfl rfl rfl <| s_mov (.int .i64 r_12.1) rfl <| s_q (.int .i64 (w64 ((w64 ((w64 (r_8.1 * 65536)) + (w64 (r_10.1 * 256)))) + r_12.1))) rfl rfl rfl <| s_mov (.int .i64 n_1) rfl <| s_q (.int .i64 ((w64 ((w64 ((w64 (r_8.1 * 65536)) + (w64 (r_10.1 * 256)))) + r_12.1)).tmod n_1)) rfl ⟨rfl, g14⟩ rfl <| s_mov (.int .i64 ((w64 ((w64 ((w64 (r_8.1 * 65536)) + (w64 (r_10.1 * 256)))) + r_12.1)).tmod n_1)) rfl <| w_done <| k_seq <| w_ret <| ?_; obtain rfl := os hf; exact r_heap [] [0] rfl ⟨trivial, trivial⟩ rfl (.refl _) (.refl _)

/- (*spec.l00Src).pick -/
def c203_h1 : ACode :=
 (.seq (.reg (tm 4 (.c (.str [])) .done))
 (.seq (.seq (.reg (tm 5 (.t 1) (tq 6 (.len (.t 5)) (tq 7 (.bin .eql (.t 6) (.c (.int .i64 0))) .done))))
 (.cond (.t 7) (.seq (.reg (tm 4 (.c (.str [])) .done))
 .ret)
 .skip))
 (.seq (.reg (tm 8 (.t 1) (tm 9 (.t 0) (tm 10 (.t 1) (tq 11 (.len (.t 10)) (tq 12 (.call 181 [(.t 9), (.t 11)]) (tq 13 (.iaddr 1 (.t 8) (.t 12)) (tq 14 (.load 1 false (.t 13)) (tm 4 (.t 14) .done)))))))))
 .ret)))
theorem fc203_h1 : fcomp Try.prog Try.f203 = some (c203_h1.erase, [.mov (.t 4)], 15) := by kernel_rfl
def spec_l00Src_pick_h1 (list_1 : (List Str)) (s_2 : GL00Src) : Option (Str × GL00Src) :=
    if ((list_1.length : Int) == 0) then
    some ([], s_2)
    else
    (spec_l00Src_next_h1 (list_1.length : Int) s_2).bind fun r_6 =>
    (idx list_1 r_6.1).bind fun x_8 =>
    some (x_8, r_6.2)
theorem w_spec_l00Src_pick_h1 (list_1 : (List Str)) (s_2 : GL00Src) (r : (Str × GL00Src)) (hf : spec_l00Src_pick_h1 list_1 s_2 = some r) : CallHeap Try.prog false 203 [(.ptr 0 0 0), (.lst 1 (list_1.map AV.str))] [.box 3 (.agg [(.lst 1 (s_2.Code.map enc_u8)), (.int .i64 s_2.At), (.int .i64 s_2.Seed)])] (.str r.1) [.box 3 (.agg [(.lst 1 (r.2.Code.map enc_u8)), (.int .i64 r.2.At), (.int .i64 r.2.Seed)])] := by
 refine CallHeap.of_awp mixed Try.func203 fc203_h1 nle ?_; rw [argT_eq]; unfold spec_l00Src_pick_h1 at hf; unfold c203_h1; refine (show awp Try.prog false 1 _ (ofL [(0, (.ptr 0 0 0)), (1, (.lst 1 (list_1.map AV.str)))]) [.box 3 (.agg [(.lst 1 (s_2.Code.map enc_u8)), (.int .i64 s_2.At), (.int .i64 s_2.Seed)])] _ from ?_); refine awp_seq <| w_reg <| s_mov (.str []) rfl <| w_done <| k_seq <| awp_seq <| awp_seq <| w_reg <| s_mov (.lst 1 (list_1.map AV.str)) rfl <| s_dof (o_len (enc := AV.str) rfl) fun hl3 => s_q (.bool ((list_1.length : Int) == 0)) rfl rfl rfl <| w_done <| k_seq <| ?_
 rcases oi hf with ⟨c4, hf⟩ | ⟨c4, hf⟩
 ·refine w_condt rfl c4 <| awp_seq <| w_reg <| s_mov (.str []) rfl <| w_done <| k_seq <| w_ret <| ?_; obtain rfl := os hf; exact r_heap [] [0] rfl ⟨trivial, trivial⟩ rfl (.refl _) (.refl _)
 ·refine w_condf rfl (bf c4) <| w_skip <| k_seq <| awp_seq <| w_reg <| ?_
  obtain ⟨r_6, er7, hf⟩ := ob hf
  obtain ⟨x_8, ex9, hf⟩ := ob hf
  refine s_mov (.lst 1 (list_1.map AV.str)) rfl <| s_mov (.ptr 0 0 0) rfl <| s_mov (.lst 1 (list_1.map AV.str)) rfl <| s_dof (o_len (enc := AV.str) rfl) fun hl5 => ?_; refine s_do (o_callh (v := (.int .i64 r_6.1)) (h2 := [.box 3 (.agg [(.lst 1 (r_6.2.Code.map enc_u8)), (.int .i64 r_6.2.At), (.int .i64 r_6.2.Seed)])]) [] [0] (fun _ => rfl) (w_spec_l00Src_next_h1 _ _ _ er7) rfl (.refl _) (.refl _) rfl rfl) ?_; refine s_do (o_iaddr (enc := AV.str) rfl rfl (idx0 ex9) (idx1 ex9)) <| s_q (.str x_8) rfl ⟨rfl, rfl⟩ rfl <| s_mov (.str x_8) rfl <| w_done <| k_seq <| w_ret <| ?_; obtain rfl := os hf; exact r_heap [] [0] rfl ⟨trivial, trivial⟩ rfl (.refl _) (.refl _)

/- (*spec.l00Src).lockName -/
def c122_h1 : ACode :=
 (.seq (.reg (tm 2 (.c (.str [])) .done))
 (.seq (.reg (tm 3 (.t 0) (tq 4 (.bslice 1 [(.c (.str [108, 111, 99, 107])), (.c (.str [111, 116, 104, 101, 114])), (.c (.str [116, 104, 105, 114, 100]))]) (tq 5 (.call 203 [(.t 3), (.t 4)]) (tm 2 (.t 5) .done)))))
 .ret))
theorem fc122_h1 : fcomp Try.prog Try.f122 = some (c122_h1.erase, [.mov (.t 2)], 6) := by kernel_rfl
def spec_l00Src_lockName_h1 (s_1 : GL00Src) : Option (Str × GL00Src) :=
    (spec_l00Src_pick_h1 [[108, 111, 99, 107], [111, 116, 104, 101, 114], [116, 104, 105, 114, 100]] s_1).bind fun r_2 =>
    some (r_2.1, r_2.2)
theorem w_spec_l00Src_lockName_h1 (s_1 : GL00Src) (r : (Str × GL00Src)) (hf : spec_l00Src_lockName_h1 s_1 = some r) : CallHeap Try.prog false 122 [(.ptr 0 0 0)] [.box 3 (.agg [(.lst 1 (s_1.Code.map enc_u8)), (.int .i64 s_1.At), (.int .i64 s_1.Seed)])] (.str r.1) [.box 3 (.agg [(.lst 1 (r.2.Code.map enc_u8)), (.int .i64 r.2.At), (.int .i64 r.2.Seed)])] := by
 refine CallHeap.of_awp mixed Try.func122 fc122_h1 nle ?_; rw [argT_eq]; unfold spec_l00Src_lockName_h1 at hf; unfold c122_h1; refine (show awp Try.prog false 1 _ (ofL [(0, (.ptr 0 0 0))]) [.box 3 (.agg [(.lst 1 (s_1.Code.map enc_u8)), (.int .i64 s_1.At), (.int .i64 s_1.Seed)])] _ from ?_); refine awp_seq <| w_reg <| s_mov (.str []) rfl <| w_done <| k_seq <| awp_seq <| w_reg <| ?_
 obtain ⟨r_2, er3, hf⟩ := ob hf
 refine s_mov (.ptr 0 0 0) rfl ?_; refine s_do (o_bslice (j := 1) (as' := [(.str [108, 111, 99, 107]), (.str [111, 116, 104, 101, 114]), (.str [116, 104, 105, 114, 100])]) rfl (fun _ => by decide) ⟨rfl, ⟨rfl, ⟨rfl, trivial⟩⟩⟩ (.refl _) rfl rfl rfl) ?_; refine s_do (o_callh (v := (.str r_2.1)) (h2 := [.box 3 (.agg [(.lst 1 (r_2.2.Code.map enc_u8)), (.int .i64 r_2.2.At), (.int .i64 r_2.2.Seed)]), .dead]) [false, true] [0] (fun h => absurd (show false = true from h) (by decide)) (w_spec_l00Src_pick_h1 _ _ _ er3) rfl (.cons (.refl _) (.cons (.of_eq (congrArg (AV.lst _) (tko [[108, 111, 99, 107], [111, 116, 104, 101, 114], [116, 104, 105, 114, 100]]))) .nil)) (.refl _) rfl rfl) ?_; refine s_mov (.str r_2.1) rfl <| w_done <| ?_
 refine k_seq <| w_ret <| ?_; obtain rfl := os hf; exact r_heap [] [0] rfl ⟨trivial, trivial⟩ rfl (.refl _) (.refl _)

/- spec.LockNameOf -/
def c46 : ACode :=
 (.seq (.reg (tm 2 (.c (.str [])) .done))
 (.seq (.reg (tm 3 (.t 0) (tq 4 (.call 95 [(.t 3)]) (tq 5 (.call 122 [(.t 4)]) (tm 2 (.t 5) .done)))))
 .ret))
theorem fc46 : fcomp Try.prog Try.f46 = some (c46.erase, [.mov (.t 2)], 6) := by kernel_rfl
def spec_LockNameOf (code_1 : (List Int)) : Option Str :=
    (spec_l00Source_h1 code_1).bind fun r_2 =>
    (spec_l00Src_lockName_h1 r_2).bind fun r_4 =>
    some r_4.1
theorem w_spec_LockNameOf (code_1 : (List Int)) (r : Str) (hf : spec_LockNameOf code_1 = some r) : CallOK Try.prog 46 .flat [(.lst 1 (code_1.map enc_u8))] (.str r) := by
  refine CallOK.of_awp mixed Try.func46 fc46 nle ?_
  rw [argT_eq]
  unfold spec_LockNameOf at hf
  unfold c46
  refine (show awp Try.prog false 0 _ (ofL [(0, (.lst 1 (code_1.map enc_u8)))]) [] _ from ?_)
  refine awp_seq ?_
  refine w_reg ?_
  refine s_do (o_mov (.str []) rfl) ?_
  refine w_done ?_
  refine k_seq ?_
  refine awp_seq ?_
  refine w_reg ?_
  obtain ⟨r_2, er3, hf⟩ := ob hf
  obtain ⟨r_4, er5, hf⟩ := ob hf
  refine s_do (o_mov (.lst 1 (code_1.map enc_u8)) rfl) ?_
  refine s_do (o_callh (v := (.ptr 0 0 0)) (h2 := [.box 3 (.agg [(.lst 1 (r_2.Code.map enc_u8)), (.int .i64 r_2.At), (.int .i64 r_2.Seed)])]) [] [] (fun _ => rfl) (w_spec_l00Source_h1 _ _ er3) rfl (.refl _) (.refl _) rfl rfl) ?_
  refine s_do (o_callh (v := (.str r_4.1)) (h2 := [.box 3 (.agg [(.lst 1 (r_4.2.Code.map enc_u8)), (.int .i64 r_4.2.At), (.int .i64 r_4.2.Seed)])]) [] [0] (fun _ => rfl) (w_spec_l00Src_lockName_h1 _ _ er5) rfl (.refl _) (.refl _) rfl rfl) ?_
  refine s_do (o_mov (.str r_4.1) rfl) ?_
  refine w_done ?_
  refine k_seq ?_
  refine w_ret ?_
  obtain rfl := os hf
  exact r_flat ⟨trivial, trivial⟩ rfl (.refl _)

/- laws.at -/
def c26 : ACode :=
 (.seq (.reg (tm 6 (.c (.int .i64 0)) .done))
 (.seq (.seq (.reg (tm 7 (.t 2) (tq 8 (.bin .leq (.t 7) (.c (.int .i64 1))) .done)))
 (.cond (.t 8) (.seq (.reg (tm 6 (.c (.int .i64 0)) .done))
 .ret)
 .skip))
 (.seq (.seq (.reg (tm 9 (.t 0) (tq 10 (.len (.t 9)) (tq 11 (.bin .eql (.t 10) (.c (.int .i64 0))) .done))))
 (.cond (.t 11) (.seq (.reg (tm 12 (.t 1) (tq 13 (.bin .mul (.t 12) (.c (.int .i64 7))) (tm 14 (.t 2) (tq 15 (.bin .rem (.t 13) (.t 14)) (tm 6 (.t 15) .done))))))
 .ret)
 .skip))
 (.seq (.reg (tm 16 (.t 0) (tm 17 (.t 1) (tm 18 (.t 0) (tq 19 (.len (.t 18)) (tq 20 (.bin .rem (.t 17) (.t 19)) (tq 21 (.iaddr 1 (.t 16) (.t 20)) (tq 22 (.load 1 false (.t 21)) (tq 23 (.convI .i64 (.t 22)) (tq 24 (.bin .mul (.t 23) (.c (.int .i64 31))) (tm 25 (.t 0) (tm 26 (.t 1) (tq 27 (.bin .add (.t 26) (.c (.int .i64 1))) (tm 28 (.t 0) (tq 29 (.len (.t 28)) (tq 30 (.bin .rem (.t 27) (.t 29)) (tq 31 (.iaddr 1 (.t 25) (.t 30)) (tq 32 (.load 1 false (.t 31)) (tq 33 (.convI .i64 (.t 32)) (tq 34 (.bin .add (.t 24) (.t 33)) (tm 35 (.t 1) (tm 36 (.t 0) (tq 37 (.len (.t 36)) (tq 38 (.bin .quo (.t 35) (.t 37)) (tq 39 (.bin .add (.t 34) (.t 38)) (tm 40 (.t 2) (tq 41 (.bin .rem (.t 39) (.t 40)) (tm 6 (.t 41) .done))))))))))))))))))))))))))))
 .ret))))
theorem fc26 : fcomp Try.prog Try.f26 = some (c26.erase, [.mov (.t 6)], 42) := by kernel_rfl
def laws_at (more_1 : (List Int)) (i_2 : Int) (n_3 : Int) : Option Int :=
    if (decide (n_3 ≤ 1)) then
    some 0
    else
    if ((more_1.length : Int) == 0) then
    if n_3 ≠ 0 then
    some ((w64 (i_2 * 7)).tmod n_3)
    else none
    else
    if (more_1.length : Int) ≠ 0 then
    (idx more_1 (i_2.tmod (more_1.length : Int))).bind fun x_10 =>
    if (more_1.length : Int) ≠ 0 then
    (idx more_1 ((w64 (i_2 + 1)).tmod (more_1.length : Int))).bind fun x_14 =>
    if (more_1.length : Int) ≠ 0 then
    if n_3 ≠ 0 then
    some ((w64 ((w64 ((w64 ((w64 x_10) * 31)) + (w64 x_14))) + (w64 (i_2.tdiv (more_1.length : Int))))).tmod n_3)
    else none
    else none
    else none
    else none
theorem w_laws_at (more_1 : (List Int)) (i_2 : Int) (n_3 : Int) (r : Int) (hf : laws_at more_1 i_2 n_3 = some r) : CallOK Try.prog 26 .flat [(.lst 1 (more_1.map enc_u8)), (.int .i64 i_2), (.int .i64 n_3)] (.int .i64 r) := by
 refine CallOK.of_awp mixed Try.func26 fc26 nle ?_; rw [argT_eq]; unfold laws_at at hf; unfold c26; refine (show awp Try.prog false 0 _ (ofL [(0, (.lst 1 (more_1.map enc_u8))), (1, (.int .i64 i_2)), (2, (.int .i64 n_3))]) [] _ from ?_); refine awp_seq <| w_reg <| s_mov (.int .i64 0) rfl <| w_done <| k_seq <| awp_seq <| awp_seq <| w_reg <| s_mov (.int .i64 n_3) rfl <| s_q (.bool (decide (n_3 ≤ 1))) rfl rfl rfl <| w_done <| k_seq <| ?_
 rcases oi hf with ⟨c4, hf⟩ | ⟨c4, hf⟩
 ·refine w_condt rfl c4 <| awp_seq <| w_reg <| s_mov (.int .i64 0) rfl <| w_done <| k_seq <| w_ret <| ?_; obtain rfl := os hf; exact r_flat ⟨trivial, trivial⟩ rfl (.refl _)
 ·refine w_condf rfl (bf c4) <| w_skip <| k_seq <| awp_seq <| awp_seq <| w_reg <| s_mov (.lst 1 (more_1.map enc_u8)) rfl <| s_dof (o_len (enc := enc_u8) rfl) fun hl5 => s_q (.bool ((more_1.length : Int) == 0)) rfl rfl rfl <| w_done <| k_seq <| ?_
  rcases oi hf with ⟨c6, hf⟩ | ⟨c6, hf⟩
  ·refine w_condt rfl c6 <| awp_seq <| w_reg <| ?_
   obtain ⟨g7, hf⟩ := og hf
   refine s_mov (.int .i64 i_2) rfl <| s_q (.int .i64 (w64 (i_2 * 7))) rfl rfl rfl <| s_mov (.int .i64 n_3) rfl <| s_q (.int .i64 ((w64 (i_2 * 7)).tmod n_3)) rfl ⟨rfl, g7⟩ rfl <| s_mov (.int .i64 ((w64 (i_2 * 7)).tmod n_3)) rfl <| w_done <| k_seq <| w_ret <| ?_; obtain rfl := os hf; exact r_flat ⟨trivial, trivial⟩ rfl (.refl _)
  ·refine w_condf rfl (bf c6) <| w_skip <| k_seq <| awp_seq <| w_reg <| s_mov (.lst 1 (more_1.map enc_u8)) rfl <| s_mov (.int .i64 i_2) rfl <| s_mov (.lst 1 (more_1.map enc_u8)) rfl <| s_dof (o_len (enc := enc_u8) rfl) fun hl8 => ?_
   obtain ⟨g9, hf⟩ := og hf
   refine s_q (.int .i64 (i_2.tmod (more_1.length : Int))) rfl ⟨rfl, g9⟩ rfl ?_
   obtain ⟨x_10, ex11, hf⟩ := ob hf
   refine s_do (o_iaddr (enc := enc_u8) rfl rfl (idx0 ex11) (idx1 ex11)) <| s_q (.int .u8 x_10) rfl ⟨rfl, rfl⟩ rfl <| s_q (.int .i64 (w64 x_10)) rfl trivial rfl <| s_q (.int .i64 (w64 ((w64 x_10) * 31))) rfl rfl rfl <| s_mov (.lst 1 (more_1.map enc_u8)) rfl <| s_mov (.int .i64 i_2) rfl <| s_q (.int .i64 (w64 (i_2 + 1))) rfl rfl rfl <| s_mov (.lst 1 (more_1.map enc_u8)) rfl <| s_dof (o_len (enc := enc_u8) rfl) fun hl12 => ?_
   obtain ⟨g13, hf⟩ := og hf
   refine s_q (.int .i64 ((w64 (i_2 + 1)).tmod (more_1.length : Int))) rfl ⟨rfl, g13⟩ rfl ?_
   obtain ⟨x_14, ex15, hf⟩ := ob hf
   refine s_do (o_iaddr (enc := enc_u8) rfl rfl (idx0 ex15) (idx1 ex15)) <| s_q (.int .u8 x_14) rfl ⟨rfl, rfl⟩ rfl <| s_q (.int .i64 (w64 x_14)) rfl trivial rfl <| s_q (.int .i64 (w64 ((w64 ((w64 x_10) * 31)) + (w64 x_14)))) rfl rfl rfl <| s_mov (.int .i64 i_2) rfl <| s_mov (.lst 1 (more_1.map enc_u8)) rfl <| s_dof (o_len (enc := enc_u8) rfl) fun hl16 => ?_
   obtain ⟨g17, hf⟩ := og hf
   refine s_q (.int .i64 (w64 (i_2.tdiv (more_1.length : Int)))) rfl ⟨rfl, g17⟩ rfl <| s_q (.int .i64 (w64 ((w64 ((w64 ((w64 x_10) * 31)) + (w64 x_14))) + (w64 (i_2.tdiv (more_1.length : Int)))))) rfl rfl rfl <| s_mov (.int .i64 n_3) rfl <| ?_
   obtain ⟨g18, hf⟩ := og hf
   refine s_q (.int .i64 ((w64 ((w64 ((w64 ((w64 x_10) * 31)) + (w64 x_14))) + (w64 (i_2.tdiv (more_1.length : Int))))).tmod n_3)) rfl ⟨rfl, g18⟩ rfl <| s_mov (.int .i64 ((w64 ((w64 ((w64 ((w64 x_10) * 31)) + (w64 x_14))) + (w64 (i_2.tdiv (more_1.length : Int))))).tmod n_3)) rfl <| w_done <| k_seq <| w_ret <| ?_; obtain rfl := os hf; exact r_flat ⟨trivial, trivial⟩ rfl (.refl _)

/- impl.isList[impl.Lock] -/
def c197 : ACode :=
 (.seq (.reg (tm 2 (.c (.bool false)) .done))
 (.seq (.reg (tm 3 (.t 0) (tq 4 (.len (.t 3)) (tq 5 (.bin .leq (.t 4) (.c (.int .i64 4096))) (tm 2 (.t 5) .done)))))
 .ret))
theorem fc197 : fcomp Try.prog Try.f197 = some (c197.erase, [.mov (.t 2)], 6) := by kernel_rfl
def impl_isList_impl_Lock (list_1 : (List GLock)) : Option Bool :=
    some (decide ((list_1.length : Int) ≤ 4096))
theorem w_impl_isList_impl_Lock (list_1 : (List GLock)) (r : Bool) (hf : impl_isList_impl_Lock list_1 = some r) : CallOK Try.prog 197 .flat [(.lst 2 (list_1.map encGLock))] (.bool r) := by
  refine CallOK.of_awp mixed Try.func197 fc197 nle ?_
  rw [argT_eq]
  unfold impl_isList_impl_Lock at hf
  unfold c197
  refine (show awp Try.prog false 0 _ (ofL [(0, (.lst 2 (list_1.map encGLock)))]) [] _ from ?_)
  refine awp_seq ?_
  refine w_reg ?_
  refine s_do (o_mov (.bool false) rfl) ?_
  refine w_done ?_
  refine k_seq ?_
  refine awp_seq ?_
  refine w_reg ?_
  refine s_do (o_mov (.lst 2 (list_1.map encGLock)) rfl) ?_
  refine s_dof (o_len (enc := encGLock) rfl) fun hl2 => ?_
  refine s_do (o_q (.bool (decide ((list_1.length : Int) ≤ 4096))) rfl rfl rfl) ?_
  refine s_do (o_mov (.bool (decide ((list_1.length : Int) ≤ 4096))) rfl) ?_
  refine w_done ?_
  refine k_seq ?_
  refine w_ret ?_
  obtain rfl := os hf
  exact r_flat ⟨trivial, trivial⟩ rfl (.refl _)

/- impl.isText -/
def c198 : ACode :=
 (.seq (.reg (tm 2 (.c (.bool false)) .done))
 (.seq (.reg (tm 3 (.t 0) (tq 4 (.lenS (.t 3)) (tq 5 (.bin .leq (.t 4) (.c (.int .i64 65536))) (tm 2 (.t 5) .done)))))
 .ret))
theorem fc198 : fcomp Try.prog Try.f198 = some (c198.erase, [.mov (.t 2)], 6) := by kernel_rfl
def impl_isText (t_1 : Str) : Option Bool :=
    some (decide ((t_1.length : Int) ≤ 65536))
theorem w_impl_isText (t_1 : Str) (r : Bool) (hf : impl_isText t_1 = some r) : CallOK Try.prog 198 .flat [(.str t_1)] (.bool r) := by
  refine CallOK.of_awp mixed Try.func198 fc198 nle ?_
  rw [argT_eq]
  unfold impl_isText at hf
  unfold c198
  refine (show awp Try.prog false 0 _ (ofL [(0, (.str t_1))]) [] _ from ?_)
  refine awp_seq ?_
  refine w_reg ?_
  refine s_do (o_mov (.bool false) rfl) ?_
  refine w_done ?_
  refine k_seq ?_
  refine awp_seq ?_
  refine w_reg ?_
  refine s_do (o_mov (.str t_1) rfl) ?_
  refine s_dof (o_lenS rfl) fun hl2 => ?_
  refine s_do (o_q (.bool (decide ((t_1.length : Int) ≤ 65536))) rfl rfl rfl) ?_
  refine s_do (o_mov (.bool (decide ((t_1.length : Int) ≤ 65536))) rfl) ?_
  refine w_done ?_
  refine k_seq ?_
  refine w_ret ?_
  obtain rfl := os hf
  exact r_flat ⟨trivial, trivial⟩ rfl (.refl _)

/- impl.isDigit -/
def c192 : ACode :=
 (.seq (.reg (tm 2 (.c (.bool false)) .done))
 (.seq (.reg (tm 3 (.t 0) (tq 4 (.bin .geq (.t 3) (.c (.int .u8 48))) (tm 5 (.t 4) (tg 6 5 true (.mov (.t 0)) (tg 7 5 true (.bin .leq (.t 6) (.c (.int .u8 57))) (tq 8 (.pick (.t 5) (.t 7) (.c (.bool false))) (tm 2 (.t 8) .done))))))))
 .ret))
theorem fc192 : fcomp Try.prog Try.f192 = some (c192.erase, [.mov (.t 2)], 9) := by kernel_rfl
def impl_isDigit (b_1 : Int) : Option Bool :=
    if (decide (b_1 ≥ 48)) then
    some (decide (b_1 ≤ 57))
    else
    some false
theorem w_impl_isDigit (b_1 : Int) (r : Bool) (hf : impl_isDigit b_1 = some r) : CallOK Try.prog 192 .flat [(.int .u8 b_1)] (.bool r) := by
 refine CallOK.of_awp mixed Try.func192 fc192 nle ?_; rw [argT_eq]; unfold impl_isDigit at hf; unfold c192; refine (show awp Try.prog false 0 _ (ofL [(0, (.int .u8 b_1))]) [] _ from ?_); refine awp_seq <| w_reg <| s_mov (.bool false) rfl <| w_done <| k_seq <| awp_seq <| w_reg <| ?_
 rcases oi hf with ⟨c2, hf⟩ | ⟨c2, hf⟩
 ·refine s_mov (.int .u8 b_1) rfl <| s_q (.bool (decide (b_1 ≥ 48))) rfl rfl rfl <| s_mov (.bool (decide (b_1 ≥ 48))) rfl <| s_lit (s := 5) (b := true) rfl c2 <| s_on rfl <| s_mov (.int .u8 b_1) rfl <| s_on rfl <| s_q (.bool (decide (b_1 ≤ 57))) rfl rfl rfl <| s_q (.bool (decide (b_1 ≤ 57))) rfl trivial rfl <| s_mov (.bool (decide (b_1 ≤ 57))) rfl <| w_done <| k_seq <| w_ret <| ?_; obtain rfl := os hf; exact r_flat ⟨trivial, trivial⟩ rfl (.refl _)
 ·refine s_mov (.int .u8 b_1) rfl <| s_q (.bool (decide (b_1 ≥ 48))) rfl rfl rfl <| s_mov (.bool (decide (b_1 ≥ 48))) rfl <| s_lit (s := 5) (b := false) rfl (bf c2) <| s_off rfl rfl <| s_off rfl rfl <| s_q (.bool false) rfl trivial rfl <| s_mov (.bool false) rfl <| w_done <| k_seq <| w_ret <| ?_; obtain rfl := os hf; exact r_flat ⟨trivial, trivial⟩ rfl (.refl _)

/- impl.within -/
def c106 : ACode :=
 (.seq (.reg (tm 6 (.c (.bool false)) .done))
 (.seq (.reg (tm 7 (.t 0) (tm 8 (.t 1) (tq 9 (.bin .geq (.t 7) (.t 8)) (tm 10 (.t 9) (tg 11 10 true (.mov (.t 0)) (tg 12 10 true (.mov (.t 2)) (tg 13 10 true (.bin .leq (.t 11) (.t 12)) (tq 14 (.pick (.t 10) (.t 13) (.c (.bool false))) (tm 6 (.t 14) .done))))))))))
 .ret))
theorem fc106 : fcomp Try.prog Try.f106 = some (c106.erase, [.mov (.t 6)], 15) := by kernel_rfl
def impl_within (n_1 : Int) (low_2 : Int) (high_3 : Int) : Option Bool :=
    if (decide (n_1 ≥ low_2)) then
    some (decide (n_1 ≤ high_3))
    else
    some false
theorem w_impl_within (n_1 : Int) (low_2 : Int) (high_3 : Int) (r : Bool) (hf : impl_within n_1 low_2 high_3 = some r) : CallOK Try.prog 106 .flat [(.int .i64 n_1), (.int .i64 low_2), (.int .i64 high_3)] (.bool r) := by
 refine CallOK.of_awp mixed Try.func106 fc106 nle ?_; rw [argT_eq]; unfold impl_within at hf; unfold c106; refine (show awp Try.prog false 0 _ (ofL [(0, (.int .i64 n_1)), (1, (.int .i64 low_2)), (2, (.int .i64 high_3))]) [] _ from ?_); refine awp_seq <| w_reg <| s_mov (.bool false) rfl <| w_done <| k_seq <| awp_seq <| w_reg <| ?_
 rcases oi hf with ⟨c4, hf⟩ | ⟨c4, hf⟩
 ·refine s_mov (.int .i64 n_1) rfl <| s_mov (.int .i64 low_2) rfl <| s_q (.bool (decide (n_1 ≥ low_2))) rfl rfl rfl <| s_mov (.bool (decide (n_1 ≥ low_2))) rfl <| s_lit (s := 10) (b := true) rfl c4 <| s_on rfl <| s_mov (.int .i64 n_1) rfl <| s_on rfl <| s_mov (.int .i64 high_3) rfl <| s_on rfl <| s_q (.bool (decide (n_1 ≤ high_3))) rfl rfl rfl <| s_q (.bool (decide (n_1 ≤ high_3))) rfl trivial rfl <| s_mov (.bool (decide (n_1 ≤ high_3))) rfl <| w_done <| k_seq <| w_ret <| ?_; obtain rfl := os hf; exact r_flat ⟨trivial, trivial⟩ rfl (.refl _)
 ·refine s_mov (.int .i64 n_1) rfl <| s_mov (.int .i64 low_2) rfl <| s_q (.bool (decide (n_1 ≥ low_2))) rfl rfl rfl <| s_mov (.bool (decide (n_1 ≥ low_2))) rfl <| s_lit (s := 10) (b := false) rfl (bf c4) <| s_off rfl rfl <| s_off rfl rfl <| s_off rfl rfl <| s_q (.bool false) rfl trivial rfl <| s_mov (.bool false) rfl <| w_done <| k_seq <| w_ret <| ?_; obtain rfl := os hf; exact r_flat ⟨trivial, trivial⟩ rfl (.refl _)

/- impl.NameOK -/
def c105 : ACode :=
 (.seq (.reg (tm 2 (.c (.bool false)) .done))
 (.seq (.seq (.reg (tm 6 (.t 0) (tq 7 (.lenS (.t 6)) (tm 8 (.c (.int .i64 0)) .done))))
 (.block 0 (.loop (.seq (.reg (tq 9 (.bin .lss (.t 8) (.t 7)) .done))
 (.seq (.cond (.t 9) .skip
 (.exit 0))
 (.seq (.block 1 (.seq (.reg (tm 10 (.t 8) (tm 3 (.t 10) .done)))
 (.seq (.reg (tm 11 (.t 0) (tm 12 (.t 3) (tq 13 (.idxs (.t 11) (.t 12)) (tm 4 (.t 13) .done)))))
 (.seq (.reg (tm 14 (.t 4) (tq 15 (.bin .geq (.t 14) (.c (.int .u8 97))) (tm 16 (.t 15) (tg 17 16 true (.mov (.t 4)) (tg 18 16 true (.bin .leq (.t 17) (.c (.int .u8 122))) (tq 19 (.pick (.t 16) (.t 18) (.c (.bool false))) (tm 20 (.t 19) (tg 21 20 false (.mov (.t 4)) (tg 22 20 false (.bin .geq (.t 21) (.c (.int .u8 65))) (tg 23 20 false (.mov (.t 22)) (tg 24 23 true (.mov (.t 4)) (tg 25 23 true (.bin .leq (.t 24) (.c (.int .u8 90))) (tg 26 20 false (.pick (.t 23) (.t 25) (.c (.bool false))) (tq 27 (.pick (.t 20) (.c (.bool true)) (.t 26)) (tm 28 (.t 27) (tg 29 28 false (.mov (.t 4)) (tg 30 28 false (.bin .eql (.t 29) (.c (.int .u8 95))) (tq 31 (.pick (.t 28) (.c (.bool true)) (.t 30)) (tm 5 (.t 31) .done))))))))))))))))))))
 (.cut (.seq (.reg (tm 32 (.t 5) (tq 33 (.not (.t 32)) (tm 34 (.t 33) (tg 35 34 true (.mov (.t 3)) (tg 36 34 true (.bin .eql (.t 35) (.c (.int .i64 0))) (tg 37 34 true (.mov (.t 36)) (tg 38 37 false (.mov (.t 4)) (tg 39 37 false (.call 192 [(.t 38)]) (tg 40 37 false (.not (.t 39)) (tg 41 34 true (.pick (.t 37) (.c (.bool true)) (.t 40)) (tq 42 (.pick (.t 34) (.t 41) (.c (.bool false))) .done))))))))))))
 (.cut (.cond (.t 42) (.seq (.reg (tm 2 (.c (.bool false)) .done))
 .ret)
 .skip))))))))
 (.reg (tq 43 (.bin .add (.t 8) (.c (.int .i64 1))) (tm 8 (.t 43) .done)))))))))
 (.cut (.seq (.reg (tm 44 (.t 0) (tq 45 (.lenS (.t 44)) (tq 46 (.call 106 [(.t 45), (.c (.int .i64 1)), (.c (.int .i64 40))]) (tm 2 (.t 46) .done)))))
 .ret))))
theorem fc105 : fcomp Try.prog Try.f105 = some (c105.erase, [.mov (.t 2)], 47) := by kernel_rfl
def impl_NameOK_L1  : List UInt8 → Nat → Option (Fl Bool Unit)
  | [], s8_34 =>
    some (.go ())
  | x_57 :: xs, s8_34 =>
    ((some () : Option Unit)).bind fun _ =>
    ((if (!(bif (bif (bif (decide ((x_57.toNat : Int) ≥ 97)) then (decide ((x_57.toNat : Int) ≤ 122)) else false) then true else (bif (decide ((x_57.toNat : Int) ≥ 65)) then (decide ((x_57.toNat : Int) ≤ 90)) else false)) then true else ((x_57.toNat : Int) == 95))) then
    if ((s8_34 : Int) == 0) then
    some true
    else
    (impl_isDigit (x_57.toNat : Int)).bind fun r_67 =>
    some (!r_67)
    else
    some false : Option Bool)).bind fun s42_63 =>
    if s42_63 then
    some (.ret false)
    else
    impl_NameOK_L1 xs (s8_34 + 1)

def impl_NameOK (t_1 : Str) : Option Bool :=
    (impl_NameOK_L1 t_1 0).bind fun q => (match q with
    | .ret r => some r
    | .go _ =>
    (impl_within (t_1.length : Int) 1 40).bind fun r_71 =>
    some r_71)
theorem w_impl_NameOK (t_1 : Str) (r : Bool) (hf : impl_NameOK t_1 = some r) : CallOK Try.prog 105 .flat [(.str t_1)] (.bool r) := by
 refine CallOK.of_awp mixed Try.func105 fc105 nle ?_; rw [argT_eq]; unfold impl_NameOK at hf; unfold c105; refine (show awp Try.prog false 0 _ (ofL [(0, (.str t_1))]) [] _ from ?_); refine awp_seq <| w_reg <| s_mov (.bool false) rfl <| w_done <| k_seq <| awp_seq <| awp_seq <| w_reg <| s_mov (.str t_1) rfl <| s_dof (o_lenS rfl) fun hl2 => s_mov (.int .i64 0) rfl <| w_done <| k_seq <| ?_
 obtain ⟨p50, hb1, hf⟩ := ob hf
 refine awp_cutx (X := {q : Unit // p50 = .go q}) (fun q => ([(0, (.str t_1))], [])) ?_ ?_
 ·refine awp_loop (X := {q : Nat // impl_NameOK_L1 (t_1.drop q) q = some p50}) (fun q => ([(0, (.str t_1)), (7, (.int .i64 (t_1.length : Int))), (8, (.int .i64 (q.1 : Int)))], [])) (fun q => t_1.length - q.1) ⟨0, hb1⟩ ⟨[], [], _, _, rfl, rfl, ⟨.refl _, ⟨.refl _, ⟨.refl _, trivial⟩⟩⟩, (.refl _)⟩ ?_
  rintro ⟨s8_34, hc1⟩
  have hc1 : impl_NameOK_L1 (t_1.drop s8_34) s8_34 = some p50 := hc1
  refine (show awp Try.prog false 0 _ (ofL [(0, (.str t_1)), (7, (.int .i64 (t_1.length : Int))), (8, (.int .i64 (s8_34 : Int)))]) [] _ from ?_)
  rcases dropc t_1 s8_34 with ⟨hie53, hd56⟩ | ⟨hlt51, x_57, hx52, hd56⟩
  ·rw [hd56, impl_NameOK_L1.eq_1] at hc1
   have hq55 := dlf hie53
   refine awp_seq <| w_reg <| s_q (.bool (decide ((s8_34 : Int) < (t_1.length : Int)))) rfl rfl rfl <| w_done <| k_seq <| awp_seq <| w_condf rfl hq55 <| w_exit <| k_seqx <| k_loopx <| k_blkx <| ?_; obtain rfl := os hc1; exact k_cutn ⟨_, rfl⟩ ⟨[], [], _, _, rfl, rfl, ⟨.refl _, trivial⟩, (.refl _)⟩
  ·rw [hd56, impl_NameOK_L1.eq_2] at hc1
   have hq55 := dlt hlt51
   refine awp_seq <| w_reg <| s_q (.bool (decide ((s8_34 : Int) < (t_1.length : Int)))) rfl rfl rfl <| w_done <| k_seq <| awp_seq <| w_condt rfl hq55 <| w_skip <| k_seq <| awp_seq <| w_blk <| awp_seq <| w_reg <| s_mov (.int .i64 (s8_34 : Int)) rfl <| s_mov (.int .i64 (s8_34 : Int)) rfl <| w_done <| k_seq <| awp_seq <| w_reg <| s_mov (.str t_1) rfl <| s_mov (.int .i64 (s8_34 : Int)) rfl <| s_do (o_idxsn rfl rfl hx52) <| s_mov (.int .u8 (x_57.toNat : Int)) rfl <| w_done <| k_seq <| awp_seq <| ?_
   obtain ⟨p58, hb2, hc1⟩ := ob hc1
   refine awp_cut ([(0, (.str t_1)), (3, (.int .i64 (s8_34 : Int))), (4, (.int .u8 (x_57.toNat : Int))), (5, (.bool (bif (bif (bif (decide ((x_57.toNat : Int) ≥ 97)) then (decide ((x_57.toNat : Int) ≤ 122)) else false) then true else (bif (decide ((x_57.toNat : Int) ≥ 65)) then (decide ((x_57.toNat : Int) ≤ 90)) else false)) then true else ((x_57.toNat : Int) == 95)))), (7, (.int .i64 (t_1.length : Int))), (8, (.int .i64 (s8_34 : Int)))], []) ?_ ?_
   ·refine w_reg <| s_mov (.int .u8 (x_57.toNat : Int)) rfl <| s_q (.bool (decide ((x_57.toNat : Int) ≥ 97))) rfl rfl rfl <| s_mov (.bool (decide ((x_57.toNat : Int) ≥ 97))) rfl <| ?_; refine s_g (v := (decide ((x_57.toNat : Int) ≥ 97))) (.int .u8 (x_57.toNat : Int)) rfl (fun hv => by (try simp only [gs_on hv]); exact ⟨rfl, trivial, rfl⟩) ?_; refine s_g (v := (decide ((x_57.toNat : Int) ≥ 97))) (.bool (decide ((x_57.toNat : Int) ≤ 122))) rfl (fun hv => by (try simp only [gs_on hv]); exact ⟨rfl, rfl, rfl⟩) ?_; refine s_pick (x := (decide ((x_57.toNat : Int) ≤ 122))) (y := false) rfl (fun hv => by (try simp only [gs_on hv]); rfl) (fun hv => by (try simp only [gs_on hv]); rfl) ?_; refine s_mov (.bool (bif (decide ((x_57.toNat : Int) ≥ 97)) then (decide ((x_57.toNat : Int) ≤ 122)) else false)) rfl ?_
    refine s_g (v := (bif (decide ((x_57.toNat : Int) ≥ 97)) then (decide ((x_57.toNat : Int) ≤ 122)) else false)) (.int .u8 (x_57.toNat : Int)) rfl (fun hv => by (try simp only [gs_on hv]); exact ⟨rfl, trivial, rfl⟩) ?_; refine s_g (v := (bif (decide ((x_57.toNat : Int) ≥ 97)) then (decide ((x_57.toNat : Int) ≤ 122)) else false)) (.bool (decide ((x_57.toNat : Int) ≥ 65))) rfl (fun hv => by (try simp only [gs_on hv]); exact ⟨rfl, rfl, rfl⟩) ?_; refine s_g (v := (bif (decide ((x_57.toNat : Int) ≥ 97)) then (decide ((x_57.toNat : Int) ≤ 122)) else false)) (.bool (decide ((x_57.toNat : Int) ≥ 65))) rfl (fun hv => by (try simp only [gs_on hv]); exact ⟨rfl, trivial, rfl⟩) ?_; refine s_gg (v1 := (bif (decide ((x_57.toNat : Int) ≥ 97)) then (decide ((x_57.toNat : Int) ≤ 122)) else false)) (b1 := false) (v2 := (decide ((x_57.toNat : Int) ≥ 65))) (.int .u8 (x_57.toNat : Int)) rfl (fun hv hw => by (try simp only [gs_on hv, gs_on hw]); exact ⟨rfl, trivial, rfl⟩) ?_
    refine s_gg (v1 := (bif (decide ((x_57.toNat : Int) ≥ 97)) then (decide ((x_57.toNat : Int) ≤ 122)) else false)) (b1 := false) (v2 := (decide ((x_57.toNat : Int) ≥ 65))) (.bool (decide ((x_57.toNat : Int) ≤ 90))) rfl (fun hv hw => by (try simp only [gs_on hv, gs_on hw]); exact ⟨rfl, rfl, rfl⟩) ?_; refine s_gp (v1 := (bif (decide ((x_57.toNat : Int) ≥ 97)) then (decide ((x_57.toNat : Int) ≤ 122)) else false)) (b1 := false) (v2 := (decide ((x_57.toNat : Int) ≥ 65))) (x := (decide ((x_57.toNat : Int) ≤ 90))) (y := false) rfl (fun hv => by (try simp only [gs_on hv]); rfl) (fun hv hw => by (try simp only [gs_on hv, gs_on hw]); rfl) (fun hv hw => by (try simp only [gs_on hv, gs_on hw]); rfl) ?_; refine s_pick (x := true) (y := (bif (decide ((x_57.toNat : Int) ≥ 65)) then (decide ((x_57.toNat : Int) ≤ 90)) else false)) rfl (fun hv => by (try simp only [gs_on hv]); rfl) (fun hv => by (try simp only [gs_on hv]); rfl) ?_
    refine s_mov (.bool (bif (bif (decide ((x_57.toNat : Int) ≥ 97)) then (decide ((x_57.toNat : Int) ≤ 122)) else false) then true else (bif (decide ((x_57.toNat : Int) ≥ 65)) then (decide ((x_57.toNat : Int) ≤ 90)) else false))) rfl ?_; refine s_g (v := (bif (bif (decide ((x_57.toNat : Int) ≥ 97)) then (decide ((x_57.toNat : Int) ≤ 122)) else false) then true else (bif (decide ((x_57.toNat : Int) ≥ 65)) then (decide ((x_57.toNat : Int) ≤ 90)) else false))) (.int .u8 (x_57.toNat : Int)) rfl (fun hv => by (try simp only [gs_on hv]); exact ⟨rfl, trivial, rfl⟩) ?_; refine s_g (v := (bif (bif (decide ((x_57.toNat : Int) ≥ 97)) then (decide ((x_57.toNat : Int) ≤ 122)) else false) then true else (bif (decide ((x_57.toNat : Int) ≥ 65)) then (decide ((x_57.toNat : Int) ≤ 90)) else false))) (.bool ((x_57.toNat : Int) == 95)) rfl (fun hv => by (try simp only [gs_on hv]); exact ⟨rfl, rfl, rfl⟩) ?_
    refine s_pick (x := true) (y := ((x_57.toNat : Int) == 95)) rfl (fun hv => by (try simp only [gs_on hv]); rfl) (fun hv => by (try simp only [gs_on hv]); rfl) ?_; refine s_mov (.bool (bif (bif (bif (decide ((x_57.toNat : Int) ≥ 97)) then (decide ((x_57.toNat : Int) ≤ 122)) else false) then true else (bif (decide ((x_57.toNat : Int) ≥ 65)) then (decide ((x_57.toNat : Int) ≤ 90)) else false)) then true else ((x_57.toNat : Int) == 95))) rfl <| w_done <| ?_; obtain rfl := os hb2; exact ⟨[], [], _, _, rfl, rfl, ⟨.refl _, ⟨.refl _, ⟨.refl _, ⟨.refl _, ⟨.refl _, ⟨.refl _, trivial⟩⟩⟩⟩⟩⟩, (.refl _)⟩
   ·refine awp_seq ?_
    obtain ⟨s42_63, hb2, hc1⟩ := ob hc1
    refine awp_cut ([(0, (.str t_1)), (7, (.int .i64 (t_1.length : Int))), (8, (.int .i64 (s8_34 : Int))), (42, (.bool s42_63))], []) ?_ ?_
    ·refine w_reg ?_
     rcases oi hb2 with ⟨c65, hb2⟩ | ⟨c65, hb2⟩
     ·rcases oi hb2 with ⟨c66, hb2⟩ | ⟨c66, hb2⟩
      ·refine s_mov (.bool (bif (bif (bif (decide ((x_57.toNat : Int) ≥ 97)) then (decide ((x_57.toNat : Int) ≤ 122)) else false) then true else (bif (decide ((x_57.toNat : Int) ≥ 65)) then (decide ((x_57.toNat : Int) ≤ 90)) else false)) then true else ((x_57.toNat : Int) == 95))) rfl <| s_q (.bool (!(bif (bif (bif (decide ((x_57.toNat : Int) ≥ 97)) then (decide ((x_57.toNat : Int) ≤ 122)) else false) then true else (bif (decide ((x_57.toNat : Int) ≥ 65)) then (decide ((x_57.toNat : Int) ≤ 90)) else false)) then true else ((x_57.toNat : Int) == 95)))) rfl trivial rfl <| s_mov (.bool (!(bif (bif (bif (decide ((x_57.toNat : Int) ≥ 97)) then (decide ((x_57.toNat : Int) ≤ 122)) else false) then true else (bif (decide ((x_57.toNat : Int) ≥ 65)) then (decide ((x_57.toNat : Int) ≤ 90)) else false)) then true else ((x_57.toNat : Int) == 95)))) rfl <| ?_
       refine s_lit (s := 34) (b := true) rfl c65 <| s_on rfl <| s_mov (.int .i64 (s8_34 : Int)) rfl <| s_on rfl <| s_q (.bool ((s8_34 : Int) == 0)) rfl rfl rfl <| s_on rfl <| s_mov (.bool ((s8_34 : Int) == 0)) rfl <| s_lit (s := 37) (b := true) rfl c66 <| s_off rfl rfl <| s_off rfl rfl <| s_off rfl rfl <| s_on rfl <| s_q (.bool true) rfl trivial rfl <| s_q (.bool true) rfl trivial rfl <| w_done <| ?_; obtain rfl := os hb2; exact ⟨[], [], _, _, rfl, rfl, ⟨.refl _, ⟨.refl _, ⟨.refl _, ⟨.refl _, trivial⟩⟩⟩⟩, (.refl _)⟩
      ·obtain ⟨r_67, er68, hb2⟩ := ob hb2
       refine s_mov (.bool (bif (bif (bif (decide ((x_57.toNat : Int) ≥ 97)) then (decide ((x_57.toNat : Int) ≤ 122)) else false) then true else (bif (decide ((x_57.toNat : Int) ≥ 65)) then (decide ((x_57.toNat : Int) ≤ 90)) else false)) then true else ((x_57.toNat : Int) == 95))) rfl <| s_q (.bool (!(bif (bif (bif (decide ((x_57.toNat : Int) ≥ 97)) then (decide ((x_57.toNat : Int) ≤ 122)) else false) then true else (bif (decide ((x_57.toNat : Int) ≥ 65)) then (decide ((x_57.toNat : Int) ≤ 90)) else false)) then true else ((x_57.toNat : Int) == 95)))) rfl trivial rfl <| s_mov (.bool (!(bif (bif (bif (decide ((x_57.toNat : Int) ≥ 97)) then (decide ((x_57.toNat : Int) ≤ 122)) else false) then true else (bif (decide ((x_57.toNat : Int) ≥ 65)) then (decide ((x_57.toNat : Int) ≤ 90)) else false)) then true else ((x_57.toNat : Int) == 95)))) rfl <| ?_
       refine s_lit (s := 34) (b := true) rfl c65 <| s_on rfl <| s_mov (.int .i64 (s8_34 : Int)) rfl <| s_on rfl <| s_q (.bool ((s8_34 : Int) == 0)) rfl rfl rfl <| s_on rfl <| s_mov (.bool ((s8_34 : Int) == 0)) rfl <| s_lit (s := 37) (b := false) rfl (bf c66) <| s_on rfl <| s_mov (.int .u8 (x_57.toNat : Int)) rfl <| s_on rfl <| s_do (o_call (w_impl_isDigit _ _ er68) rfl (.refl _) rfl) <| s_on rfl <| s_q (.bool (!r_67)) rfl trivial rfl <| s_on rfl <| s_q (.bool (!r_67)) rfl trivial rfl <| s_q (.bool (!r_67)) rfl trivial rfl <| w_done <| ?_; obtain rfl := os hb2; exact ⟨[], [], _, _, rfl, rfl, ⟨.refl _, ⟨.refl _, ⟨.refl _, ⟨.refl _, trivial⟩⟩⟩⟩, (.refl _)⟩
     ·refine s_mov (.bool (bif (bif (bif (decide ((x_57.toNat : Int) ≥ 97)) then (decide ((x_57.toNat : Int) ≤ 122)) else false) then true else (bif (decide ((x_57.toNat : Int) ≥ 65)) then (decide ((x_57.toNat : Int) ≤ 90)) else false)) then true else ((x_57.toNat : Int) == 95))) rfl <| s_q (.bool (!(bif (bif (bif (decide ((x_57.toNat : Int) ≥ 97)) then (decide ((x_57.toNat : Int) ≤ 122)) else false) then true else (bif (decide ((x_57.toNat : Int) ≥ 65)) then (decide ((x_57.toNat : Int) ≤ 90)) else false)) then true else ((x_57.toNat : Int) == 95)))) rfl trivial rfl <| s_mov (.bool (!(bif (bif (bif (decide ((x_57.toNat : Int) ≥ 97)) then (decide ((x_57.toNat : Int) ≤ 122)) else false) then true else (bif (decide ((x_57.toNat : Int) ≥ 65)) then (decide ((x_57.toNat : Int) ≤ 90)) else false)) then true else ((x_57.toNat : Int) == 95)))) rfl <| ?_
      refine s_lit (s := 34) (b := false) rfl (bf c65) <| s_off rfl rfl <| s_off rfl rfl <| s_off rfl rfl <| s_offs rfl <| s_offs rfl <| s_offs rfl <| s_off rfl rfl <| s_q (.bool false) rfl trivial rfl <| w_done <| ?_; obtain rfl := os hb2; exact ⟨[], [], _, _, rfl, rfl, ⟨.refl _, ⟨.refl _, ⟨.refl _, ⟨.refl _, trivial⟩⟩⟩⟩, (.refl _)⟩
    ·rcases oi hc1 with ⟨c69, hc1⟩ | ⟨c69, hc1⟩
     ·refine w_condt rfl c69 <| awp_seq <| w_reg <| s_mov (.bool false) rfl <| w_done <| k_seq <| w_ret <| ?_; obtain rfl := os hc1; obtain rfl := os hf; exact r_flat ⟨trivial, trivial⟩ rfl (.refl _)
     ·refine w_condf rfl (bf c69) <| w_skip <| k_blk <| k_seq <| w_reg <| s_q (.int .i64 (w64 ((s8_34 : Int) + 1))) rfl rfl rfl <| s_mov (.int .i64 (w64 ((s8_34 : Int) + 1))) rfl <| w_done <| ?_; exact k_loopn ⟨(s8_34 + 1), hc1⟩ (mul hlt51) ⟨[], [], _, _, rfl, rfl, ⟨.refl _, ⟨.refl _, ⟨.of_eq (congrArg (AV.int _) (w64_incr hlt51 hl2)), trivial⟩⟩⟩, (.refl _)⟩
 ·rintro ⟨_, rfl⟩
  refine awp_seq <| w_reg <| ?_
  obtain ⟨r_71, er72, hf⟩ := ob hf
  refine s_mov (.str t_1) rfl <| s_dof (o_lenS rfl) fun hl70 => s_do (o_call (w_impl_within _ _ _ _ er72) rfl (.refl _) rfl) <| s_mov (.bool r_71) rfl <| w_done <| k_seq <| w_ret <| ?_; obtain rfl := os hf; exact r_flat ⟨trivial, trivial⟩ rfl (.refl _)

/- impl.isSession -/
def c107 : ACode :=
 (.seq (.reg (tm 2 (.c (.bool false)) .done))
 (.seq (.reg (tm 3 (.t 0) (tq 4 (.call 106 [(.t 3), (.c (.int .i64 0)), (.c (.int .i64 2))]) (tm 2 (.t 4) .done))))
 .ret))
theorem fc107 : fcomp Try.prog Try.f107 = some (c107.erase, [.mov (.t 2)], 5) := by kernel_rfl
def impl_isSession (n_1 : Int) : Option Bool :=
    (impl_within n_1 0 2).bind fun r_2 =>
    some r_2
theorem w_impl_isSession (n_1 : Int) (r : Bool) (hf : impl_isSession n_1 = some r) : CallOK Try.prog 107 .flat [(.int .i64 n_1)] (.bool r) := by
  refine CallOK.of_awp mixed Try.func107 fc107 nle ?_
  rw [argT_eq]
  unfold impl_isSession at hf
  unfold c107
  refine (show awp Try.prog false 0 _ (ofL [(0, (.int .i64 n_1))]) [] _ from ?_)
  refine awp_seq ?_
  refine w_reg ?_
  refine s_do (o_mov (.bool false) rfl) ?_
  refine w_done ?_
  refine k_seq ?_
  refine awp_seq ?_
  refine w_reg ?_
  obtain ⟨r_2, er3, hf⟩ := ob hf
  refine s_do (o_mov (.int .i64 n_1) rfl) ?_
  refine s_do (o_call (w_impl_within _ _ _ _ er3) rfl (.refl _) rfl) ?_
  refine s_do (o_mov (.bool r_2) rfl) ?_
  refine w_done ?_
  refine k_seq ?_
  refine w_ret ?_
  obtain rfl := os hf
  exact r_flat ⟨trivial, trivial⟩ rfl (.refl _)

/- slices.Index[[]int,int] -/
def c185 : ACode :=
 (.seq (.reg (tm 4 (.c (.int .i64 0)) .done))
 (.seq (.seq (.reg (tm 6 (.t 0) (tq 7 (.len (.t 6)) (tm 8 (.c (.int .i64 0)) .done))))
 (.block 0 (.loop (.seq (.reg (tq 9 (.bin .lss (.t 8) (.t 7)) .done))
 (.seq (.cond (.t 9) .skip
 (.exit 0))
 (.seq (.block 1 (.seq (.reg (tm 10 (.t 8) (tm 5 (.t 10) .done)))
 (.seq (.reg (tm 11 (.t 1) (tm 12 (.t 0) (tm 13 (.t 5) (tq 14 (.iaddr 1 (.t 12) (.t 13)) (tq 15 (.load 1 false (.t 14)) (tq 16 (.bin .eql (.t 11) (.t 15)) .done)))))))
 (.cond (.t 16) (.seq (.reg (tm 17 (.t 5) (tm 4 (.t 17) .done)))
 .ret)
 .skip))))
 (.reg (tq 18 (.bin .add (.t 8) (.c (.int .i64 1))) (tm 8 (.t 18) .done)))))))))
 (.cut (.seq (.reg (tq 4 (.mov (.c (.int .i64 (-1)))) .done))
 .ret))))
theorem fc185 : fcomp Try.prog Try.f185 = some (c185.erase, [.mov (.t 4)], 19) := by kernel_rfl
def slices_Index_int_int_L1 (v_2 : Int) : List Int → Nat → Option (Fl Int Unit)
  | [], s8_13 =>
    some (.go ())
  | x_25 :: xs, s8_13 =>
    if (v_2 == x_25) then
    some (.ret (s8_13 : Int))
    else
    slices_Index_int_int_L1 v_2 xs (s8_13 + 1)

def slices_Index_int_int (s_1 : (List Int)) (v_2 : Int) : Option Int :=
    (slices_Index_int_int_L1 v_2 s_1 0).bind fun q => (match q with
    | .ret r => some r
    | .go _ =>
    some (-1))
theorem w_slices_Index_int_int (s_1 : (List Int)) (v_2 : Int) (r : Int) (hf : slices_Index_int_int s_1 v_2 = some r) : CallOK Try.prog 185 .flat [(.lst 1 (s_1.map encI)), (.int .i64 v_2)] (.int .i64 r) := by
 refine CallOK.of_awp mixed Try.func185 fc185 nle ?_; rw [argT_eq]; unfold slices_Index_int_int at hf; unfold c185; refine (show awp Try.prog false 0 _ (ofL [(0, (.lst 1 (s_1.map encI))), (1, (.int .i64 v_2))]) [] _ from ?_); refine awp_seq <| w_reg <| s_mov (.int .i64 0) rfl <| w_done <| k_seq <| awp_seq <| awp_seq <| w_reg <| s_mov (.lst 1 (s_1.map encI)) rfl <| s_dof (o_len (enc := encI) rfl) fun hl3 => s_mov (.int .i64 0) rfl <| w_done <| k_seq <| ?_
 obtain ⟨p18, hb1, hf⟩ := ob hf
 refine awp_cutx (X := {q : Unit // p18 = .go q}) (fun q => ([], [])) ?_ ?_
 ·refine awp_loop (X := {q : Nat // slices_Index_int_int_L1 v_2 (s_1.drop q) q = some p18}) (fun q => ([(0, (.lst 1 (s_1.map encI))), (1, (.int .i64 v_2)), (7, (.int .i64 (s_1.length : Int))), (8, (.int .i64 (q.1 : Int)))], [])) (fun q => s_1.length - q.1) ⟨0, hb1⟩ ⟨[], [], _, _, rfl, rfl, ⟨.refl _, ⟨.refl _, ⟨.refl _, ⟨.refl _, trivial⟩⟩⟩⟩, (.refl _)⟩ ?_
  rintro ⟨s8_13, hc1⟩
  have hc1 : slices_Index_int_int_L1 v_2 (s_1.drop s8_13) s8_13 = some p18 := hc1
  refine (show awp Try.prog false 0 _ (ofL [(0, (.lst 1 (s_1.map encI))), (1, (.int .i64 v_2)), (7, (.int .i64 (s_1.length : Int))), (8, (.int .i64 (s8_13 : Int)))]) [] _ from ?_)
  rcases dropc s_1 s8_13 with ⟨hie21, hd24⟩ | ⟨hlt19, x_25, hx20, hd24⟩
  ·rw [hd24, slices_Index_int_int_L1.eq_1] at hc1
   have hq23 := dlf hie21
   refine awp_seq <| w_reg <| s_q (.bool (decide ((s8_13 : Int) < (s_1.length : Int)))) rfl rfl rfl <| w_done <| k_seq <| awp_seq <| w_condf rfl hq23 <| w_exit <| k_seqx <| k_loopx <| k_blkx <| ?_; obtain rfl := os hc1; exact k_cutn ⟨_, rfl⟩ ⟨[], [], _, _, rfl, rfl, trivial, (.refl _)⟩
  ·rw [hd24, slices_Index_int_int_L1.eq_2] at hc1
   have hq23 := dlt hlt19
   refine awp_seq <| w_reg <| s_q (.bool (decide ((s8_13 : Int) < (s_1.length : Int)))) rfl rfl rfl <| w_done <| k_seq <| awp_seq <| w_condt rfl hq23 <| w_skip <| k_seq <| awp_seq <| w_blk <| awp_seq <| w_reg <| s_mov (.int .i64 (s8_13 : Int)) rfl <| s_mov (.int .i64 (s8_13 : Int)) rfl <| w_done <| k_seq <| awp_seq <| w_reg <| s_mov (.int .i64 v_2) rfl <| s_mov (.lst 1 (s_1.map encI)) rfl <| s_mov (.int .i64 (s8_13 : Int)) rfl <| s_do (o_iaddrn (enc := encI) rfl rfl hx20) <| s_q (.int .i64 x_25) rfl ⟨rfl, rfl⟩ rfl <| s_q (.bool (v_2 == x_25)) rfl rfl rfl <| w_done <| k_seq <| ?_
   rcases oi hc1 with ⟨c26, hc1⟩ | ⟨c26, hc1⟩
   ·refine w_condt rfl c26 <| awp_seq <| w_reg <| s_mov (.int .i64 (s8_13 : Int)) rfl <| s_mov (.int .i64 (s8_13 : Int)) rfl <| w_done <| k_seq <| w_ret <| ?_; obtain rfl := os hc1; obtain rfl := os hf; exact r_flat ⟨trivial, trivial⟩ rfl (.refl _)
   ·refine w_condf rfl (bf c26) <| w_skip <| k_blk <| k_seq <| w_reg <| s_q (.int .i64 (w64 ((s8_13 : Int) + 1))) rfl rfl rfl <| s_mov (.int .i64 (w64 ((s8_13 : Int) + 1))) rfl <| w_done <| ?_; exact k_loopn ⟨(s8_13 + 1), hc1⟩ (mul hlt19) ⟨[], [], _, _, rfl, rfl, ⟨.refl _, ⟨.refl _, ⟨.refl _, ⟨.of_eq (congrArg (AV.int _) (w64_incr hlt19 hl3)), trivial⟩⟩⟩⟩, (.refl _)⟩
 ·rintro ⟨_, rfl⟩
  refine awp_seq <| w_reg <| s_mov (.int .i64 (-1)) rfl <| w_done <| k_seq <| w_ret <| ?_; obtain rfl := os hf; exact r_flat ⟨trivial, trivial⟩ rfl (.refl _)

/- slices.Contains[[]int,int] -/
def c100 : ACode :=
 (.seq (.reg (tm 4 (.c (.bool false)) .done))
 (.seq (.reg (tm 5 (.t 0) (tm 6 (.t 1) (tq 7 (.call 185 [(.t 5), (.t 6)]) (tq 8 (.bin .geq (.t 7) (.c (.int .i64 0))) (tm 4 (.t 8) .done))))))
 .ret))
theorem fc100 : fcomp Try.prog Try.f100 = some (c100.erase, [.mov (.t 4)], 9) := by kernel_rfl
def slices_Contains_int_int (s_1 : (List Int)) (v_2 : Int) : Option Bool :=
    (slices_Index_int_int s_1 v_2).bind fun r_3 =>
    some (decide (r_3 ≥ 0))
theorem w_slices_Contains_int_int (s_1 : (List Int)) (v_2 : Int) (r : Bool) (hf : slices_Contains_int_int s_1 v_2 = some r) : CallOK Try.prog 100 .flat [(.lst 1 (s_1.map encI)), (.int .i64 v_2)] (.bool r) := by
  refine CallOK.of_awp mixed Try.func100 fc100 nle ?_
  rw [argT_eq]
  unfold slices_Contains_int_int at hf
  unfold c100
  refine (show awp Try.prog false 0 _ (ofL [(0, (.lst 1 (s_1.map encI))), (1, (.int .i64 v_2))]) [] _ from ?_)
  refine awp_seq ?_
  refine w_reg ?_
  refine s_do (o_mov (.bool false) rfl) ?_
  refine w_done ?_
  refine k_seq ?_
  refine awp_seq ?_
  refine w_reg ?_
  obtain ⟨r_3, er4, hf⟩ := ob hf
  refine s_do (o_mov (.lst 1 (s_1.map encI)) rfl) ?_
  refine s_do (o_mov (.int .i64 v_2) rfl) ?_
  refine s_do (o_call (w_slices_Index_int_int _ _ _ er4) rfl (.refl _) rfl) ?_
  refine s_do (o_q (.bool (decide (r_3 ≥ 0))) rfl rfl rfl) ?_
  refine s_do (o_mov (.bool (decide (r_3 ≥ 0))) rfl) ?_
  refine w_done ?_
  refine k_seq ?_
  refine w_ret ?_
  obtain rfl := os hf
  exact r_flat ⟨trivial, trivial⟩ rfl (.refl _)

end Go.R
