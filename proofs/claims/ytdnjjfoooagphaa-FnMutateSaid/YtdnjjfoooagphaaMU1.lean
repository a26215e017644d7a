/- Walks. -/
import Derived.Test.YtdnjjfoooagphaaMUT
set_option linter.all false
namespace Go.R
open Go Go.Proofs
set_option linter.unusedVariables false
set_option linter.unusedSimpArgs false
set_option maxHeartbeats 8000000
/- spec.l00Source -/
def c95_h0 : ACode :=
 (.seq (.reg (tm 2 (.c .undef) .done))
 (.seq (.reg (tm 3 (.t 0) (tm 4 (.t 0) (tq 5 (.len (.t 4)) (tq 6 (.bin .rem (.t 5) (.c (.int .i64 1000))) (tq 7 (.build [.nil, (.int .i64 0), (.int .i64 0)] [(0, 1, (.t 3)), (2, 1, (.t 6))]) (tq 8 (.box 3 (.t 7)) (tm 2 (.t 8) .done))))))))
 .ret))
theorem fc95_h0 : fcomp Try.prog Try.f95 = some (c95_h0.erase, [.mov (.t 2)], 9) := by kernel_rfl
def spec_l00Source (code_1 : (List Int)) : Option GL00Src :=
    some (⟨code_1, 0, (code_1.length : Int).tmod 1000⟩ : GL00Src)
theorem w_spec_l00Source (code_1 : (List Int)) (r : GL00Src) (hf : spec_l00Source code_1 = some r) : CallHeap Try.prog true 95 [(.lst 1 (code_1.map enc_u8))] [] (.ptr 0 0 0) [.box 3 (.agg [(.lst 1 (r.Code.map enc_u8)), (.int .i64 r.At), (.int .i64 r.Seed)])] := by
  refine CallHeap.of_awp mixed Try.func95 fc95_h0 nle ?_
  rw [argT_eq]
  unfold spec_l00Source at hf
  unfold c95_h0
  refine (show awp Try.prog true 0 _ (ofL [(0, (.lst 1 (code_1.map enc_u8)))]) [] _ from ?_)
  refine awp_seq ?_
  refine w_reg ?_
  refine s_do (o_mov .undef rfl) ?_
  refine w_done ?_
  refine k_seq ?_
  refine awp_seq ?_
  refine w_reg ?_
  refine s_do (o_mov (.lst 1 (code_1.map enc_u8)) rfl) ?_
  refine s_do (o_mov (.lst 1 (code_1.map enc_u8)) rfl) ?_
  refine s_dof (o_len (enc := enc_u8) rfl) fun hl2 => ?_
  refine s_do (o_q (.int .i64 ((code_1.length : Int).tmod 1000)) rfl ⟨rfl, by decide⟩ rfl) ?_
  refine s_do (o_q (.agg [(.lst 1 (code_1.map enc_u8)), (.int .i64 0), (.int .i64 ((code_1.length : Int).tmod 1000))]) rfl ⟨⟨rfl, nle, trivial⟩, ⟨⟨rfl, nle, trivial⟩, trivial⟩⟩ rfl) ?_
  refine s_do (o_box (j := 0) (c := (.agg [(.lst 1 (code_1.map enc_u8)), (.int .i64 0), (.int .i64 ((code_1.length : Int).tmod 1000))])) rfl trivial rfl rfl) ?_
  refine s_do (o_mov (.ptr 0 0 0) rfl) ?_
  refine w_done ?_
  refine k_seq ?_
  refine w_ret ?_
  obtain rfl := os hf
  exact r_heap [] [0] rfl ⟨trivial, trivial⟩ rfl (.refl _) (.refl _)

/- (*spec.l00Src).byte -/
def c250_h0 : ACode :=
 (.seq (.reg (tm 2 (.c (.int .i64 0)) .done))
 (.seq (.reg (tm 3 (.t 0) (tq 4 (.nilck (.t 3)) (tq 5 (.faddr 1 (.t 4)) (tq 6 (.load 1 false (.t 5)) (tq 7 (.bin .add (.t 6) (.c (.int .i64 1))) (tq 8 (.nilck (.t 3)) (tq 9 (.faddr 1 (.t 8)) (.q ⟨none, none, .store 1 (.t 9) (.t 7)⟩
 .done)))))))))
 (.seq (.seq (.reg (tm 10 (.t 0) (tq 11 (.nilck (.t 10)) (tq 12 (.faddr 1 (.t 11)) (tq 13 (.load 1 false (.t 12)) (tm 14 (.t 0) (tq 15 (.nilck (.t 14)) (tq 16 (.faddr 0 (.t 15)) (tq 17 (.load 1 false (.t 16)) (tq 18 (.len (.t 17)) (tq 19 (.bin .leq (.t 13) (.t 18)) .done)))))))))))
 (.cond (.t 19) (.seq (.reg (tm 20 (.t 0) (tm 21 (.t 0) (tq 22 (.nilck (.t 21)) (tq 23 (.faddr 2 (.t 22)) (tq 24 (.load 1 false (.t 23)) (tq 25 (.bin .mul (.t 24) (.c (.int .i64 31))) (tm 26 (.t 0) (tq 27 (.nilck (.t 26)) (tq 28 (.faddr 0 (.t 27)) (tq 29 (.load 1 false (.t 28)) (tm 30 (.t 0) (tq 31 (.nilck (.t 30)) (tq 32 (.faddr 1 (.t 31)) (tq 33 (.load 1 false (.t 32)) (tq 34 (.bin .sub (.t 33) (.c (.int .i64 1))) (tq 35 (.iaddr 1 (.t 29) (.t 34)) (tq 36 (.load 1 false (.t 35)) (tq 37 (.convI .i64 (.t 36)) (tq 38 (.bin .add (.t 25) (.t 37)) (tq 39 (.bin .add (.t 38) (.c (.int .i64 7))) (tq 40 (.bin .rem (.t 39) (.c (.int .i64 2147483648))) (tq 41 (.nilck (.t 20)) (tq 42 (.faddr 2 (.t 41)) (.l ⟨none, none, .store 1 (.t 42) (.t 40)⟩ []
 .done .non)))))))))))))))))))))))))
 (.seq (.reg (tm 43 (.t 0) (tq 44 (.nilck (.t 43)) (tq 45 (.faddr 0 (.t 44)) (tq 46 (.load 1 false (.t 45)) (tm 47 (.t 0) (tq 48 (.nilck (.t 47)) (tq 49 (.faddr 1 (.t 48)) (tq 50 (.load 1 false (.t 49)) (tq 51 (.bin .sub (.t 50) (.c (.int .i64 1))) (tq 52 (.iaddr 1 (.t 46) (.t 51)) (tq 53 (.load 1 false (.t 52)) (tq 54 (.convI .i64 (.t 53)) (tm 2 (.t 54) .done))))))))))))))
 .ret))
 .skip))
 (.seq (.seq (.reg (tm 55 (.t 0) (tq 56 (.nilck (.t 55)) (tq 57 (.faddr 1 (.t 56)) (tq 58 (.load 1 false (.t 57)) (tq 59 (.bin .gtr (.t 58) (.c (.int .i64 3000))) .done))))))
 (.cond (.t 59) (.seq (.reg (tm 2 (.c (.int .i64 0)) .done))
 .ret)
 .skip))
 (.seq (.reg (tm 60 (.t 0) (tm 61 (.t 0) (tq 62 (.nilck (.t 61)) (tq 63 (.faddr 2 (.t 62)) (tq 64 (.load 1 false (.t 63)) (tq 65 (.bin .mul (.t 64) (.c (.int .i64 1103515245))) (tq 66 (.bin .add (.t 65) (.c (.int .i64 12345))) (tq 67 (.bin .rem (.t 66) (.c (.int .i64 2147483648))) (tq 68 (.nilck (.t 60)) (tq 69 (.faddr 2 (.t 68)) (.q ⟨none, none, .store 1 (.t 69) (.t 67)⟩
 .done))))))))))))
 (.seq (.reg (tm 70 (.t 0) (tq 71 (.nilck (.t 70)) (tq 72 (.faddr 2 (.t 71)) (tq 73 (.load 1 false (.t 72)) (tq 74 (.bin .quo (.t 73) (.c (.int .i64 65536))) (tq 75 (.bin .rem (.t 74) (.c (.int .i64 256))) (tm 2 (.t 75) .done))))))))
 .ret))))))
theorem fc250_h0 : fcomp Try.prog Try.f250 = some (c250_h0.erase, [.mov (.t 2)], 76) := by kernel_rfl
def spec_l00Src_byte (s_1 : GL00Src) : Option (Int × GL00Src) :=
    if (decide (w64 (s_1.At + 1) ≤ (s_1.Code.length : Int))) then
    (idx s_1.Code (w64 ((w64 (s_1.At + 1)) - 1))).bind fun x_4 =>
    (idx s_1.Code (w64 ((w64 (s_1.At + 1)) - 1))).bind fun x_6 =>
    some (w64 x_6, (⟨s_1.Code, w64 (s_1.At + 1), (w64 ((w64 ((w64 (s_1.Seed * 31)) + (w64 x_4))) + 7)).tmod 2147483648⟩ : GL00Src))
    else
    if (decide (w64 (s_1.At + 1) > 3000)) then
    some (0, (⟨s_1.Code, w64 (s_1.At + 1), s_1.Seed⟩ : GL00Src))
    else
    some ((w64 (((w64 ((w64 (s_1.Seed * 1103515245)) + 12345)).tmod 2147483648).tdiv 65536)).tmod 256, (⟨s_1.Code, w64 (s_1.At + 1), (w64 ((w64 (s_1.Seed * 1103515245)) + 12345)).tmod 2147483648⟩ : GL00Src))
theorem w_spec_l00Src_byte (s_1 : GL00Src) (r : (Int × GL00Src)) (hf : spec_l00Src_byte s_1 = some r) : CallHeap Try.prog true 250 [(.ptr 0 0 0)] [.box 3 (.agg [(.lst 1 (s_1.Code.map enc_u8)), (.int .i64 s_1.At), (.int .i64 s_1.Seed)])] (.int .i64 r.1) [.box 3 (.agg [(.lst 1 (r.2.Code.map enc_u8)), (.int .i64 r.2.At), (.int .i64 r.2.Seed)])] := by
 refine CallHeap.of_awp mixed Try.func250 fc250_h0 nle ?_; rw [argT_eq]; unfold spec_l00Src_byte at hf; unfold c250_h0; refine (show awp Try.prog true 1 _ (ofL [(0, (.ptr 0 0 0))]) [.box 3 (.agg [(.lst 1 (s_1.Code.map enc_u8)), (.int .i64 s_1.At), (.int .i64 s_1.Seed)])] _ from ?_); refine awp_seq <| w_reg <| s_mov (.int .i64 0) rfl <| w_done <| k_seq <| awp_seq <| w_reg <| s_mov (.ptr 0 0 0) rfl <| s_q (.ptr 0 0 0) rfl trivial rfl <| s_q (.ptr 0 0 1) rfl trivial rfl <| s_q (.int .i64 s_1.At) rfl nle rfl <| s_q (.int .i64 (w64 (s_1.At + 1))) rfl rfl rfl <| s_q (.ptr 0 0 0) rfl trivial rfl <| s_q (.ptr 0 0 1) rfl trivial rfl <| s_do0 (o_storebox (v := (.int .i64 (w64 (s_1.At + 1)))) (y' := (.agg [(.lst 1 (s_1.Code.map enc_u8)), (.int .i64 (w64 (s_1.At + 1))), (.int .i64 s_1.Seed)])) rfl rfl rfl trivial ⟨rfl, nle⟩ ⟨⟨rfl, trivial⟩, trivial⟩ rfl) <| ?_
 refine w_done <| k_seq <| awp_seq <| awp_seq <| w_reg <| s_mov (.ptr 0 0 0) rfl <| s_q (.ptr 0 0 0) rfl trivial rfl <| s_q (.ptr 0 0 1) rfl trivial rfl <| s_q (.int .i64 (w64 (s_1.At + 1))) rfl nle rfl <| s_mov (.ptr 0 0 0) rfl <| s_q (.ptr 0 0 0) rfl trivial rfl <| s_q (.ptr 0 0 0) rfl trivial rfl <| s_q (.lst 1 (s_1.Code.map enc_u8)) rfl nle rfl <| s_dof (o_len (enc := enc_u8) rfl) fun hl2 => s_q (.bool (decide (w64 (s_1.At + 1) ≤ (s_1.Code.length : Int)))) rfl rfl rfl <| w_done <| k_seq <| ?_
 rcases oi hf with ⟨c3, hf⟩ | ⟨c3, hf⟩
 ·refine w_condt rfl c3 <| awp_seq <| w_reg <| s_mov (.ptr 0 0 0) rfl <| s_mov (.ptr 0 0 0) rfl <| s_q (.ptr 0 0 0) rfl trivial rfl <| s_q (.ptr 0 0 2) rfl trivial rfl <| s_q (.int .i64 s_1.Seed) rfl nle rfl <| s_q (.int .i64 (w64 (s_1.Seed * 31))) rfl rfl rfl <| s_mov (.ptr 0 0 0) rfl <| s_q (.ptr 0 0 0) rfl trivial rfl <| s_q (.ptr 0 0 0) rfl trivial rfl <| s_q (.lst 1 (s_1.Code.map enc_u8)) rfl nle rfl <| s_mov (.ptr 0 0 0) rfl <| s_q (.ptr 0 0 0) rfl trivial rfl <| s_q (.ptr 0 0 1) rfl trivial rfl <| s_q (.int .i64 (w64 (s_1.At + 1))) rfl nle rfl <| s_q (.int .i64 (w64 ((w64 (s_1.At + 1)) - 1))) rfl rfl rfl <| ?_
  obtain ⟨x_4, ex5, hf⟩ := ob hf
  refine s_do (o_iaddr (enc := enc_u8) rfl rfl (idx0 ex5) (idx1 ex5)) <| s_q (.int .u8 x_4) rfl ⟨rfl, rfl⟩ rfl <| s_q (.int .i64 (w64 x_4)) rfl trivial rfl <| s_q (.int .i64 (w64 ((w64 (s_1.Seed * 31)) + (w64 x_4)))) rfl rfl rfl <| s_q (.int .i64 (w64 ((w64 ((w64 (s_1.Seed * 31)) + (w64 x_4))) + 7))) rfl rfl rfl <| s_q (.int .i64 ((w64 ((w64 ((w64 (s_1.Seed * 31)) + (w64 x_4))) + 7)).tmod 2147483648)) rfl ⟨rfl, by decide⟩ rfl <| s_q (.ptr 0 0 0) rfl trivial rfl <| s_q (.ptr 0 0 2) rfl trivial rfl <| s_dol0 (o_storebox (v := (.int .i64 ((w64 ((w64 ((w64 (s_1.Seed * 31)) + (w64 x_4))) + 7)).tmod 2147483648))) (y' := (.agg [(.lst 1 (s_1.Code.map enc_u8)), (.int .i64 (w64 (s_1.At + 1))), (.int .i64 ((w64 ((w64 ((w64 (s_1.Seed * 31)) + (w64 x_4))) + 7)).tmod 2147483648))])) rfl rfl rfl trivial ⟨rfl, nle⟩ ⟨⟨rfl, trivial⟩, trivial⟩ rfl) trivial trivial <| ?_
  refine w_done <| k_seq <| awp_seq <| w_reg <| s_mov (.ptr 0 0 0) rfl <| s_q (.ptr 0 0 0) rfl trivial rfl <| s_q (.ptr 0 0 0) rfl trivial rfl <| s_q (.lst 1 (s_1.Code.map enc_u8)) rfl nle rfl <| s_mov (.ptr 0 0 0) rfl <| s_q (.ptr 0 0 0) rfl trivial rfl <| s_q (.ptr 0 0 1) rfl trivial rfl <| s_q (.int .i64 (w64 (s_1.At + 1))) rfl nle rfl <| s_q (.int .i64 (w64 ((w64 (s_1.At + 1)) - 1))) rfl rfl rfl <| ?_
  obtain ⟨x_6, ex7, hf⟩ := ob hf
  refine s_do (o_iaddr (enc := enc_u8) rfl rfl (idx0 ex7) (idx1 ex7)) <| s_q (.int .u8 x_6) rfl ⟨rfl, rfl⟩ rfl <| s_q (.int .i64 (w64 x_6)) rfl trivial rfl <| s_mov (.int .i64 (w64 x_6)) rfl <| w_done <| k_seq <| w_ret <| ?_; obtain rfl := os hf; exact r_heap [] [0] rfl ⟨trivial, trivial⟩ rfl (.refl _) (.refl _)
 ·refine w_condf rfl (bf c3) <| w_skip <| k_seq <| awp_seq <| awp_seq <| w_reg <| s_mov (.ptr 0 0 0) rfl <| s_q (.ptr 0 0 0) rfl trivial rfl <| s_q (.ptr 0 0 1) rfl trivial rfl <| s_q (.int .i64 (w64 (s_1.At + 1))) rfl nle rfl <| s_q (.bool (decide (w64 (s_1.At + 1) > 3000))) rfl rfl rfl <| w_done <| k_seq <| ?_
  rcases oi hf with ⟨c8, hf⟩ | ⟨c8, hf⟩
  ·refine w_condt rfl c8 <| awp_seq <| w_reg <| s_mov (.int .i64 0) rfl <| w_done <| k_seq <| w_ret <| ?_; obtain rfl := os hf; exact r_heap [] [0] rfl ⟨trivial, trivial⟩ rfl (.refl _) (.refl _)
  ·refine w_condf rfl (bf c8) <| w_skip <| k_seq <| awp_seq <| w_reg <| s_mov (.ptr 0 0 0) rfl <| s_mov (.ptr 0 0 0) rfl <| s_q (.ptr 0 0 0) rfl trivial rfl <| s_q (.ptr 0 0 2) rfl trivial rfl <| s_q (.int .i64 s_1.Seed) rfl nle rfl <| s_q (.int .i64 (w64 (s_1.Seed * 1103515245))) rfl rfl rfl <| s_q (.int .i64 (w64 ((w64 (s_1.Seed * 1103515245)) + 12345))) rfl rfl rfl <| s_q (.int .i64 ((w64 ((w64 (s_1.Seed * 1103515245)) + 12345)).tmod 2147483648)) rfl ⟨rfl, by decide⟩ rfl <| s_q (.ptr 0 0 0) rfl trivial rfl <| s_q (.ptr 0 0 2) rfl trivial rfl <| s_do0 (o_storebox (v := (.int .i64 ((w64 ((w64 (s_1.Seed * 1103515245)) + 12345)).tmod 2147483648))) (y' := (.agg [(.lst 1 (s_1.Code.map enc_u8)), (.int .i64 (w64 (s_1.At + 1))), (.int .i64 ((w64 ((w64 (s_1.Seed * 1103515245)) + 12345)).tmod 2147483648))])) rfl rfl rfl trivial ⟨rfl, nle⟩ ⟨⟨rfl, trivial⟩, trivial⟩ rfl) <| ?_
   refine w_done <| k_seq <| awp_seq <| w_reg <| s_mov (.ptr 0 0 0) rfl <| s_q (.ptr 0 0 0) rfl trivial rfl <| s_q (.ptr 0 0 2) rfl trivial rfl <| s_q (.int .i64 ((w64 ((w64 (s_1.Seed * 1103515245)) + 12345)).tmod 2147483648)) rfl nle rfl <| s_q (.int .i64 (w64 (((w64 ((w64 (s_1.Seed * 1103515245)) + 12345)).tmod 2147483648).tdiv 65536))) rfl ⟨rfl, by decide⟩ rfl <| s_q (.int .i64 ((w64 (((w64 ((w64 (s_1.Seed * 1103515245)) + 12345)).tmod 2147483648).tdiv 65536)).tmod 256)) rfl ⟨rfl, by decide⟩ rfl <| s_mov (.int .i64 ((w64 (((w64 ((w64 (s_1.Seed * 1103515245)) + 12345)).tmod 2147483648).tdiv 65536)).tmod 256)) rfl <| w_done <| k_seq <| w_ret <| ?_; obtain rfl := os hf; exact r_heap [] [0] rfl ⟨trivial, trivial⟩ rfl (.refl _) (.refl _)

/- (*spec.l00Src).next -/
def c181_h0 : ACode :=
 (.seq (.reg (tm 4 (.c (.int .i64 0)) .done))
 (.seq (.seq (.reg (tm 8 (.t 1) (tq 9 (.bin .leq (.t 8) (.c (.int .i64 1))) .done)))
 (.cond (.t 9) (.seq (.reg (tm 4 (.c (.int .i64 0)) .done))
 .ret)
 .skip))
 (.seq (.seq (.reg (tm 10 (.t 1) (tq 11 (.bin .leq (.t 10) (.c (.int .i64 256))) .done)))
 (.cond (.t 11) (.seq (.reg (tm 12 (.t 0) (tq 13 (.call 250 [(.t 12)]) (tm 14 (.t 1) (tq 15 (.bin .rem (.t 13) (.t 14)) (tm 4 (.t 15) .done))))))
 .ret)
 .skip))
 (.seq (.reg (tm 16 (.t 0) (tq 17 (.call 250 [(.t 16)]) (tm 5 (.t 17) .done))))
 (.seq (.reg (tm 18 (.t 0) (tq 19 (.call 250 [(.t 18)]) (tm 6 (.t 19) .done))))
 (.seq (.reg (tm 20 (.t 0) (tq 21 (.call 250 [(.t 20)]) (tm 7 (.t 21) .done))))
 (.seq (.reg (tm 22 (.t 5) (tq 23 (.bin .mul (.t 22) (.c (.int .i64 65536))) (tm 24 (.t 6) (tq 25 (.bin .mul (.t 24) (.c (.int .i64 256))) (tq 26 (.bin .add (.t 23) (.t 25)) (tm 27 (.t 7) (tq 28 (.bin .add (.t 26) (.t 27)) (tm 29 (.t 1) (tq 30 (.bin .rem (.t 28) (.t 29)) (tm 4 (.t 30) .done)))))))))))
 .ret)))))))
theorem fc181_h0 : fcomp Try.prog Try.f181 = some (c181_h0.erase, [.mov (.t 4)], 31) := by kernel_rfl
def spec_l00Src_next (n_1 : Int) (s_2 : GL00Src) : Option (Int × GL00Src) :=
    if (decide (n_1 ≤ 1)) then
    some (0, s_2)
    else
    if (decide (n_1 ≤ 256)) then
    (spec_l00Src_byte s_2).bind fun r_5 =>
    if n_1 ≠ 0 then
    some (r_5.1.tmod n_1, r_5.2)
    else none
    else
    (spec_l00Src_byte s_2).bind fun r_8 =>
    (spec_l00Src_byte r_8.2).bind fun r_10 =>
    (spec_l00Src_byte r_10.2).bind fun r_12 =>
    if n_1 ≠ 0 then
    some ((w64 ((w64 ((w64 (r_8.1 * 65536)) + (w64 (r_10.1 * 256)))) + r_12.1)).tmod n_1, r_12.2)
    else none
theorem w_spec_l00Src_next (n_1 : Int) (s_2 : GL00Src) (r : (Int × GL00Src)) (hf : spec_l00Src_next n_1 s_2 = some r) : CallHeap Try.prog true 181 [(.ptr 0 0 0), (.int .i64 n_1)] [.box 3 (.agg [(.lst 1 (s_2.Code.map enc_u8)), (.int .i64 s_2.At), (.int .i64 s_2.Seed)])] (.int .i64 r.1) [.box 3 (.agg [(.lst 1 (r.2.Code.map enc_u8)), (.int .i64 r.2.At), (.int .i64 r.2.Seed)])] := by
 refine CallHeap.of_awp mixed Try.func181 fc181_h0 nle ?_; rw [argT_eq]; unfold spec_l00Src_next at hf; unfold c181_h0; refine (show awp Try.prog true 1 _ (ofL [(0, (.ptr 0 0 0)), (1, (.int .i64 n_1))]) [.box 3 (.agg [(.lst 1 (s_2.Code.map enc_u8)), (.int .i64 s_2.At), (.int .i64 s_2.Seed)])] _ from ?_); refine awp_seq <| w_reg <| s_mov (.int .i64 0) rfl <| w_done <| k_seq <| awp_seq <| awp_seq <| w_reg <| s_mov (.int .i64 n_1) rfl <| s_q (.bool (decide (n_1 ≤ 1))) rfl rfl rfl <| w_done <| k_seq <| ?_
 rcases oi hf with ⟨c3, hf⟩ | ⟨c3, hf⟩
 ·refine w_condt rfl c3 <| awp_seq <| w_reg <| s_mov (.int .i64 0) rfl <| w_done <| k_seq <| w_ret <| ?_; obtain rfl := os hf; exact r_heap [] [0] rfl ⟨trivial, trivial⟩ rfl (.refl _) (.refl _)
 ·refine w_condf rfl (bf c3) <| w_skip <| k_seq <| awp_seq <| awp_seq <| w_reg <| s_mov (.int .i64 n_1) rfl <| s_q (.bool (decide (n_1 ≤ 256))) rfl rfl rfl <| w_done <| k_seq <| ?_
  rcases oi hf with ⟨c4, hf⟩ | ⟨c4, hf⟩
  ·refine w_condt rfl c4 <| awp_seq <| w_reg <| ?_
   obtain ⟨r_5, er6, hf⟩ := ob hf
   obtain ⟨g7, hf⟩ := og hf
   refine s_mov (.ptr 0 0 0) rfl ?_; refine s_do (o_callh (v := (.int .i64 r_5.1)) (h2 := [.box 3 (.agg [(.lst 1 (r_5.2.Code.map enc_u8)), (.int .i64 r_5.2.At), (.int .i64 r_5.2.Seed)])]) [] [0] (fun _ => rfl) (w_spec_l00Src_byte _ _ er6) rfl (.refl _) (.refl _) rfl rfl) ?_; refine s_mov (.int .i64 n_1) rfl <| s_q (.int .i64 (r_5.1.tmod n_1)) rfl ⟨rfl, g7⟩ rfl <| s_mov (.int .i64 (r_5.1.tmod n_1)) rfl <| w_done <| k_seq <| w_ret <| ?_; obtain rfl := os hf; exact r_heap [] [0] rfl ⟨trivial, trivial⟩ rfl (.refl _) (.refl _)
  ·refine w_condf rfl (bf c4) <| w_skip <| k_seq <| awp_seq <| w_reg <| ?_
   obtain ⟨r_8, er9, hf⟩ := ob hf
   refine s_mov (.ptr 0 0 0) rfl ?_; refine s_do (o_callh (v := (.int .i64 r_8.1)) (h2 := [.box 3 (.agg [(.lst 1 (r_8.2.Code.map enc_u8)), (.int .i64 r_8.2.At), (.int .i64 r_8.2.Seed)])]) [] [0] (fun _ => rfl) (w_spec_l00Src_byte _ _ er9) rfl (.refl _) (.refl _) rfl rfl) ?_; refine s_mov (.int .i64 r_8.1) rfl <| w_done <| k_seq <| awp_seq <| w_reg <| ?_
   obtain ⟨r_10, er11, hf⟩ := ob hf
   refine s_mov (.ptr 0 0 0) rfl ?_; refine s_do (o_callh (v := (.int .i64 r_10.1)) (h2 := [.box 3 (.agg [(.lst 1 (r_10.2.Code.map enc_u8)), (.int .i64 r_10.2.At), (.int .i64 r_10.2.Seed)])]) [] [0] (fun _ => rfl) (w_spec_l00Src_byte _ _ er11) rfl (.refl _) (.refl _) rfl rfl) ?_; refine s_mov (.int .i64 r_10.1) rfl <| w_done <| k_seq <| awp_seq <| w_reg <| ?_
   obtain ⟨r_12, er13, hf⟩ := ob hf
   refine s_mov (.ptr 0 0 0) rfl ?_; refine s_do (o_callh (v := (.int .i64 r_12.1)) (h2 := [.box 3 (.agg [(.lst 1 (r_12.2.Code.map enc_u8)), (.int .i64 r_12.2.At), (.int .i64 r_12.2.Seed)])]) [] [0] (fun _ => rfl) (w_spec_l00Src_byte _ _ er13) rfl (.refl _) (.refl _) rfl rfl) ?_; refine s_mov (.int .i64 r_12.1) rfl <| w_done <| k_seq <| awp_seq <| w_reg <| ?_
   obtain ⟨g14, hf⟩ := og hf
   refine s_mov (.int .i64 r_8.1) rfl <| s_q (.int .i64 (w64 (r_8.1 * 65536))) rfl rfl rfl <| s_mov (.int .i64 r_10.1) rfl <| s_q (.int .i64 (w64 (r_10.1 * 256))) rfl rfl rfl <| s_q (.int .i64 (w64 ((w64 (r_8.1 * 65536)) + (w64 (r_10.1 * 256))))) rfl rfl rfl <| s_mov (.int .i64 r_12.1) rfl <| s_q (.int .i64 (w64 ((w64 ((w64 (r_8.1 * 65536)) + (w64 (r_10.1 * 256)))) + r_12.1))) rfl rfl rfl <| s_mov (.int .i64 n_1) rfl <| s_q (.int .i64 ((w64 ((w64 ((w64 (r_8.1 * 65536)) + (w64 (r_10.1 * 256)))) + r_12.1)).tmod n_1)) rfl ⟨rfl, g14⟩ rfl <| s_mov (.int .i64 ((w64 ((w64 ((w64 (r_8.1 * 65536)) + (w64 (r_10.1 * 256)))) + r_12.1)).tmod n_1)) rfl <| w_done <| k_seq <| w_ret <| ?_; obtain rfl := os hf; exact r_heap [] [0] rfl ⟨trivial, trivial⟩ rfl (.refl _) (.refl _)

/- (*spec.l00Src).pick -/
def c203_h0 : ACode :=
 (.seq (.reg (tm 4 (.c (.str [])) .done))
 (.seq (.seq (.reg (tm 5 (.t 1) (tq 6 (.len (.t 5)) (tq 7 (.bin .eql (.t 6) (.c (.int .i64 0))) .done))))
 (.cond (.t 7) (.seq (.reg (tm 4 (.c (.str [])) .done))
 .ret)
 .skip))
 (.seq (.reg (tm 8 (.t 1) (tm 9 (.t 0) (tm 10 (.t 1) (tq 11 (.len (.t 10)) (tq 12 (.call 181 [(.t 9), (.t 11)]) (tq 13 (.iaddr 1 (.t 8) (.t 12)) (tq 14 (.load 1 false (.t 13)) (tm 4 (.t 14) .done)))))))))
 .ret)))
theorem fc203_h0 : fcomp Try.prog Try.f203 = some (c203_h0.erase, [.mov (.t 4)], 15) := by kernel_rfl
def spec_l00Src_pick (list_1 : (List Str)) (s_2 : GL00Src) : Option (Str × GL00Src) :=
    if ((list_1.length : Int) == 0) then
    some ([], s_2)
    else
    (spec_l00Src_next (list_1.length : Int) s_2).bind fun r_6 =>
    (idx list_1 r_6.1).bind fun x_8 =>
    some (x_8, r_6.2)
theorem w_spec_l00Src_pick (list_1 : (List Str)) (s_2 : GL00Src) (r : (Str × GL00Src)) (hf : spec_l00Src_pick list_1 s_2 = some r) : CallHeap Try.prog true 203 [(.ptr 0 0 0), (.lst 1 (list_1.map AV.str))] [.box 3 (.agg [(.lst 1 (s_2.Code.map enc_u8)), (.int .i64 s_2.At), (.int .i64 s_2.Seed)])] (.str r.1) [.box 3 (.agg [(.lst 1 (r.2.Code.map enc_u8)), (.int .i64 r.2.At), (.int .i64 r.2.Seed)])] := by
 refine CallHeap.of_awp mixed Try.func203 fc203_h0 nle ?_; rw [argT_eq]; unfold spec_l00Src_pick at hf; unfold c203_h0; refine (show awp Try.prog true 1 _ (ofL [(0, (.ptr 0 0 0)), (1, (.lst 1 (list_1.map AV.str)))]) [.box 3 (.agg [(.lst 1 (s_2.Code.map enc_u8)), (.int .i64 s_2.At), (.int .i64 s_2.Seed)])] _ from ?_); refine awp_seq <| w_reg <| s_mov (.str []) rfl <| w_done <| k_seq <| awp_seq <| awp_seq <| w_reg <| s_mov (.lst 1 (list_1.map AV.str)) rfl <| s_dof (o_len (enc := AV.str) rfl) fun hl3 => s_q (.bool ((list_1.length : Int) == 0)) rfl rfl rfl <| w_done <| k_seq <| ?_
 rcases oi hf with ⟨c4, hf⟩ | ⟨c4, hf⟩
 ·refine w_condt rfl c4 <| awp_seq <| w_reg <| s_mov (.str []) rfl <| w_done <| k_seq <| w_ret <| ?_; obtain rfl := os hf; exact r_heap [] [0] rfl ⟨trivial, trivial⟩ rfl (.refl _) (.refl _)
 ·refine w_condf rfl (bf c4) <| w_skip <| k_seq <| awp_seq <| w_reg <| ?_
  obtain ⟨r_6, er7, hf⟩ := ob hf
  obtain ⟨x_8, ex9, hf⟩ := ob hf
  refine s_mov (.lst 1 (list_1.map AV.str)) rfl <| s_mov (.ptr 0 0 0) rfl <| s_mov (.lst 1 (list_1.map AV.str)) rfl <| s_dof (o_len (enc := AV.str) rfl) fun hl5 => ?_; refine s_do (o_callh (v := (.int .i64 r_6.1)) (h2 := [.box 3 (.agg [(.lst 1 (r_6.2.Code.map enc_u8)), (.int .i64 r_6.2.At), (.int .i64 r_6.2.Seed)])]) [] [0] (fun _ => rfl) (w_spec_l00Src_next _ _ _ er7) rfl (.refl _) (.refl _) rfl rfl) ?_; refine s_do (o_iaddr (enc := AV.str) rfl rfl (idx0 ex9) (idx1 ex9)) <| s_q (.str x_8) rfl ⟨rfl, rfl⟩ rfl <| s_mov (.str x_8) rfl <| w_done <| k_seq <| w_ret <| ?_; obtain rfl := os hf; exact r_heap [] [0] rfl ⟨trivial, trivial⟩ rfl (.refl _) (.refl _)

/- (*spec.l00Src).atom -/
def c217_h0 : ACode :=
 (.seq (.reg (tq 4 (.box 3 (.c (.agg [(.int .i64 0), (.int .i64 0), (.str [])]))) .done))
 (.seq (.seq (.reg (tm 5 (.t 1) .done))
 (.block 0 (.seq (.reg (tq 7 (.bin .eql (.t 5) (.c (.int .i64 1))) (tm 6 (.t 7) .done)))
 (.cond (.t 6) (.seq (.reg (tm 8 (.t 1) (tm 9 (.t 0) (tq 10 (.call 181 [(.t 9), (.c (.int .i64 12))]) (tq 11 (.bin .sub (.t 10) (.c (.int .i64 4))) (tq 12 (.build [(.int .i64 0), (.int .i64 0), (.str [])] [(0, 1, (.t 8)), (1, 1, (.t 11))]) (.q ⟨none, none, .store 3 (.t 4) (.t 12)⟩
 .done)))))))
 .ret)
 (.seq (.reg (tq 14 (.bin .eql (.t 5) (.c (.int .i64 2))) (tm 13 (.t 14) .done)))
 (.cond (.t 13) (.seq (.reg (tm 15 (.t 1) (tm 16 (.t 0) (tq 17 (.bslice 1 [(.c (.str [])), (.c (.str [97])), (.c (.str [98])), (.c (.str [99])), (.c (.str [110, 101, 116]))]) (tq 18 (.call 203 [(.t 16), (.t 17)]) (tq 19 (.build [(.int .i64 0), (.int .i64 0), (.str [])] [(0, 1, (.t 15)), (2, 1, (.t 18))]) (.q ⟨none, none, .store 3 (.t 4) (.t 19)⟩
 .done)))))))
 .ret)
 (.seq (.reg (tq 21 (.bin .eql (.t 5) (.c (.int .i64 3))) (tm 20 (.t 21) .done)))
 (.cond (.t 20) (.seq (.reg (tm 22 (.t 1) (tm 23 (.t 0) (tq 24 (.call 181 [(.t 23), (.c (.int .i64 2))]) (tq 25 (.build [(.int .i64 0), (.int .i64 0), (.str [])] [(0, 1, (.t 22)), (1, 1, (.t 24))]) (.q ⟨none, none, .store 3 (.t 4) (.t 25)⟩
 .done))))))
 .ret)
 .skip))))))))
 (.seq (.reg (tm 26 (.t 0) (tq 27 (.call 181 [(.t 26), (.c (.int .i64 6))]) (tq 28 (.bin .add (.c (.int .i64 1)) (.t 27)) (tq 29 (.build [(.int .i64 0), (.int .i64 0), (.str [])] [(0, 1, (.c (.int .i64 4))), (1, 1, (.t 28))]) (.q ⟨none, none, .store 3 (.t 4) (.t 29)⟩
 .done))))))
 .ret)))
theorem fc217_h0 : fcomp Try.prog Try.f217 = some (c217_h0.erase, [.load 3 true (.t 4)], 30) := by kernel_rfl
def spec_l00Src_atom (kind_1 : Int) (s_2 : GL00Src) : Option (GAtom × GL00Src) :=
    if (kind_1 == 1) then
    (spec_l00Src_next 12 s_2).bind fun r_4 =>
    some ((⟨kind_1, w64 (r_4.1 - 4), []⟩ : GAtom), r_4.2)
    else
    if (kind_1 == 2) then
    (spec_l00Src_pick [[], [97], [98], [99], [110, 101, 116]] s_2).bind fun r_7 =>
    some ((⟨kind_1, 0, r_7.1⟩ : GAtom), r_7.2)
    else
    if (kind_1 == 3) then
    (spec_l00Src_next 2 s_2).bind fun r_10 =>
    some ((⟨kind_1, r_10.1, []⟩ : GAtom), r_10.2)
    else
    (spec_l00Src_next 6 s_2).bind fun r_12 =>
    some ((⟨4, w64 (1 + r_12.1), []⟩ : GAtom), r_12.2)
theorem w_spec_l00Src_atom (kind_1 : Int) (s_2 : GL00Src) (r : (GAtom × GL00Src)) (hf : spec_l00Src_atom kind_1 s_2 = some r) : CallHeap Try.prog true 217 [(.ptr 0 0 0), (.int .i64 kind_1)] [.box 3 (.agg [(.lst 1 (s_2.Code.map enc_u8)), (.int .i64 s_2.At), (.int .i64 s_2.Seed)])] (encGAtom r.1) [.box 3 (.agg [(.lst 1 (r.2.Code.map enc_u8)), (.int .i64 r.2.At), (.int .i64 r.2.Seed)])] := by
 refine CallHeap.of_awp mixed Try.func217 fc217_h0 nle ?_; rw [argT_eq]; unfold spec_l00Src_atom at hf; unfold c217_h0; refine (show awp Try.prog true 1 _ (ofL [(0, (.ptr 0 0 0)), (1, (.int .i64 kind_1))]) [.box 3 (.agg [(.lst 1 (s_2.Code.map enc_u8)), (.int .i64 s_2.At), (.int .i64 s_2.Seed)])] _ from ?_); refine awp_seq <| w_reg <| s_do (o_box (j := 1) (c := (.agg [(.int .i64 0), (.int .i64 0), (.str [])])) rfl trivial rfl rfl) <| w_done <| k_seq <| awp_seq <| awp_seq <| w_reg <| s_mov (.int .i64 kind_1) rfl <| w_done <| k_seq <| w_blk <| awp_seq <| w_reg <| s_q (.bool (kind_1 == 1)) rfl rfl rfl <| s_mov (.bool (kind_1 == 1)) rfl <| w_done <| k_seq <| ?_
 rcases oi hf with ⟨c3, hf⟩ | ⟨c3, hf⟩
 ·refine w_condt rfl c3 <| awp_seq <| w_reg <| ?_
  obtain ⟨r_4, er5, hf⟩ := ob hf
  refine s_mov (.int .i64 kind_1) rfl <| s_mov (.ptr 0 0 0) rfl <| ?_; refine s_do (o_callh (v := (.int .i64 r_4.1)) (h2 := [.box 3 (.agg [(.lst 1 (r_4.2.Code.map enc_u8)), (.int .i64 r_4.2.At), (.int .i64 r_4.2.Seed)]), .box 3 (.agg [(.int .i64 0), (.int .i64 0), (.str [])])]) [] [0] (fun _ => rfl) (w_spec_l00Src_next _ _ _ er5) rfl (.refl _) (.refl _) rfl rfl) ?_; refine s_q (.int .i64 (w64 (r_4.1 - 4))) rfl rfl rfl <| s_q (.agg [(.int .i64 kind_1), (.int .i64 (w64 (r_4.1 - 4))), (.str [])]) rfl ⟨⟨rfl, nle, trivial⟩, ⟨⟨rfl, nle, trivial⟩, trivial⟩⟩ rfl <| s_do0 (o_storebox (v := (.agg [(.int .i64 kind_1), (.int .i64 (w64 (r_4.1 - 4))), (.str [])])) (y' := (.agg [(.int .i64 kind_1), (.int .i64 (w64 (r_4.1 - 4))), (.str [])])) rfl rfl rfl trivial ⟨rfl, nle⟩ ⟨⟨rfl, trivial⟩, ⟨⟨rfl, trivial⟩, ⟨⟨rfl, trivial⟩, trivial⟩⟩⟩ rfl) <| ?_
  refine w_done <| k_seq <| w_ret <| ?_; obtain rfl := os hf; exact r_heap [] [0] rfl ⟨nle, trivial⟩ rfl (.refl _) (.refl _)
 ·refine w_condf rfl (bf c3) <| awp_seq <| w_reg <| s_q (.bool (kind_1 == 2)) rfl rfl rfl <| s_mov (.bool (kind_1 == 2)) rfl <| w_done <| k_seq <| ?_
  rcases oi hf with ⟨c6, hf⟩ | ⟨c6, hf⟩
  ·refine w_condt rfl c6 <| awp_seq <| w_reg <| ?_
   obtain ⟨r_7, er8, hf⟩ := ob hf
   refine s_mov (.int .i64 kind_1) rfl <| s_mov (.ptr 0 0 0) rfl <| ?_; refine s_do (o_bslice (j := 2) (as' := [(.str []), (.str [97]), (.str [98]), (.str [99]), (.str [110, 101, 116])]) rfl (fun _ => by decide) ⟨rfl, ⟨rfl, ⟨rfl, ⟨rfl, ⟨rfl, trivial⟩⟩⟩⟩⟩ (.refl _) rfl rfl rfl) ?_; refine s_do (o_callh (v := (.str r_7.1)) (h2 := [.box 3 (.agg [(.lst 1 (r_7.2.Code.map enc_u8)), (.int .i64 r_7.2.At), (.int .i64 r_7.2.Seed)]), .box 3 (.agg [(.int .i64 0), (.int .i64 0), (.str [])]), .dead]) [false, true] [0] (fun h => absurd (show false = true from h) (by decide)) (w_spec_l00Src_pick _ _ _ er8) rfl (.cons (.refl _) (.cons (.of_eq (congrArg (AV.lst _) (tko [[], [97], [98], [99], [110, 101, 116]]))) .nil)) (.refl _) rfl rfl) ?_
   refine s_q (.agg [(.int .i64 kind_1), (.int .i64 0), (.str r_7.1)]) rfl ⟨⟨rfl, nle, trivial⟩, ⟨⟨rfl, nle, trivial⟩, trivial⟩⟩ rfl <| s_do0 (o_storebox (v := (.agg [(.int .i64 kind_1), (.int .i64 0), (.str r_7.1)])) (y' := (.agg [(.int .i64 kind_1), (.int .i64 0), (.str r_7.1)])) rfl rfl rfl trivial ⟨rfl, nle⟩ ⟨⟨rfl, trivial⟩, ⟨⟨rfl, trivial⟩, ⟨⟨rfl, trivial⟩, trivial⟩⟩⟩ rfl) <| w_done <| k_seq <| w_ret <| ?_; obtain rfl := os hf; exact r_heap [] [0] rfl ⟨nle, trivial⟩ rfl (.refl _) (.refl _)
  ·refine w_condf rfl (bf c6) <| awp_seq <| w_reg <| s_q (.bool (kind_1 == 3)) rfl rfl rfl <| s_mov (.bool (kind_1 == 3)) rfl <| w_done <| k_seq <| ?_
   rcases oi hf with ⟨c9, hf⟩ | ⟨c9, hf⟩
   ·refine w_condt rfl c9 <| awp_seq <| w_reg <| ?_
    obtain ⟨r_10, er11, hf⟩ := ob hf
    refine s_mov (.int .i64 kind_1) rfl <| s_mov (.ptr 0 0 0) rfl <| ?_; refine s_do (o_callh (v := (.int .i64 r_10.1)) (h2 := [.box 3 (.agg [(.lst 1 (r_10.2.Code.map enc_u8)), (.int .i64 r_10.2.At), (.int .i64 r_10.2.Seed)]), .box 3 (.agg [(.int .i64 0), (.int .i64 0), (.str [])])]) [] [0] (fun _ => rfl) (w_spec_l00Src_next _ _ _ er11) rfl (.refl _) (.refl _) rfl rfl) ?_; refine s_q (.agg [(.int .i64 kind_1), (.int .i64 r_10.1), (.str [])]) rfl ⟨⟨rfl, nle, trivial⟩, ⟨⟨rfl, nle, trivial⟩, trivial⟩⟩ rfl <| s_do0 (o_storebox (v := (.agg [(.int .i64 kind_1), (.int .i64 r_10.1), (.str [])])) (y' := (.agg [(.int .i64 kind_1), (.int .i64 r_10.1), (.str [])])) rfl rfl rfl trivial ⟨rfl, nle⟩ ⟨⟨rfl, trivial⟩, ⟨⟨rfl, trivial⟩, ⟨⟨rfl, trivial⟩, trivial⟩⟩⟩ rfl) <| ?_
    refine w_done <| k_seq <| w_ret <| ?_; obtain rfl := os hf; exact r_heap [] [0] rfl ⟨nle, trivial⟩ rfl (.refl _) (.refl _)
   ·refine w_condf rfl (bf c9) <| w_skip <| k_blk <| k_seq <| awp_seq <| w_reg <| ?_
    obtain ⟨r_12, er13, hf⟩ := ob hf
    refine s_mov (.ptr 0 0 0) rfl ?_; refine s_do (o_callh (v := (.int .i64 r_12.1)) (h2 := [.box 3 (.agg [(.lst 1 (r_12.2.Code.map enc_u8)), (.int .i64 r_12.2.At), (.int .i64 r_12.2.Seed)]), .box 3 (.agg [(.int .i64 0), (.int .i64 0), (.str [])])]) [] [0] (fun _ => rfl) (w_spec_l00Src_next _ _ _ er13) rfl (.refl _) (.refl _) rfl rfl) ?_; refine s_q (.int .i64 (w64 (1 + r_12.1))) rfl rfl rfl <| s_q (.agg [(.int .i64 4), (.int .i64 (w64 (1 + r_12.1))), (.str [])]) rfl ⟨⟨rfl, nle, trivial⟩, ⟨⟨rfl, nle, trivial⟩, trivial⟩⟩ rfl <| s_do0 (o_storebox (v := (.agg [(.int .i64 4), (.int .i64 (w64 (1 + r_12.1))), (.str [])])) (y' := (.agg [(.int .i64 4), (.int .i64 (w64 (1 + r_12.1))), (.str [])])) rfl rfl rfl trivial ⟨rfl, nle⟩ ⟨⟨rfl, trivial⟩, ⟨⟨rfl, trivial⟩, ⟨⟨rfl, trivial⟩, trivial⟩⟩⟩ rfl) <| ?_
    refine w_done <| k_seq <| w_ret <| ?_; obtain rfl := os hf; exact r_heap [] [0] rfl ⟨nle, trivial⟩ rfl (.refl _) (.refl _)

/- spec.l03Has -/
def c261 : ACode :=
 (.seq (.reg (tq 3 (.box 3 (.t 1)) (tm 4 (.c (.bool false)) .done)))
 (.seq (.seq (.reg (tm 5 (.c (.int .i64 0)) .done))
 (.block 0 (.loop (.seq (.seq (.reg (tm 6 (.t 5) (tm 7 (.t 0) (tq 8 (.len (.t 7)) (tq 9 (.bin .lss (.t 6) (.t 8)) .done)))))
 (.cond (.t 9) .skip
 (.exit 0)))
 (.seq (.block 1 (.seq (.reg (tm 12 (.t 0) (tm 13 (.t 5) (tq 14 (.iaddr 3 (.t 12) (.t 13)) (tq 15 (.load 3 true (.t 14)) (tq 16 (.load 3 true (.t 3)) (tq 17 (.eqs false [0, 0, 2] (.t 15) (.t 16)) .done)))))))
 (.cond (.t 17) (.seq (.reg (tm 4 (.c (.bool true)) .done))
 .ret)
 .skip)))
 (.reg (tm 10 (.t 5) (tq 11 (.bin .add (.t 10) (.c (.int .i64 1))) (tm 5 (.t 11) .done)))))))))
 (.cut (.seq (.reg (tm 4 (.c (.bool false)) .done))
 .ret))))
theorem fc261 : fcomp Try.prog Try.f261 = some (c261.erase, [.mov (.t 4)], 18) := by kernel_rfl
def spec_l03Has_L1 (a_2 : GAtom) : List GAtom → Option (Fl Bool Unit)
  | [] =>
    some (.go ())
  | x_28 :: xs =>
    if (x_28.Kind == a_2.Kind && (x_28.N == a_2.N && (x_28.T == a_2.T && true))) then
    some (.ret true)
    else
    spec_l03Has_L1 a_2 xs 

def spec_l03Has (d_1 : (List GAtom)) (a_2 : GAtom) : Option Bool :=
    (spec_l03Has_L1 a_2 d_1 ).bind fun q => (match q with
    | .ret r => some r
    | .go _ =>
    some false)
theorem w_spec_l03Has (d_1 : (List GAtom)) (a_2 : GAtom) (r : Bool) (hf : spec_l03Has d_1 a_2 = some r) : CallOK Try.prog 261 .flat [(.lst 3 (d_1.map encGAtom)), (encGAtom a_2)] (.bool r) := by
 refine CallOK.of_awp mixed Try.func261 fc261 nle ?_; rw [argT_eq]; unfold spec_l03Has at hf; unfold c261; refine (show awp Try.prog false 0 _ (ofL [(0, (.lst 3 (d_1.map encGAtom))), (1, (encGAtom a_2))]) [] _ from ?_); refine awp_seq <| w_reg <| s_do (o_box (j := 0) (c := (.agg [(.int .i64 a_2.Kind), (.int .i64 a_2.N), (.str a_2.T)])) rfl trivial rfl rfl) <| s_mov (.bool false) rfl <| w_done <| k_seq <| awp_seq <| awp_seq <| w_reg <| s_mov (.int .i64 0) rfl <| w_done <| k_seq <| ?_
 obtain ⟨p21, hb1, hf⟩ := ob hf
 refine awp_cutx (X := {q : Unit // p21 = .go q}) (fun q => ([], [])) ?_ ?_
 ·refine awp_loop (X := {q : Nat // spec_l03Has_L1 a_2 (d_1.drop q)  = some p21}) (fun q => ([(0, (.lst 3 (d_1.map encGAtom))), (3, (.ptr 0 0 0)), (5, (.int .i64 (q.1 : Int)))], [.box 3 (.agg [(.int .i64 a_2.Kind), (.int .i64 a_2.N), (.str a_2.T)])])) (fun q => d_1.length - q.1) ⟨0, hb1⟩ ⟨[], [0], _, _, rfl, rfl, ⟨.refl _, ⟨.refl _, ⟨.refl _, trivial⟩⟩⟩, (.refl _)⟩ ?_
  rintro ⟨i_14, hc1⟩
  have hc1 : spec_l03Has_L1 a_2 (d_1.drop i_14)  = some p21 := hc1
  refine (show awp Try.prog false 0 _ (ofL [(0, (.lst 3 (d_1.map encGAtom))), (3, (.ptr 0 0 0)), (5, (.int .i64 (i_14 : Int)))]) [.box 3 (.agg [(.int .i64 a_2.Kind), (.int .i64 a_2.N), (.str a_2.T)])] _ from ?_)
  rcases dropc d_1 i_14 with ⟨hie24, hd27⟩ | ⟨hlt22, x_28, hx23, hd27⟩
  ·rw [hd27, spec_l03Has_L1.eq_1] at hc1
   have hq26 := dlf hie24
   refine awp_seq <| awp_seq <| w_reg <| s_mov (.int .i64 (i_14 : Int)) rfl <| s_mov (.lst 3 (d_1.map encGAtom)) rfl <| s_dof (o_len (enc := encGAtom) rfl) fun hl29 => s_q (.bool (decide ((i_14 : Int) < (d_1.length : Int)))) rfl rfl rfl <| w_done <| k_seq <| w_condf rfl hq26 <| w_exit <| k_seqx <| k_loopx <| k_blkx <| ?_; obtain rfl := os hc1; exact k_cutn ⟨_, rfl⟩ ⟨[], [], _, _, rfl, rfl, trivial, (.refl _)⟩
  ·rw [hd27, spec_l03Has_L1.eq_2] at hc1
   have hq26 := dlt hlt22
   refine awp_seq <| awp_seq <| w_reg <| s_mov (.int .i64 (i_14 : Int)) rfl <| s_mov (.lst 3 (d_1.map encGAtom)) rfl <| s_dof (o_len (enc := encGAtom) rfl) fun hl30 => s_q (.bool (decide ((i_14 : Int) < (d_1.length : Int)))) rfl rfl rfl <| w_done <| k_seq <| w_condt rfl hq26 <| w_skip <| k_seq <| awp_seq <| w_blk <| awp_seq <| w_reg <| s_mov (.lst 3 (d_1.map encGAtom)) rfl <| s_mov (.int .i64 (i_14 : Int)) rfl <| s_do (o_iaddrn (enc := encGAtom) rfl rfl hx23) <| s_q (encGAtom x_28) rfl nle rfl <| s_q (.agg [(.int .i64 a_2.Kind), (.int .i64 a_2.N), (.str a_2.T)]) rfl nle rfl <| s_q (.bool (x_28.Kind == a_2.Kind && (x_28.N == a_2.N && (x_28.T == a_2.T && true)))) rfl ⟨⟨rfl, rfl⟩, ⟨⟨rfl, rfl⟩, ⟨rfl, trivial⟩⟩⟩ rfl <| ?_
   refine w_done <| k_seq <| ?_
   rcases oi hc1 with ⟨c31, hc1⟩ | ⟨c31, hc1⟩
   ·refine w_condt rfl c31 <| awp_seq <| w_reg <| s_mov (.bool true) rfl <| w_done <| k_seq <| w_ret <| ?_; obtain rfl := os hc1; obtain rfl := os hf; exact r_flat ⟨trivial, trivial⟩ rfl (.refl _)
   ·refine w_condf rfl (bf c31) <| w_skip <| k_blk <| k_seq <| w_reg <| s_mov (.int .i64 (i_14 : Int)) rfl <| s_q (.int .i64 (w64 ((i_14 : Int) + 1))) rfl rfl rfl <| s_mov (.int .i64 (w64 ((i_14 : Int) + 1))) rfl <| w_done <| ?_; exact k_loopn ⟨(i_14 + 1), hc1⟩ (mul hlt22) ⟨[], [0], _, _, rfl, rfl, ⟨.refl _, ⟨.refl _, ⟨.of_eq (congrArg (AV.int _) (w64_incr hlt22 hl30)), trivial⟩⟩⟩, (.refl _)⟩
 ·rintro ⟨_, rfl⟩
  refine awp_seq <| w_reg <| s_mov (.bool false) rfl <| w_done <| k_seq <| w_ret <| ?_; obtain rfl := os hf; exact r_flat ⟨trivial, trivial⟩ rfl (.refl _)

/- spec.l01Bit -/
def c241 : ACode :=
 (.seq (.reg (tm 2 (.c (.int .i64 0)) .done))
 (.seq (.seq (.reg (tm 3 (.t 0) .done))
 (.cond (.t 3) (.seq (.reg (tm 2 (.c (.int .i64 1)) .done))
 .ret)
 .skip))
 (.seq (.reg (tm 2 (.c (.int .i64 0)) .done))
 .ret)))
theorem fc241 : fcomp Try.prog Try.f241 = some (c241.erase, [.mov (.t 2)], 4) := by kernel_rfl
def spec_l01Bit (b_1 : Bool) : Option Int :=
    if b_1 then
    some 1
    else
    some 0
theorem w_spec_l01Bit (b_1 : Bool) (r : Int) (hf : spec_l01Bit b_1 = some r) : CallOK Try.prog 241 .flat [(.bool b_1)] (.int .i64 r) := by
  refine CallOK.of_awp mixed Try.func241 fc241 nle ?_
  rw [argT_eq]
  unfold spec_l01Bit at hf
  unfold c241
  refine (show awp Try.prog false 0 _ (ofL [(0, (.bool b_1))]) [] _ from ?_)
  refine awp_seq ?_
  refine w_reg ?_
  refine s_do (o_mov (.int .i64 0) rfl) ?_
  refine w_done ?_
  refine k_seq ?_
  refine awp_seq ?_
  refine awp_seq ?_
  refine w_reg ?_
  refine s_do (o_mov (.bool b_1) rfl) ?_
  refine w_done ?_
  refine k_seq ?_
  rcases oi hf with ⟨c2, hf⟩ | ⟨c2, hf⟩
  · refine w_condt rfl c2 ?_
    refine awp_seq ?_
    refine w_reg ?_
    refine s_do (o_mov (.int .i64 1) rfl) ?_
    refine w_done ?_
    refine k_seq ?_
    refine w_ret ?_
    obtain rfl := os hf
    exact r_flat ⟨trivial, trivial⟩ rfl (.refl _)
  · refine w_condf rfl (bf c2) ?_
    refine w_skip ?_
    refine k_seq ?_
    refine awp_seq ?_
    refine w_reg ?_
    refine s_do (o_mov (.int .i64 0) rfl) ?_
    refine w_done ?_
    refine k_seq ?_
    refine w_ret ?_
    obtain rfl := os hf
    exact r_flat ⟨trivial, trivial⟩ rfl (.refl _)

/- spec.l03Order -/
def c172 : ACode :=
 (.seq (.reg (tq 2 (.box 3 (.t 0)) (tq 3 (.box 3 (.t 1)) (tm 4 (.c (.int .i64 0)) .done))))
 (.seq (.block 0 (.seq (.reg (tq 6 (.faddr 0 (.t 2)) (tq 7 (.load 1 false (.t 6)) (tq 8 (.faddr 0 (.t 3)) (tq 9 (.load 1 false (.t 8)) (tq 10 (.bin .neq (.t 7) (.t 9)) (tm 5 (.t 10) .done)))))))
 (.cond (.t 5) (.seq (.reg (tq 11 (.faddr 0 (.t 2)) (tq 12 (.load 1 false (.t 11)) (tq 13 (.faddr 0 (.t 3)) (tq 14 (.load 1 false (.t 13)) (tq 15 (.bin .lss (.t 12) (.t 14)) (tq 16 (.call 241 [(.t 15)]) (tq 17 (.bin .mul (.c (.int .i64 2)) (.t 16)) (tq 18 (.bin .sub (.c (.int .i64 1)) (.t 17)) (tm 4 (.t 18) .done))))))))))
 .ret)
 (.seq (.reg (tq 20 (.faddr 1 (.t 2)) (tq 21 (.load 1 false (.t 20)) (tq 22 (.faddr 1 (.t 3)) (tq 23 (.load 1 false (.t 22)) (tq 24 (.bin .neq (.t 21) (.t 23)) (tm 19 (.t 24) .done)))))))
 (.cond (.t 19) (.seq (.reg (tq 25 (.faddr 1 (.t 2)) (tq 26 (.load 1 false (.t 25)) (tq 27 (.faddr 1 (.t 3)) (tq 28 (.load 1 false (.t 27)) (tq 29 (.bin .lss (.t 26) (.t 28)) (tq 30 (.call 241 [(.t 29)]) (tq 31 (.bin .mul (.c (.int .i64 2)) (.t 30)) (tq 32 (.bin .sub (.c (.int .i64 1)) (.t 31)) (tm 4 (.t 32) .done))))))))))
 .ret)
 (.seq (.reg (tq 34 (.faddr 2 (.t 2)) (tq 35 (.load 1 false (.t 34)) (tq 36 (.faddr 2 (.t 3)) (tq 37 (.load 1 false (.t 36)) (tq 38 (.bin .neq (.t 35) (.t 37)) (tm 33 (.t 38) .done)))))))
 (.cond (.t 33) (.seq (.reg (tq 39 (.faddr 2 (.t 2)) (tq 40 (.load 1 false (.t 39)) (tq 41 (.faddr 2 (.t 3)) (tq 42 (.load 1 false (.t 41)) (tq 43 (.bin .lss (.t 40) (.t 42)) (tq 44 (.call 241 [(.t 43)]) (tq 45 (.bin .mul (.c (.int .i64 2)) (.t 44)) (tq 46 (.bin .sub (.c (.int .i64 1)) (.t 45)) (tm 4 (.t 46) .done))))))))))
 .ret)
 .skip)))))))
 (.seq (.reg (tm 4 (.c (.int .i64 0)) .done))
 .ret)))
theorem fc172 : fcomp Try.prog Try.f172 = some (c172.erase, [.mov (.t 4)], 47) := by kernel_rfl
def spec_l03Order (a_1 : GAtom) (b_2 : GAtom) : Option Int :=
    if (a_1.Kind != b_2.Kind) then
    (spec_l01Bit (decide (a_1.Kind < b_2.Kind))).bind fun r_4 =>
    some (w64 (1 - (w64 (2 * r_4))))
    else
    if (a_1.N != b_2.N) then
    (spec_l01Bit (decide (a_1.N < b_2.N))).bind fun r_7 =>
    some (w64 (1 - (w64 (2 * r_7))))
    else
    if (!(a_1.T == b_2.T)) then
    (spec_l01Bit (Op.bytesLess a_1.T b_2.T)).bind fun r_10 =>
    some (w64 (1 - (w64 (2 * r_10))))
    else
    some 0
theorem w_spec_l03Order (a_1 : GAtom) (b_2 : GAtom) (r : Int) (hf : spec_l03Order a_1 b_2 = some r) : CallOK Try.prog 172 .flat [(encGAtom a_1), (encGAtom b_2)] (.int .i64 r) := by
 refine CallOK.of_awp mixed Try.func172 fc172 nle ?_; rw [argT_eq]; unfold spec_l03Order at hf; unfold c172; refine (show awp Try.prog false 0 _ (ofL [(0, (encGAtom a_1)), (1, (encGAtom b_2))]) [] _ from ?_); refine awp_seq <| w_reg <| s_do (o_box (j := 0) (c := (.agg [(.int .i64 a_1.Kind), (.int .i64 a_1.N), (.str a_1.T)])) rfl trivial rfl rfl) <| s_do (o_box (j := 1) (c := (.agg [(.int .i64 b_2.Kind), (.int .i64 b_2.N), (.str b_2.T)])) rfl trivial rfl rfl) <| s_mov (.int .i64 0) rfl <| w_done <| k_seq <| awp_seq <| w_blk <| awp_seq <| w_reg <| s_q (.ptr 0 0 0) rfl trivial rfl <| s_q (.int .i64 a_1.Kind) rfl nle rfl <| s_q (.ptr 1 0 0) rfl trivial rfl <| s_q (.int .i64 b_2.Kind) rfl nle rfl <| s_q (.bool (a_1.Kind != b_2.Kind)) rfl rfl rfl <| ?_
 refine s_mov (.bool (a_1.Kind != b_2.Kind)) rfl <| w_done <| k_seq <| ?_
 rcases oi hf with ⟨c3, hf⟩ | ⟨c3, hf⟩
 ·refine w_condt rfl c3 <| awp_seq <| w_reg <| ?_
  obtain ⟨r_4, er5, hf⟩ := ob hf
  refine s_q (.ptr 0 0 0) rfl trivial rfl <| s_q (.int .i64 a_1.Kind) rfl nle rfl <| s_q (.ptr 1 0 0) rfl trivial rfl <| s_q (.int .i64 b_2.Kind) rfl nle rfl <| s_q (.bool (decide (a_1.Kind < b_2.Kind))) rfl rfl rfl <| s_do (o_call (w_spec_l01Bit _ _ er5) rfl (.refl _) rfl) <| s_q (.int .i64 (w64 (2 * r_4))) rfl rfl rfl <| s_q (.int .i64 (w64 (1 - (w64 (2 * r_4))))) rfl rfl rfl <| s_mov (.int .i64 (w64 (1 - (w64 (2 * r_4))))) rfl <| w_done <| k_seq <| w_ret <| ?_; obtain rfl := os hf; exact r_flat ⟨trivial, trivial⟩ rfl (.refl _)
 ·refine w_condf rfl (bf c3) <| awp_seq <| w_reg <| s_q (.ptr 0 0 1) rfl trivial rfl <| s_q (.int .i64 a_1.N) rfl nle rfl <| s_q (.ptr 1 0 1) rfl trivial rfl <| s_q (.int .i64 b_2.N) rfl nle rfl <| s_q (.bool (a_1.N != b_2.N)) rfl rfl rfl <| s_mov (.bool (a_1.N != b_2.N)) rfl <| w_done <| k_seq <| ?_
  rcases oi hf with ⟨c6, hf⟩ | ⟨c6, hf⟩
  ·refine w_condt rfl c6 <| awp_seq <| w_reg <| ?_
   obtain ⟨r_7, er8, hf⟩ := ob hf
   refine s_q (.ptr 0 0 1) rfl trivial rfl <| s_q (.int .i64 a_1.N) rfl nle rfl <| s_q (.ptr 1 0 1) rfl trivial rfl <| s_q (.int .i64 b_2.N) rfl nle rfl <| s_q (.bool (decide (a_1.N < b_2.N))) rfl rfl rfl <| s_do (o_call (w_spec_l01Bit _ _ er8) rfl (.refl _) rfl) <| s_q (.int .i64 (w64 (2 * r_7))) rfl rfl rfl <| s_q (.int .i64 (w64 (1 - (w64 (2 * r_7))))) rfl rfl rfl <| s_mov (.int .i64 (w64 (1 - (w64 (2 * r_7))))) rfl <| w_done <| k_seq <| w_ret <| ?_; obtain rfl := os hf; exact r_flat ⟨trivial, trivial⟩ rfl (.refl _)
  ·refine w_condf rfl (bf c6) <| awp_seq <| w_reg <| s_q (.ptr 0 0 2) rfl trivial rfl <| s_q (.str a_1.T) rfl nle rfl <| s_q (.ptr 1 0 2) rfl trivial rfl <| s_q (.str b_2.T) rfl nle rfl <| s_q (.bool (!(a_1.T == b_2.T))) rfl trivial rfl <| s_mov (.bool (!(a_1.T == b_2.T))) rfl <| w_done <| k_seq <| ?_
   rcases oi hf with ⟨c9, hf⟩ | ⟨c9, hf⟩
   ·refine w_condt rfl c9 <| awp_seq <| w_reg <| ?_
    obtain ⟨r_10, er11, hf⟩ := ob hf
    refine s_q (.ptr 0 0 2) rfl trivial rfl <| s_q (.str a_1.T) rfl nle rfl <| s_q (.ptr 1 0 2) rfl trivial rfl <| s_q (.str b_2.T) rfl nle rfl <| s_q (.bool (Op.bytesLess a_1.T b_2.T)) rfl trivial rfl <| s_do (o_call (w_spec_l01Bit _ _ er11) rfl (.refl _) rfl) <| s_q (.int .i64 (w64 (2 * r_10))) rfl rfl rfl <| s_q (.int .i64 (w64 (1 - (w64 (2 * r_10))))) rfl rfl rfl <| s_mov (.int .i64 (w64 (1 - (w64 (2 * r_10))))) rfl <| w_done <| k_seq <| w_ret <| ?_; obtain rfl := os hf; exact r_flat ⟨trivial, trivial⟩ rfl (.refl _)
   ·refine w_condf rfl (bf c9) <| w_skip <| k_blk <| k_seq <| awp_seq <| w_reg <| s_mov (.int .i64 0) rfl <| w_done <| k_seq <| w_ret <| ?_; obtain rfl := os hf; exact r_flat ⟨trivial, trivial⟩ rfl (.refl _)

/- spec.l03Put -/
def c216 : ACode :=
 (.seq (.reg (tq 3 (.box 3 (.t 1)) (tm 4 (.c .nil) .done)))
 (.seq (.seq (.reg (tm 6 (.t 0) (tq 7 (.load 3 true (.t 3)) (tq 8 (.call 261 [(.t 6), (.t 7)]) .done))))
 (.cond (.t 8) (.seq (.reg (tm 9 (.t 0) (tm 4 (.t 9) .done)))
 .ret)
 .skip))
 (.seq (.reg (tm 10 (.t 0) (tq 11 (.len (.t 10)) (tm 5 (.t 11) .done))))
 (.seq (.block 0 (.loop (.seq (.seq (.reg (tm 12 (.t 5) (tq 13 (.bin .gtr (.t 12) (.c (.int .i64 0))) (tm 14 (.t 13) (tg 15 14 true (.mov (.t 0)) (tg 16 14 true (.mov (.t 5)) (tg 17 14 true (.bin .sub (.t 16) (.c (.int .i64 1))) (tg 18 14 true (.iaddr 3 (.t 15) (.t 17)) (tg 19 14 true (.load 3 true (.t 18)) (tg 20 14 true (.load 3 true (.t 3)) (.l ⟨(some 21), (some (14, true)), .call 172 [(.t 19), (.t 20)]⟩ []
 (tg 22 14 true (.bin .gtr (.t 21) (.c (.int .i64 0))) (tq 23 (.pick (.t 14) (.t 22) (.c (.bool false))) .done)) .non)))))))))))
 (.cut (.cond (.t 23) .skip
 (.exit 0))))
 (.block 1 (.reg (tm 24 (.t 5) (tq 25 (.bin .sub (.t 24) (.c (.int .i64 1))) (tm 5 (.t 25) .done))))))))
 (.cut (.seq (.reg (tm 27 (.t 0) (tm 28 (.t 5) (tq 29 (.slice 3 (.t 27) none (some (.t 28))) (tq 31 (.load 3 true (.t 3)) (tm 34 (.t 0) (tm 35 (.t 5) (tq 36 (.slice 3 (.t 34) (some (.t 35)) none) (.l ⟨(some 26), none, .bslice 3 []⟩ [⟨(some 36), none, .slice 3 (.t 34) (some (.t 35)) none⟩, ⟨(some 31), none, .load 3 true (.t 3)⟩, ⟨(some 29), none, .slice 3 (.t 27) none (some (.t 28))⟩]
 (.l ⟨(some 30), none, .append 3 32 (.t 26) (.t 29)⟩ [⟨(some 36), none, .slice 3 (.t 34) (some (.t 35)) none⟩, ⟨(some 31), none, .load 3 true (.t 3)⟩]
 (.l ⟨(some 32), none, .bslice 3 [(.t 31)]⟩ [⟨(some 36), none, .slice 3 (.t 34) (some (.t 35)) none⟩, ⟨(some 29), none, .slice 3 (.t 27) none (some (.t 28))⟩]
 (.l ⟨(some 33), none, .append 3 32 (.t 30) (.t 32)⟩ [⟨(some 36), none, .slice 3 (.t 34) (some (.t 35)) none⟩]
 (.l ⟨(some 37), none, .append 3 32 (.t 33) (.t 36)⟩ []
 (tm 4 (.t 37) .done) .non) .non) .non) (.l ⟨(some 32), none, .bslice 3 [(.t 31)]⟩ [⟨(some 36), none, .slice 3 (.t 34) (some (.t 35)) none⟩, ⟨(some 29), none, .slice 3 (.t 27) none (some (.t 28))⟩]
 (.l ⟨(some 30), none, .append 3 32 (.t 26) (.t 29)⟩ [⟨(some 36), none, .slice 3 (.t 34) (some (.t 35)) none⟩, ⟨(some 31), none, .load 3 true (.t 3)⟩]
 (.l ⟨(some 33), none, .append 3 32 (.t 30) (.t 32)⟩ [⟨(some 36), none, .slice 3 (.t 34) (some (.t 35)) none⟩]
 (.l ⟨(some 37), none, .append 3 32 (.t 33) (.t 36)⟩ []
 (tm 4 (.t 37) .done) .non) .non) .non) .non)) (.l ⟨(some 32), none, .bslice 3 [(.t 31)]⟩ [⟨(some 36), none, .slice 3 (.t 34) (some (.t 35)) none⟩, ⟨(some 29), none, .slice 3 (.t 27) none (some (.t 28))⟩]
 (.l ⟨(some 26), none, .bslice 3 []⟩ [⟨(some 36), none, .slice 3 (.t 34) (some (.t 35)) none⟩, ⟨(some 31), none, .load 3 true (.t 3)⟩, ⟨(some 29), none, .slice 3 (.t 27) none (some (.t 28))⟩]
 (.l ⟨(some 30), none, .append 3 32 (.t 26) (.t 29)⟩ [⟨(some 36), none, .slice 3 (.t 34) (some (.t 35)) none⟩, ⟨(some 31), none, .load 3 true (.t 3)⟩]
 (.l ⟨(some 33), none, .append 3 32 (.t 30) (.t 32)⟩ [⟨(some 36), none, .slice 3 (.t 34) (some (.t 35)) none⟩]
 (.l ⟨(some 37), none, .append 3 32 (.t 33) (.t 36)⟩ []
 (tm 4 (.t 37) .done) .non) .non) .non) .non) .non))))))))))
 .ret))))))
theorem fc216 : fcomp Try.prog Try.f216 = some (c216.erase, [.mov (.t 4)], 38) := by kernel_rfl
def spec_l03Put_L1 (d_1 : (List GAtom)) (a_2 : GAtom) : Nat → Int → Option Int
  | 0, _ => none
  | k + 1, k_34 =>
    ((if (decide (k_34 > 0)) then
    (idx d_1 (w64 (k_34 - 1))).bind fun x_58 =>
    (spec_l03Order x_58 a_2).bind fun r_60 =>
    some (decide (r_60 > 0))
    else
    some false : Option Bool)).bind fun s23_55 =>
    if s23_55 then
    spec_l03Put_L1 d_1 a_2 k (w64 (k_34 - 1))
    else
    some k_34

def spec_l03Put (d_1 : (List GAtom)) (a_2 : GAtom) : Option (List GAtom) :=
    (spec_l03Has d_1 a_2).bind fun r_3 =>
    if r_3 then
    some d_1
    else
    (spec_l03Put_L1 d_1 a_2 FUEL (d_1.length : Int)).bind fun k_48 =>
    if (0 : Int) ≤ k_48 ∧ k_48 ≤ (d_1.length : Int) then
    if (0 : Int) ≤ k_48 ∧ k_48 ≤ (d_1.length : Int) then
    if ([] ++ (d_1.take k_48.toNat)).length ≤ 2 ^ 30 then
    if (([] ++ (d_1.take k_48.toNat)) ++ [a_2]).length ≤ 2 ^ 30 then
    if ((([] ++ (d_1.take k_48.toNat)) ++ [a_2]) ++ (d_1.drop k_48.toNat)).length ≤ 2 ^ 30 then
    some ((([] ++ (d_1.take k_48.toNat)) ++ [a_2]) ++ (d_1.drop k_48.toNat))
    else none
    else none
    else none
    else none
    else none
theorem w_spec_l03Put (d_1 : (List GAtom)) (a_2 : GAtom) (r : (List GAtom)) (hf : spec_l03Put d_1 a_2 = some r) : CallOK Try.prog 216 .weak [(.lst 3 (d_1.map encGAtom)), (encGAtom a_2)] (.lst 3 (r.map encGAtom)) := by
 refine CallOK.of_awp mixed Try.func216 fc216 nle ?_; rw [argT_eq]; unfold spec_l03Put at hf; unfold c216; refine (show awp Try.prog false 0 _ (ofL [(0, (.lst 3 (d_1.map encGAtom))), (1, (encGAtom a_2))]) [] _ from ?_); refine awp_seq <| w_reg <| s_do (o_box (j := 0) (c := (.agg [(.int .i64 a_2.Kind), (.int .i64 a_2.N), (.str a_2.T)])) rfl trivial rfl rfl) <| s_mov .nil rfl <| w_done <| k_seq <| awp_seq <| awp_seq <| w_reg <| ?_
 obtain ⟨r_3, er4, hf⟩ := ob hf
 refine s_mov (.lst 3 (d_1.map encGAtom)) rfl <| s_q (.agg [(.int .i64 a_2.Kind), (.int .i64 a_2.N), (.str a_2.T)]) rfl nle rfl <| s_do (o_call (w_spec_l03Has _ _ _ er4) rfl (.refl _) rfl) <| w_done <| k_seq <| ?_
 rcases oi hf with ⟨c5, hf⟩ | ⟨c5, hf⟩
 ·refine w_condt rfl c5 <| awp_seq <| w_reg <| s_mov (.lst 3 (d_1.map encGAtom)) rfl <| s_mov (.lst 3 (d_1.map encGAtom)) rfl <| w_done <| k_seq <| w_ret <| ?_; obtain rfl := os hf; exact r_weak ⟨trivial, trivial⟩ rfl (.refl _)
 ·refine w_condf rfl (bf c5) <| w_skip <| k_seq <| awp_seq <| w_reg <| s_mov (.lst 3 (d_1.map encGAtom)) rfl <| s_dof (o_len (enc := encGAtom) rfl) fun hl6 => s_mov (.int .i64 (d_1.length : Int)) rfl <| w_done <| k_seq <| awp_seq <| ?_
  obtain ⟨k_48, hb1, hf⟩ := ob hf
  refine awp_cut ([(0, (.lst 3 (d_1.map encGAtom))), (3, (.ptr 0 0 0)), (5, (.int .i64 k_48))], [.box 3 (.agg [(.int .i64 a_2.Kind), (.int .i64 a_2.N), (.str a_2.T)])]) ?_ ?_
  ·refine awp_loop (X := {q : (Nat × Int) // spec_l03Put_L1 d_1 a_2 q.1 q.2 = some k_48}) (fun q => ([(0, (.lst 3 (d_1.map encGAtom))), (3, (.ptr 0 0 0)), (5, (.int .i64 q.1.2))], [.box 3 (.agg [(.int .i64 a_2.Kind), (.int .i64 a_2.N), (.str a_2.T)])])) (fun q => q.1.1) ⟨(FUEL, (d_1.length : Int)), hb1⟩ ⟨[], [0], _, _, rfl, rfl, ⟨.refl _, ⟨.refl _, ⟨.refl _, trivial⟩⟩⟩, (.refl _)⟩ ?_
   rintro ⟨⟨k, k_34⟩, hc1⟩
   have hc1 : spec_l03Put_L1 d_1 a_2 k k_34 = some k_48 := hc1
   refine (show awp Try.prog false 0 _ (ofL [(0, (.lst 3 (d_1.map encGAtom))), (3, (.ptr 0 0 0)), (5, (.int .i64 k_34))]) [.box 3 (.agg [(.int .i64 a_2.Kind), (.int .i64 a_2.N), (.str a_2.T)])] _ from ?_)
   rcases k with _ | k
   ·rw [spec_l03Put_L1.eq_1] at hc1
    cases hc1
   ·rw [spec_l03Put_L1.eq_2] at hc1; refine awp_seq <| awp_seq <| ?_
    obtain ⟨s23_55, hb2, hc1⟩ := ob hc1
    refine awp_cut ([(0, (.lst 3 (d_1.map encGAtom))), (3, (.ptr 0 0 0)), (5, (.int .i64 k_34)), (23, (.bool s23_55))], [.box 3 (.agg [(.int .i64 a_2.Kind), (.int .i64 a_2.N), (.str a_2.T)])]) ?_ ?_
    ·refine w_reg ?_
     rcases oi hb2 with ⟨c57, hb2⟩ | ⟨c57, hb2⟩
     ·obtain ⟨x_58, ex59, hb2⟩ := ob hb2
      obtain ⟨r_60, er61, hb2⟩ := ob hb2
      refine s_mov (.int .i64 k_34) rfl <| s_q (.bool (decide (k_34 > 0))) rfl rfl rfl <| s_mov (.bool (decide (k_34 > 0))) rfl <| s_lit (s := 14) (b := true) rfl c57 <| s_on rfl <| s_mov (.lst 3 (d_1.map encGAtom)) rfl <| s_on rfl <| s_mov (.int .i64 k_34) rfl <| s_on rfl <| s_q (.int .i64 (w64 (k_34 - 1))) rfl rfl rfl <| s_on rfl <| s_do (o_iaddr (enc := encGAtom) rfl rfl (idx0 ex59) (idx1 ex59)) <| s_on rfl <| s_q (encGAtom x_58) rfl nle rfl <| s_on rfl <| s_q (.agg [(.int .i64 a_2.Kind), (.int .i64 a_2.N), (.str a_2.T)]) rfl nle rfl <| s_onl rfl <| s_dol (o_call (w_spec_l03Order _ _ _ er61) rfl (.refl _) rfl) a_same trivial <| s_on rfl <| s_q (.bool (decide (r_60 > 0))) rfl rfl rfl <| s_q (.bool (decide (r_60 > 0))) rfl trivial rfl <| ?_
      refine w_done ?_; obtain rfl := os hb2; exact ⟨[], [0], _, _, rfl, rfl, ⟨.refl _, ⟨.refl _, ⟨.refl _, ⟨.refl _, trivial⟩⟩⟩⟩, (.refl _)⟩
     ·refine s_mov (.int .i64 k_34) rfl <| s_q (.bool (decide (k_34 > 0))) rfl rfl rfl <| s_mov (.bool (decide (k_34 > 0))) rfl <| s_lit (s := 14) (b := false) rfl (bf c57) <| s_off rfl rfl <| s_off rfl rfl <| s_off rfl rfl <| s_off rfl rfl <| s_off rfl rfl <| s_off rfl rfl <| s_offl rfl rfl trivial <| s_off rfl rfl <| s_q (.bool false) rfl trivial rfl <| w_done <| ?_; obtain rfl := os hb2; exact ⟨[], [0], _, _, rfl, rfl, ⟨.refl _, ⟨.refl _, ⟨.refl _, ⟨.refl _, trivial⟩⟩⟩⟩, (.refl _)⟩
    ·rcases oi hc1 with ⟨c62, hc1⟩ | ⟨c62, hc1⟩
     ·refine w_condt rfl c62 <| w_skip <| k_seq <| w_blk <| w_reg <| s_mov (.int .i64 k_34) rfl <| s_q (.int .i64 (w64 (k_34 - 1))) rfl rfl rfl <| s_mov (.int .i64 (w64 (k_34 - 1))) rfl <| w_done <| k_blk <| ?_; exact k_loopn ⟨(k, w64 (k_34 - 1)), hc1⟩ (Nat.lt_succ_self _) ⟨[], [0], _, _, rfl, rfl, ⟨.refl _, ⟨.refl _, ⟨.refl _, trivial⟩⟩⟩, (.refl _)⟩
     ·refine w_condf rfl (bf c62) <| w_exit <| k_seqx <| k_loopx <| k_blkx <| ?_; obtain rfl := os hc1; exact ⟨[], [0], _, _, rfl, rfl, ⟨.refl _, ⟨.refl _, ⟨.refl _, trivial⟩⟩⟩, (.refl _)⟩
  ·refine awp_seq <| w_reg <| ?_
   obtain ⟨g63, hf⟩ := og hf
   obtain ⟨g64, hf⟩ := og hf
   obtain ⟨g65, hf⟩ := og hf
   obtain ⟨g66, hf⟩ := og hf
   obtain ⟨g67, hf⟩ := og hf
   refine s_mov (.lst 3 (d_1.map encGAtom)) rfl <| s_mov (.int .i64 k_48) rfl <| s_do (o_slt (enc := encGAtom) rfl rfl g63.1 g63.2) <| s_q (.agg [(.int .i64 a_2.Kind), (.int .i64 a_2.N), (.str a_2.T)]) rfl nle rfl <| s_mov (.lst 3 (d_1.map encGAtom)) rfl <| s_mov (.int .i64 k_48) rfl <| s_do (o_sld (enc := encGAtom) rfl rfl g64.1 g64.2) <| ?_; refine s_dol (o_bslice (j := 1) (as' := []) rfl (fun _ => by decide) trivial (.refl _) rfl rfl rfl) (.inr ⟨(ag_sld (enc := encGAtom) rfl rfl g64.1 g64.2), ⟨⟨nle, rfl⟩, ⟨(ag_slt (enc := encGAtom) rfl rfl g63.1 g63.2), trivial⟩⟩⟩) ?_ ?_
   ·refine s_dol (o_bslice (j := 1) (as' := [(encGAtom a_2)]) rfl (fun _ => by decide) ⟨rfl, trivial⟩ (.refl _) rfl rfl rfl) (.inr ⟨(ag_sld (enc := encGAtom) rfl rfl g64.1 g64.2), ⟨(ag_slt (enc := encGAtom) rfl rfl g63.1 g63.2), trivial⟩⟩) trivial ?_; refine s_dol (o_bslice (j := 2) (as' := []) rfl (fun _ => by decide) trivial (.refl _) rfl rfl rfl) (.inr ⟨(ag_sld (enc := encGAtom) rfl rfl g64.1 g64.2), ⟨⟨nle, rfl⟩, ⟨(ag_slt (enc := encGAtom) rfl rfl g63.1 g63.2), trivial⟩⟩⟩) trivial ?_
    refine s_dol (o_appendw (j := 3) (L := (([] ++ (d_1.take k_48.toNat)).map encGAtom)) (len := ([] ++ (d_1.take k_48.toNat)).length) rfl rfl ((by simp)) (by simp <;> omega) g65 rfl rfl) (.inr ⟨(ag_sld (enc := encGAtom) rfl rfl g64.1 g64.2), ⟨⟨nle, rfl⟩, trivial⟩⟩) trivial ?_
    refine s_dol (o_appendw (j := 4) (L := ((([] ++ (d_1.take k_48.toNat)) ++ [a_2]).map encGAtom)) (len := (([] ++ (d_1.take k_48.toNat)) ++ [a_2]).length) rfl rfl (apoc (enc := encGAtom) ([] ++ (d_1.take k_48.toNat)) [a_2] _ (by rfl)) (by simp <;> omega) g66 rfl rfl) (.inr ⟨(ag_sld (enc := encGAtom) rfl rfl g64.1 g64.2), trivial⟩) trivial ?_
    refine s_dol (o_appendw (j := 5) (L := (((([] ++ (d_1.take k_48.toNat)) ++ [a_2]) ++ (d_1.drop k_48.toNat)).map encGAtom)) (len := ((([] ++ (d_1.take k_48.toNat)) ++ [a_2]) ++ (d_1.drop k_48.toNat)).length) rfl rfl (apl (enc := encGAtom) (([] ++ (d_1.take k_48.toNat)) ++ [a_2]) (d_1.drop k_48.toNat)) (by simp <;> omega) g67 rfl rfl) trivial trivial ?_
    refine s_mov (.own 5 0 (((([] ++ (d_1.take k_48.toNat)) ++ [a_2]) ++ (d_1.drop k_48.toNat)).length)) rfl <| w_done <| k_seq <| w_ret <| ?_; obtain rfl := os hf; exact r_weak ⟨trivial, trivial⟩ rfl (.of_eq (congrArg (AV.lst _) (tko (enc := encGAtom) ((([] ++ (d_1.take k_48.toNat)) ++ [a_2]) ++ (d_1.drop k_48.toNat)))))
   ·refine s_dol (o_appendw (j := 2) (L := (([] ++ (d_1.take k_48.toNat)).map encGAtom)) (len := ([] ++ (d_1.take k_48.toNat)).length) rfl rfl ((by simp)) (by simp <;> omega) g65 rfl rfl) (.inr ⟨(ag_sld (enc := encGAtom) rfl rfl g64.1 g64.2), ⟨⟨nle, rfl⟩, trivial⟩⟩) ?_ ?_
    ·refine s_dol (o_bslice (j := 2) (as' := [(encGAtom a_2)]) rfl (fun _ => by decide) ⟨rfl, trivial⟩ (.refl _) rfl rfl rfl) (.inr ⟨(ag_sld (enc := encGAtom) rfl rfl g64.1 g64.2), ⟨(ag_slt (enc := encGAtom) rfl rfl g63.1 g63.2), trivial⟩⟩) trivial ?_
     refine s_dol (o_appendw (j := 3) (L := (([] ++ (d_1.take k_48.toNat)).map encGAtom)) (len := ([] ++ (d_1.take k_48.toNat)).length) rfl rfl ((by simp)) (by simp <;> omega) g65 rfl rfl) (.inr ⟨(ag_sld (enc := encGAtom) rfl rfl g64.1 g64.2), ⟨⟨nle, rfl⟩, trivial⟩⟩) trivial ?_
     refine s_dol (o_appendw (j := 4) (L := ((([] ++ (d_1.take k_48.toNat)) ++ [a_2]).map encGAtom)) (len := (([] ++ (d_1.take k_48.toNat)) ++ [a_2]).length) rfl rfl (apoc (enc := encGAtom) ([] ++ (d_1.take k_48.toNat)) [a_2] _ (by rfl)) (by simp <;> omega) g66 rfl rfl) (.inr ⟨(ag_sld (enc := encGAtom) rfl rfl g64.1 g64.2), trivial⟩) trivial ?_
     refine s_dol (o_appendw (j := 5) (L := (((([] ++ (d_1.take k_48.toNat)) ++ [a_2]) ++ (d_1.drop k_48.toNat)).map encGAtom)) (len := ((([] ++ (d_1.take k_48.toNat)) ++ [a_2]) ++ (d_1.drop k_48.toNat)).length) rfl rfl (apl (enc := encGAtom) (([] ++ (d_1.take k_48.toNat)) ++ [a_2]) (d_1.drop k_48.toNat)) (by simp <;> omega) g67 rfl rfl) trivial trivial ?_
     refine s_mov (.own 5 0 (((([] ++ (d_1.take k_48.toNat)) ++ [a_2]) ++ (d_1.drop k_48.toNat)).length)) rfl <| w_done <| k_seq <| w_ret <| ?_; obtain rfl := os hf; exact r_weak ⟨trivial, trivial⟩ rfl (.of_eq (congrArg (AV.lst _) (tko (enc := encGAtom) ((([] ++ (d_1.take k_48.toNat)) ++ [a_2]) ++ (d_1.drop k_48.toNat)))))
    ·refine s_dol (o_bslice (j := 3) (as' := [(encGAtom a_2)]) rfl (fun _ => by decide) ⟨rfl, trivial⟩ (.refl _) rfl rfl rfl) (.inr ⟨(ag_sld (enc := encGAtom) rfl rfl g64.1 g64.2), ⟨(ag_slt (enc := encGAtom) rfl rfl g63.1 g63.2), trivial⟩⟩) trivial ?_
     refine s_dol (o_appendw (j := 4) (L := ((([] ++ (d_1.take k_48.toNat)) ++ [a_2]).map encGAtom)) (len := (([] ++ (d_1.take k_48.toNat)) ++ [a_2]).length) rfl rfl (apoc (enc := encGAtom) ([] ++ (d_1.take k_48.toNat)) [a_2] _ (by rfl)) (by simp <;> omega) g66 rfl rfl) (.inr ⟨(ag_sld (enc := encGAtom) rfl rfl g64.1 g64.2), trivial⟩) trivial ?_
     refine s_dol (o_appendw (j := 5) (L := (((([] ++ (d_1.take k_48.toNat)) ++ [a_2]) ++ (d_1.drop k_48.toNat)).map encGAtom)) (len := ((([] ++ (d_1.take k_48.toNat)) ++ [a_2]) ++ (d_1.drop k_48.toNat)).length) rfl rfl (apl (enc := encGAtom) (([] ++ (d_1.take k_48.toNat)) ++ [a_2]) (d_1.drop k_48.toNat)) (by simp <;> omega) g67 rfl rfl) trivial trivial ?_
     refine s_mov (.own 5 0 (((([] ++ (d_1.take k_48.toNat)) ++ [a_2]) ++ (d_1.drop k_48.toNat)).length)) rfl <| w_done <| k_seq <| w_ret <| ?_; obtain rfl := os hf; exact r_weak ⟨trivial, trivial⟩ rfl (.of_eq (congrArg (AV.lst _) (tko (enc := encGAtom) ((([] ++ (d_1.take k_48.toNat)) ++ [a_2]) ++ (d_1.drop k_48.toNat)))))

/- spec.l03Put -/
def c216_h0 : ACode :=
 (.seq (.reg (tq 3 (.box 3 (.t 1)) (tm 4 (.c .nil) .done)))
 (.seq (.seq (.reg (tm 6 (.t 0) (tq 7 (.load 3 true (.t 3)) (tq 8 (.call 261 [(.t 6), (.t 7)]) .done))))
 (.cond (.t 8) (.seq (.reg (tm 9 (.t 0) (tm 4 (.t 9) .done)))
 .ret)
 .skip))
 (.seq (.reg (tm 10 (.t 0) (tq 11 (.len (.t 10)) (tm 5 (.t 11) .done))))
 (.seq (.block 0 (.loop (.seq (.seq (.reg (tm 12 (.t 5) (tq 13 (.bin .gtr (.t 12) (.c (.int .i64 0))) (tm 14 (.t 13) (tg 15 14 true (.mov (.t 0)) (tg 16 14 true (.mov (.t 5)) (tg 17 14 true (.bin .sub (.t 16) (.c (.int .i64 1))) (tg 18 14 true (.iaddr 3 (.t 15) (.t 17)) (tg 19 14 true (.load 3 true (.t 18)) (tg 20 14 true (.load 3 true (.t 3)) (.l ⟨(some 21), (some (14, true)), .call 172 [(.t 19), (.t 20)]⟩ []
 (tg 22 14 true (.bin .gtr (.t 21) (.c (.int .i64 0))) (tq 23 (.pick (.t 14) (.t 22) (.c (.bool false))) .done)) .non)))))))))))
 (.cut (.cond (.t 23) .skip
 (.exit 0))))
 (.block 1 (.reg (tm 24 (.t 5) (tq 25 (.bin .sub (.t 24) (.c (.int .i64 1))) (tm 5 (.t 25) .done))))))))
 (.cut (.seq (.reg (tm 27 (.t 0) (tm 28 (.t 5) (tq 29 (.slice 3 (.t 27) none (some (.t 28))) (tq 31 (.load 3 true (.t 3)) (tm 34 (.t 0) (tm 35 (.t 5) (tq 36 (.slice 3 (.t 34) (some (.t 35)) none) (.l ⟨(some 26), none, .bslice 3 []⟩ [⟨(some 36), none, .slice 3 (.t 34) (some (.t 35)) none⟩, ⟨(some 31), none, .load 3 true (.t 3)⟩, ⟨(some 29), none, .slice 3 (.t 27) none (some (.t 28))⟩]
 (.l ⟨(some 30), none, .append 3 32 (.t 26) (.t 29)⟩ [⟨(some 36), none, .slice 3 (.t 34) (some (.t 35)) none⟩, ⟨(some 31), none, .load 3 true (.t 3)⟩]
 (.l ⟨(some 32), none, .bslice 3 [(.t 31)]⟩ [⟨(some 36), none, .slice 3 (.t 34) (some (.t 35)) none⟩, ⟨(some 29), none, .slice 3 (.t 27) none (some (.t 28))⟩]
 (.l ⟨(some 33), none, .append 3 32 (.t 30) (.t 32)⟩ [⟨(some 36), none, .slice 3 (.t 34) (some (.t 35)) none⟩]
 (.l ⟨(some 37), none, .append 3 32 (.t 33) (.t 36)⟩ []
 (tm 4 (.t 37) .done) .non) .non) .non) (.l ⟨(some 32), none, .bslice 3 [(.t 31)]⟩ [⟨(some 36), none, .slice 3 (.t 34) (some (.t 35)) none⟩, ⟨(some 29), none, .slice 3 (.t 27) none (some (.t 28))⟩]
 (.l ⟨(some 30), none, .append 3 32 (.t 26) (.t 29)⟩ [⟨(some 36), none, .slice 3 (.t 34) (some (.t 35)) none⟩, ⟨(some 31), none, .load 3 true (.t 3)⟩]
 (.l ⟨(some 33), none, .append 3 32 (.t 30) (.t 32)⟩ [⟨(some 36), none, .slice 3 (.t 34) (some (.t 35)) none⟩]
 (.l ⟨(some 37), none, .append 3 32 (.t 33) (.t 36)⟩ []
 (tm 4 (.t 37) .done) .non) .non) .non) .non)) (.l ⟨(some 32), none, .bslice 3 [(.t 31)]⟩ [⟨(some 36), none, .slice 3 (.t 34) (some (.t 35)) none⟩, ⟨(some 29), none, .slice 3 (.t 27) none (some (.t 28))⟩]
 (.l ⟨(some 26), none, .bslice 3 []⟩ [⟨(some 36), none, .slice 3 (.t 34) (some (.t 35)) none⟩, ⟨(some 31), none, .load 3 true (.t 3)⟩, ⟨(some 29), none, .slice 3 (.t 27) none (some (.t 28))⟩]
 (.l ⟨(some 30), none, .append 3 32 (.t 26) (.t 29)⟩ [⟨(some 36), none, .slice 3 (.t 34) (some (.t 35)) none⟩, ⟨(some 31), none, .load 3 true (.t 3)⟩]
 (.l ⟨(some 33), none, .append 3 32 (.t 30) (.t 32)⟩ [⟨(some 36), none, .slice 3 (.t 34) (some (.t 35)) none⟩]
 (.l ⟨(some 37), none, .append 3 32 (.t 33) (.t 36)⟩ []
 (tm 4 (.t 37) .done) .non) .non) .non) .non) .non))))))))))
 .ret))))))
theorem fc216_h0 : fcomp Try.prog Try.f216 = some (c216_h0.erase, [.mov (.t 4)], 38) := by kernel_rfl
def spec_l03Put_h0_L1 (d_1 : (List GAtom)) (a_2 : GAtom) : Nat → Int → Option Int
  | 0, _ => none
  | k + 1, k_38 =>
    ((if (decide (k_38 > 0)) then
    if (0 : Int) ≤ w64 (k_38 - 1) ∧ w64 (k_38 - 1) < (d_1.length : Int) then
    (d_1[(0 + (w64 (k_38 - 1)).toNat)]?).bind fun x_66 =>
    (spec_l03Order x_66 a_2).bind fun r_68 =>
    some (decide (r_68 > 0))
    else none
    else
    some false : Option Bool)).bind fun s23_62 =>
    if s23_62 then
    spec_l03Put_h0_L1 d_1 a_2 k (w64 (k_38 - 1))
    else
    some k_38

def spec_l03Put_h0 (d_1 : (List GAtom)) (a_2 : GAtom) : Option (List GAtom) :=
    (spec_l03Has d_1 a_2).bind fun r_3 =>
    if r_3 then
    some d_1
    else
    (spec_l03Put_h0_L1 d_1 a_2 FUEL (d_1.length : Int)).bind fun k_54 =>
    if (0 : Int) ≤ k_54 ∧ k_54 ≤ (d_1.length : Int) then
    if (0 : Int) ≤ k_54 ∧ k_54 ≤ (d_1.length : Int) then
    if ([] ++ (d_1.take k_54.toNat)).length ≤ 2 ^ 30 then
    if (([] ++ (d_1.take k_54.toNat)) ++ [a_2]).length ≤ 2 ^ 30 then
    if ((([] ++ (d_1.take k_54.toNat)) ++ [a_2]) ++ ((d_1.drop k_54.toNat).take (d_1.length - k_54.toNat))).length ≤ 2 ^ 30 then
    some ((([] ++ (d_1.take k_54.toNat)) ++ [a_2]) ++ ((d_1.drop k_54.toNat).take (d_1.length - k_54.toNat)))
    else none
    else none
    else none
    else none
    else none
theorem w_spec_l03Put_h0 (d_1 : (List GAtom)) (a_2 : GAtom) (r : (List GAtom)) (hf : spec_l03Put_h0 d_1 a_2 = some r) : CallHeap Try.prog true 216 [(.own 0 0 d_1.length), (encGAtom a_2)] [.row 3 (d_1.map encGAtom)] (.own 1 0 r.length) [.dead, .row 3 (r.map encGAtom)] := by
 refine CallHeap.of_awp mixed Try.func216 fc216_h0 nle ?_; rw [argT_eq]; unfold spec_l03Put_h0 at hf; unfold c216_h0; refine (show awp Try.prog true 1 _ (ofL [(0, (.own 0 0 d_1.length)), (1, (encGAtom a_2))]) [.row 3 (d_1.map encGAtom)] _ from ?_); refine awp_seq <| w_reg <| s_do (o_box (j := 1) (c := (.agg [(.int .i64 a_2.Kind), (.int .i64 a_2.N), (.str a_2.T)])) rfl trivial rfl rfl) <| s_mov .nil rfl <| w_done <| k_seq <| awp_seq <| awp_seq <| w_reg <| ?_
 obtain ⟨r_3, er4, hf⟩ := ob hf
 refine s_mov (.own 0 0 d_1.length) rfl <| s_q (.agg [(.int .i64 a_2.Kind), (.int .i64 a_2.N), (.str a_2.T)]) rfl nle rfl <| s_do (o_call (w_spec_l03Has _ _ _ er4) rfl (.cons (.of_eq (congrArg (AV.lst _) (tko d_1))) (.cons (.refl _) .nil)) rfl) <| w_done <| k_seq <| ?_
 rcases oi hf with ⟨c5, hf⟩ | ⟨c5, hf⟩
 ·refine w_condt rfl c5 <| awp_seq <| w_reg <| s_mov (.own 0 0 d_1.length) rfl <| s_mov (.own 0 0 d_1.length) rfl <| w_done <| k_seq <| w_ret <| ?_; obtain rfl := os hf; exact r_heap [.mv 0] [0, 2] rfl ⟨trivial, trivial⟩ rfl (.refl _) (.refl _)
 ·refine w_condf rfl (bf c5) <| w_skip <| k_seq <| awp_seq <| w_reg <| s_mov (.own 0 0 d_1.length) rfl <| s_dof (o_lenown rfl rfl) fun hl6 => s_mov (.int .i64 (d_1.length : Int)) rfl <| w_done <| k_seq <| awp_seq <| ?_
  obtain ⟨k_54, hb1, hf⟩ := ob hf
  refine awp_cut ([(0, (.own 0 0 d_1.length)), (3, (.ptr 1 0 0)), (5, (.int .i64 k_54))], [.row 3 (d_1.map encGAtom), .box 3 (.agg [(.int .i64 a_2.Kind), (.int .i64 a_2.N), (.str a_2.T)])]) ?_ ?_
  ·refine awp_loop (X := {q : (Nat × Int) // spec_l03Put_h0_L1 d_1 a_2 q.1 q.2 = some k_54}) (fun q => ([(0, (.own 0 0 d_1.length)), (3, (.ptr 1 0 0)), (5, (.int .i64 q.1.2))], [.row 3 (d_1.map encGAtom), .box 3 (.agg [(.int .i64 a_2.Kind), (.int .i64 a_2.N), (.str a_2.T)])])) (fun q => q.1.1) ⟨(FUEL, (d_1.length : Int)), hb1⟩ ⟨[], [0, 1], _, _, rfl, rfl, ⟨.refl _, ⟨.refl _, ⟨.refl _, trivial⟩⟩⟩, (.refl _)⟩ ?_
   rintro ⟨⟨k, k_38⟩, hc1⟩
   have hc1 : spec_l03Put_h0_L1 d_1 a_2 k k_38 = some k_54 := hc1
   refine (show awp Try.prog true 1 _ (ofL [(0, (.own 0 0 d_1.length)), (3, (.ptr 1 0 0)), (5, (.int .i64 k_38))]) [.row 3 (d_1.map encGAtom), .box 3 (.agg [(.int .i64 a_2.Kind), (.int .i64 a_2.N), (.str a_2.T)])] _ from ?_)
   rcases k with _ | k
   ·rw [spec_l03Put_h0_L1.eq_1] at hc1
    cases hc1
   ·rw [spec_l03Put_h0_L1.eq_2] at hc1; refine awp_seq <| awp_seq <| ?_
    obtain ⟨s23_62, hb2, hc1⟩ := ob hc1
    refine awp_cut ([(0, (.own 0 0 d_1.length)), (3, (.ptr 1 0 0)), (5, (.int .i64 k_38)), (23, (.bool s23_62))], [.row 3 (d_1.map encGAtom), .box 3 (.agg [(.int .i64 a_2.Kind), (.int .i64 a_2.N), (.str a_2.T)])]) ?_ ?_
    ·refine w_reg ?_
     rcases oi hb2 with ⟨c64, hb2⟩ | ⟨c64, hb2⟩
     ·obtain ⟨g65, hb2⟩ := og hb2
      obtain ⟨x_66, ex67, hb2⟩ := ob hb2
      obtain ⟨r_68, er69, hb2⟩ := ob hb2
      refine s_mov (.int .i64 k_38) rfl <| s_q (.bool (decide (k_38 > 0))) rfl rfl rfl <| s_mov (.bool (decide (k_38 > 0))) rfl <| s_lit (s := 14) (b := true) rfl c64 <| s_on rfl <| s_mov (.own 0 0 d_1.length) rfl <| s_on rfl <| s_mov (.int .i64 k_38) rfl <| s_on rfl <| s_q (.int .i64 (w64 (k_38 - 1))) rfl rfl rfl <| s_on rfl <| s_do (o_iaddrown rfl rfl g65.1 g65.2 rfl rfl) <| s_on rfl <| s_do (o_loadrow (enc := encGAtom) (v := (encGAtom x_66)) rfl rfl ex67 nle rfl) <| s_on rfl <| s_q (.agg [(.int .i64 a_2.Kind), (.int .i64 a_2.N), (.str a_2.T)]) rfl nle rfl <| s_onl rfl <| s_dol (o_call (w_spec_l03Order _ _ _ er69) rfl (.refl _) rfl) a_same trivial <| s_on rfl <| s_q (.bool (decide (r_68 > 0))) rfl rfl rfl <| ?_
      refine s_q (.bool (decide (r_68 > 0))) rfl trivial rfl <| w_done <| ?_; obtain rfl := os hb2; exact ⟨[], [0, 1], _, _, rfl, rfl, ⟨.refl _, ⟨.refl _, ⟨.refl _, ⟨.refl _, trivial⟩⟩⟩⟩, (.refl _)⟩
     ·refine s_mov (.int .i64 k_38) rfl <| s_q (.bool (decide (k_38 > 0))) rfl rfl rfl <| s_mov (.bool (decide (k_38 > 0))) rfl <| s_lit (s := 14) (b := false) rfl (bf c64) <| s_off rfl rfl <| s_off rfl rfl <| s_off rfl rfl <| s_off rfl rfl <| s_off rfl rfl <| s_off rfl rfl <| s_offl rfl rfl trivial <| s_off rfl rfl <| s_q (.bool false) rfl trivial rfl <| w_done <| ?_; obtain rfl := os hb2; exact ⟨[], [0, 1], _, _, rfl, rfl, ⟨.refl _, ⟨.refl _, ⟨.refl _, ⟨.refl _, trivial⟩⟩⟩⟩, (.refl _)⟩
    ·rcases oi hc1 with ⟨c70, hc1⟩ | ⟨c70, hc1⟩
     ·refine w_condt rfl c70 <| w_skip <| k_seq <| w_blk <| w_reg <| s_mov (.int .i64 k_38) rfl <| s_q (.int .i64 (w64 (k_38 - 1))) rfl rfl rfl <| s_mov (.int .i64 (w64 (k_38 - 1))) rfl <| w_done <| k_blk <| ?_; exact k_loopn ⟨(k, w64 (k_38 - 1)), hc1⟩ (Nat.lt_succ_self _) ⟨[], [0, 1], _, _, rfl, rfl, ⟨.refl _, ⟨.refl _, ⟨.refl _, trivial⟩⟩⟩, (.refl _)⟩
     ·refine w_condf rfl (bf c70) <| w_exit <| k_seqx <| k_loopx <| k_blkx <| ?_; obtain rfl := os hc1; exact ⟨[], [0, 1], _, _, rfl, rfl, ⟨.refl _, ⟨.refl _, ⟨.refl _, trivial⟩⟩⟩, (.refl _)⟩
  ·refine awp_seq <| w_reg <| ?_
   obtain ⟨g71, hf⟩ := og hf
   obtain ⟨g72, hf⟩ := og hf
   obtain ⟨g73, hf⟩ := og hf
   obtain ⟨g74, hf⟩ := og hf
   obtain ⟨g75, hf⟩ := og hf
   refine s_mov (.own 0 0 d_1.length) rfl <| s_mov (.int .i64 k_54) rfl <| s_do (o_slto rfl rfl rfl g71.1 g71.2) <| s_q (.agg [(.int .i64 a_2.Kind), (.int .i64 a_2.N), (.str a_2.T)]) rfl nle rfl <| s_mov (.own 0 0 d_1.length) rfl <| s_mov (.int .i64 k_54) rfl <| s_do (o_sldo rfl rfl rfl g72.1 g72.2) <| ?_; refine s_dol (o_bslice (j := 2) (as' := []) rfl (fun _ => by decide) trivial (.refl _) rfl rfl rfl) (.inr ⟨(ag_sldo rfl rfl rfl g72.1 g72.2), ⟨⟨nle, rfl⟩, ⟨(ag_slto rfl rfl rfl g71.1 g71.2), trivial⟩⟩⟩) ?_ ?_
   ·refine s_dol (o_bslice (j := 2) (as' := [(encGAtom a_2)]) rfl (fun _ => by decide) ⟨rfl, trivial⟩ (.refl _) rfl rfl rfl) (.inr ⟨(ag_sldo rfl rfl rfl g72.1 g72.2), ⟨(ag_slto rfl rfl rfl g71.1 g71.2), trivial⟩⟩) trivial ?_; refine s_dol (o_bslice (j := 3) (as' := []) rfl (fun _ => by decide) trivial (.refl _) rfl rfl rfl) (.inr ⟨(ag_sldo rfl rfl rfl g72.1 g72.2), ⟨⟨nle, rfl⟩, ⟨(ag_slto rfl rfl rfl g71.1 g71.2), trivial⟩⟩⟩) trivial ?_
    refine s_dol (o_appendd (j := 4) (L := (([] ++ (d_1.take k_54.toNat)).map encGAtom)) (len := ([] ++ (d_1.take k_54.toNat)).length) rfl false rfl rfl (fun _ => flw (enc := encGAtom) (fun _ => rfl) d_1 _ _) (fun _ _ h => (ownl (show AV.own _ _ _ = AV.lst _ _ from h)).elim) (by decide) ((by simp)) (by simp <;> omega) g73 rfl rfl) (.inr ⟨(ag_sldo rfl rfl rfl g72.1 g72.2), ⟨⟨nle, rfl⟩, trivial⟩⟩) trivial ?_
    refine s_dol (o_appendd (j := 5) (L := ((([] ++ (d_1.take k_54.toNat)) ++ [a_2]).map encGAtom)) (len := (([] ++ (d_1.take k_54.toNat)) ++ [a_2]).length) rfl false rfl rfl (fun _ => flo (enc := encGAtom) (fun _ => rfl) [a_2] _) (fun _ _ h => (ownl (show AV.own _ _ _ = AV.lst _ _ from h)).elim) (by decide) (apoc (enc := encGAtom) ([] ++ (d_1.take k_54.toNat)) [a_2] _ (by rfl)) (by simp <;> omega) g74 rfl rfl) (.inr ⟨(ag_sldo rfl rfl rfl g72.1 g72.2), trivial⟩) trivial ?_
    refine s_dol (o_appendd (j := 6) (L := (((([] ++ (d_1.take k_54.toNat)) ++ [a_2]) ++ ((d_1.drop k_54.toNat).take (d_1.length - k_54.toNat))).map encGAtom)) (len := ((([] ++ (d_1.take k_54.toNat)) ++ [a_2]) ++ ((d_1.drop k_54.toNat).take (d_1.length - k_54.toNat))).length) rfl false rfl rfl (fun _ => flw (enc := encGAtom) (fun _ => rfl) d_1 _ _) (fun _ _ h => (ownl (show AV.own _ _ _ = AV.lst _ _ from h)).elim) (by decide) ((apg (enc := encGAtom) (([] ++ (d_1.take k_54.toNat)) ++ [a_2]) ((d_1.drop k_54.toNat).take (d_1.length - k_54.toNat)) (tkw _ _ _))) (by simp <;> omega) g75 rfl rfl) trivial trivial ?_
    refine s_mov (.own 6 0 (((([] ++ (d_1.take k_54.toNat)) ++ [a_2]) ++ ((d_1.drop k_54.toNat).take (d_1.length - k_54.toNat))).length)) rfl <| w_done <| k_seq <| w_ret <| ?_; obtain rfl := os hf; exact r_heap [.kill 0] [0, 6] rfl ⟨trivial, trivial⟩ rfl (.refl _) (.refl _)
   ·refine s_dol (o_appendd (j := 3) (L := (([] ++ (d_1.take k_54.toNat)).map encGAtom)) (len := ([] ++ (d_1.take k_54.toNat)).length) rfl false rfl rfl (fun _ => flw (enc := encGAtom) (fun _ => rfl) d_1 _ _) (fun _ _ h => (ownl (show AV.own _ _ _ = AV.lst _ _ from h)).elim) (by decide) ((by simp)) (by simp <;> omega) g73 rfl rfl) (.inr ⟨(ag_sldo rfl rfl rfl g72.1 g72.2), ⟨⟨nle, rfl⟩, trivial⟩⟩) ?_ ?_
    ·refine s_dol (o_bslice (j := 3) (as' := [(encGAtom a_2)]) rfl (fun _ => by decide) ⟨rfl, trivial⟩ (.refl _) rfl rfl rfl) (.inr ⟨(ag_sldo rfl rfl rfl g72.1 g72.2), ⟨(ag_slto rfl rfl rfl g71.1 g71.2), trivial⟩⟩) trivial ?_
     refine s_dol (o_appendd (j := 4) (L := (([] ++ (d_1.take k_54.toNat)).map encGAtom)) (len := ([] ++ (d_1.take k_54.toNat)).length) rfl false rfl rfl (fun _ => flw (enc := encGAtom) (fun _ => rfl) d_1 _ _) (fun _ _ h => (ownl (show AV.own _ _ _ = AV.lst _ _ from h)).elim) (by decide) ((by simp)) (by simp <;> omega) g73 rfl rfl) (.inr ⟨(ag_sldo rfl rfl rfl g72.1 g72.2), ⟨⟨nle, rfl⟩, trivial⟩⟩) trivial ?_
     refine s_dol (o_appendd (j := 5) (L := ((([] ++ (d_1.take k_54.toNat)) ++ [a_2]).map encGAtom)) (len := (([] ++ (d_1.take k_54.toNat)) ++ [a_2]).length) rfl false rfl rfl (fun _ => flo (enc := encGAtom) (fun _ => rfl) [a_2] _) (fun _ _ h => (ownl (show AV.own _ _ _ = AV.lst _ _ from h)).elim) (by decide) (apoc (enc := encGAtom) ([] ++ (d_1.take k_54.toNat)) [a_2] _ (by rfl)) (by simp <;> omega) g74 rfl rfl) (.inr ⟨(ag_sldo rfl rfl rfl g72.1 g72.2), trivial⟩) trivial ?_
     refine s_dol (o_appendd (j := 6) (L := (((([] ++ (d_1.take k_54.toNat)) ++ [a_2]) ++ ((d_1.drop k_54.toNat).take (d_1.length - k_54.toNat))).map encGAtom)) (len := ((([] ++ (d_1.take k_54.toNat)) ++ [a_2]) ++ ((d_1.drop k_54.toNat).take (d_1.length - k_54.toNat))).length) rfl false rfl rfl (fun _ => flw (enc := encGAtom) (fun _ => rfl) d_1 _ _) (fun _ _ h => (ownl (show AV.own _ _ _ = AV.lst _ _ from h)).elim) (by decide) ((apg (enc := encGAtom) (([] ++ (d_1.take k_54.toNat)) ++ [a_2]) ((d_1.drop k_54.toNat).take (d_1.length - k_54.toNat)) (tkw _ _ _))) (by simp <;> omega) g75 rfl rfl) trivial trivial ?_
     refine s_mov (.own 6 0 (((([] ++ (d_1.take k_54.toNat)) ++ [a_2]) ++ ((d_1.drop k_54.toNat).take (d_1.length - k_54.toNat))).length)) rfl <| w_done <| k_seq <| w_ret <| ?_; obtain rfl := os hf; exact r_heap [.kill 0] [0, 6] rfl ⟨trivial, trivial⟩ rfl (.refl _) (.refl _)
    ·refine s_dol (o_bslice (j := 4) (as' := [(encGAtom a_2)]) rfl (fun _ => by decide) ⟨rfl, trivial⟩ (.refl _) rfl rfl rfl) (.inr ⟨(ag_sldo rfl rfl rfl g72.1 g72.2), ⟨(ag_slto rfl rfl rfl g71.1 g71.2), trivial⟩⟩) trivial ?_
     refine s_dol (o_appendd (j := 5) (L := ((([] ++ (d_1.take k_54.toNat)) ++ [a_2]).map encGAtom)) (len := (([] ++ (d_1.take k_54.toNat)) ++ [a_2]).length) rfl false rfl rfl (fun _ => flo (enc := encGAtom) (fun _ => rfl) [a_2] _) (fun _ _ h => (ownl (show AV.own _ _ _ = AV.lst _ _ from h)).elim) (by decide) (apoc (enc := encGAtom) ([] ++ (d_1.take k_54.toNat)) [a_2] _ (by rfl)) (by simp <;> omega) g74 rfl rfl) (.inr ⟨(ag_sldo rfl rfl rfl g72.1 g72.2), trivial⟩) trivial ?_
     refine s_dol (o_appendd (j := 6) (L := (((([] ++ (d_1.take k_54.toNat)) ++ [a_2]) ++ ((d_1.drop k_54.toNat).take (d_1.length - k_54.toNat))).map encGAtom)) (len := ((([] ++ (d_1.take k_54.toNat)) ++ [a_2]) ++ ((d_1.drop k_54.toNat).take (d_1.length - k_54.toNat))).length) rfl false rfl rfl (fun _ => flw (enc := encGAtom) (fun _ => rfl) d_1 _ _) (fun _ _ h => (ownl (show AV.own _ _ _ = AV.lst _ _ from h)).elim) (by decide) ((apg (enc := encGAtom) (([] ++ (d_1.take k_54.toNat)) ++ [a_2]) ((d_1.drop k_54.toNat).take (d_1.length - k_54.toNat)) (tkw _ _ _))) (by simp <;> omega) g75 rfl rfl) trivial trivial ?_
     refine s_mov (.own 6 0 (((([] ++ (d_1.take k_54.toNat)) ++ [a_2]) ++ ((d_1.drop k_54.toNat).take (d_1.length - k_54.toNat))).length)) rfl <| w_done <| k_seq <| w_ret <| ?_; obtain rfl := os hf; exact r_heap [.kill 0] [0, 6] rfl ⟨trivial, trivial⟩ rfl (.refl _) (.refl _)

/- (*spec.l00Src).datum -/
def c144_h0 : ACode :=
 (.seq (.reg (tm 4 (.c .nil) .done))
 (.seq (.reg (tq 7 (.bslice 3 []) (tm 5 (.t 7) .done)))
 (.seq (.seq (.reg (tm 8 (.t 0) (tq 9 (.call 181 [(.t 8), (.c (.int .i64 5))]) (tm 6 (.t 9) .done))))
 (.block 0 (.loop (.seq (.seq (.reg (tm 10 (.t 6) (tq 11 (.bin .gtr (.t 10) (.c (.int .i64 0))) .done)))
 (.cond (.t 11) .skip
 (.exit 0)))
 (.seq (.block 1 (.reg (tm 14 (.t 5) (tm 15 (.t 0) (tm 16 (.t 1) (tq 17 (.call 217 [(.t 15), (.t 16)]) (tq 18 (.call 216 [(.t 14), (.t 17)]) (tm 5 (.t 18) .done))))))))
 (.reg (tm 12 (.t 6) (tq 13 (.bin .sub (.t 12) (.c (.int .i64 1))) (tm 6 (.t 13) .done)))))))))
 (.cut (.seq (.reg (tm 19 (.t 5) (tm 4 (.t 19) .done)))
 .ret)))))
theorem fc144_h0 : fcomp Try.prog Try.f144 = some (c144_h0.erase, [.mov (.t 4)], 20) := by kernel_rfl
def spec_l00Src_datum_L1 (kind_1 : Int) : Nat → Int → (List Int) → Int → Int → (List GAtom) → Option ((List Int) × Int × Int × (List GAtom))
  | 0, _, _, _, _, _ => none
  | k + 1, i_20, x_21, x_22, x_23, out_24 =>
    if (decide (i_20 > 0)) then
    (spec_l00Src_atom kind_1 (⟨x_21, x_22, x_23⟩ : GL00Src)).bind fun r_36 =>
    (spec_l03Put_h0 out_24 r_36.1).bind fun r_38 =>
    spec_l00Src_datum_L1 kind_1 k (w64 (i_20 - 1)) r_36.2.Code r_36.2.At r_36.2.Seed r_38
    else
    some (x_21, x_22, x_23, out_24)

def spec_l00Src_datum (kind_1 : Int) (s_2 : GL00Src) : Option ((List GAtom) × GL00Src) :=
    (spec_l00Src_next 5 s_2).bind fun r_3 =>
    (spec_l00Src_datum_L1 kind_1 FUEL r_3.1 r_3.2.Code r_3.2.At r_3.2.Seed []).bind fun p34 =>
    (match p34 with
    | (x_30, x_31, x_32, out_33) =>
    some (out_33, (⟨x_30, x_31, x_32⟩ : GL00Src)))
theorem w_spec_l00Src_datum (kind_1 : Int) (s_2 : GL00Src) (r : ((List GAtom) × GL00Src)) (hf : spec_l00Src_datum kind_1 s_2 = some r) : CallHeap Try.prog true 144 [(.ptr 0 0 0), (.int .i64 kind_1)] [.box 3 (.agg [(.lst 1 (s_2.Code.map enc_u8)), (.int .i64 s_2.At), (.int .i64 s_2.Seed)])] (.own 1 0 r.1.length) [.box 3 (.agg [(.lst 1 (r.2.Code.map enc_u8)), (.int .i64 r.2.At), (.int .i64 r.2.Seed)]), .row 3 (r.1.map encGAtom)] := by
 refine CallHeap.of_awp mixed Try.func144 fc144_h0 nle ?_; rw [argT_eq]; unfold spec_l00Src_datum at hf; unfold c144_h0; refine (show awp Try.prog true 1 _ (ofL [(0, (.ptr 0 0 0)), (1, (.int .i64 kind_1))]) [.box 3 (.agg [(.lst 1 (s_2.Code.map enc_u8)), (.int .i64 s_2.At), (.int .i64 s_2.Seed)])] _ from ?_); refine awp_seq <| w_reg <| s_mov .nil rfl <| w_done <| k_seq <| awp_seq <| w_reg <| ?_; refine s_do (o_bslice (j := 1) (as' := []) rfl (fun _ => by decide) trivial (.refl _) rfl rfl rfl) ?_; refine s_mov (.own 1 0 0) rfl <| w_done <| k_seq <| awp_seq <| awp_seq <| w_reg <| ?_
 obtain ⟨r_3, er4, hf⟩ := ob hf
 refine s_mov (.ptr 0 0 0) rfl ?_; refine s_do (o_callh (v := (.int .i64 r_3.1)) (h2 := [.box 3 (.agg [(.lst 1 (r_3.2.Code.map enc_u8)), (.int .i64 r_3.2.At), (.int .i64 r_3.2.Seed)]), .row 3 ([].map encGAtom)]) [] [0] (fun _ => rfl) (w_spec_l00Src_next _ _ _ er4) rfl (.refl _) (.refl _) rfl rfl) ?_; refine s_mov (.int .i64 r_3.1) rfl <| w_done <| k_seq <| ?_
 obtain ⟨p34, hb1, hf⟩ := ob hf
 refine awp_cut ([(5, (.own 1 0 p34.2.2.2.length))], [.box 3 (.agg [(.lst 1 (p34.1.map enc_u8)), (.int .i64 p34.2.1), (.int .i64 p34.2.2.1)]), .row 3 (p34.2.2.2.map encGAtom)]) ?_ ?_
 ·refine awp_loop (X := {q : (Nat × Int × (List Int) × Int × Int × (List GAtom)) // spec_l00Src_datum_L1 kind_1 q.1 q.2.1 q.2.2.1 q.2.2.2.1 q.2.2.2.2.1 q.2.2.2.2.2 = some p34}) (fun q => ([(0, (.ptr 0 0 0)), (1, (.int .i64 kind_1)), (5, (.own 1 0 q.1.2.2.2.2.2.length)), (6, (.int .i64 q.1.2.1))], [.box 3 (.agg [(.lst 1 (q.1.2.2.1.map enc_u8)), (.int .i64 q.1.2.2.2.1), (.int .i64 q.1.2.2.2.2.1)]), .row 3 (q.1.2.2.2.2.2.map encGAtom)])) (fun q => q.1.1) ⟨(FUEL, r_3.1, r_3.2.Code, r_3.2.At, r_3.2.Seed, []), hb1⟩ ⟨[], [0, 1], _, _, rfl, rfl, ⟨.refl _, ⟨.refl _, ⟨.of_eq (congrArg (AV.own _ 0) (by simp)), ⟨.refl _, trivial⟩⟩⟩⟩, (.refl _)⟩ ?_
  rintro ⟨⟨k, i_20, x_21, x_22, x_23, out_24⟩, hc1⟩
  have hc1 : spec_l00Src_datum_L1 kind_1 k i_20 x_21 x_22 x_23 out_24 = some p34 := hc1
  refine (show awp Try.prog true 1 _ (ofL [(0, (.ptr 0 0 0)), (1, (.int .i64 kind_1)), (5, (.own 1 0 out_24.length)), (6, (.int .i64 i_20))]) [.box 3 (.agg [(.lst 1 (x_21.map enc_u8)), (.int .i64 x_22), (.int .i64 x_23)]), .row 3 (out_24.map encGAtom)] _ from ?_)
  rcases k with _ | k
  ·rw [spec_l00Src_datum_L1.eq_1] at hc1
   cases hc1
  ·rw [spec_l00Src_datum_L1.eq_2] at hc1; refine awp_seq <| awp_seq <| w_reg <| s_mov (.int .i64 i_20) rfl <| s_q (.bool (decide (i_20 > 0))) rfl rfl rfl <| w_done <| k_seq <| ?_
   rcases oi hc1 with ⟨c35, hc1⟩ | ⟨c35, hc1⟩
   ·refine w_condt rfl c35 <| w_skip <| k_seq <| awp_seq <| w_blk <| w_reg <| ?_
    obtain ⟨r_36, er37, hc1⟩ := ob hc1
    obtain ⟨r_38, er39, hc1⟩ := ob hc1
    refine s_mov (.own 1 0 out_24.length) rfl <| s_mov (.ptr 0 0 0) rfl <| s_mov (.int .i64 kind_1) rfl <| ?_; refine s_do (o_callh (v := (encGAtom r_36.1)) (h2 := [.box 3 (.agg [(.lst 1 (r_36.2.Code.map enc_u8)), (.int .i64 r_36.2.At), (.int .i64 r_36.2.Seed)]), .row 3 (out_24.map encGAtom)]) [] [0] (fun _ => rfl) (w_spec_l00Src_atom _ _ _ er37) rfl (.refl _) (.refl _) rfl rfl) ?_; refine s_do (o_callh (v := (.own 2 0 r_38.length)) (h2 := [.box 3 (.agg [(.lst 1 (r_36.2.Code.map enc_u8)), (.int .i64 r_36.2.At), (.int .i64 r_36.2.Seed)]), .dead, .row 3 (r_38.map encGAtom)]) [] [1] (fun _ => rfl) (w_spec_l03Put_h0 _ _ _ er39) rfl (.refl _) (.refl _) rfl rfl) ?_; refine s_mov (.own 2 0 r_38.length) rfl <| w_done <| k_blk <| k_seq <| ?_
    refine w_reg <| s_mov (.int .i64 i_20) rfl <| s_q (.int .i64 (w64 (i_20 - 1))) rfl rfl rfl <| s_mov (.int .i64 (w64 (i_20 - 1))) rfl <| w_done <| ?_; exact k_loopn ⟨(k, w64 (i_20 - 1), r_36.2.Code, r_36.2.At, r_36.2.Seed, r_38), hc1⟩ (Nat.lt_succ_self _) ⟨[], [0, 2], _, _, rfl, rfl, ⟨.refl _, ⟨.refl _, ⟨.refl _, ⟨.refl _, trivial⟩⟩⟩⟩, (.refl _)⟩
   ·refine w_condf rfl (bf c35) <| w_exit <| k_seqx <| k_loopx <| k_blkx <| ?_; obtain rfl := os hc1; exact ⟨[], [0, 1], _, _, rfl, rfl, ⟨.refl _, trivial⟩, (.refl _)⟩
 ·obtain ⟨x_30, x_31, x_32, out_33⟩ := p34
  refine awp_seq <| w_reg <| s_mov (.own 1 0 out_33.length) rfl <| s_mov (.own 1 0 out_33.length) rfl <| w_done <| k_seq <| w_ret <| ?_; obtain rfl := os hf; exact r_heap [] [0, 1] rfl ⟨trivial, trivial⟩ rfl (.refl _) (.refl _)

/- spec.DatumDrawn -/
def c58 : ACode :=
 (.seq (.reg (tm 4 (.c .nil) .done))
 (.seq (.reg (tm 5 (.t 0) (tq 6 (.call 95 [(.t 5)]) (tm 7 (.t 1) (tq 8 (.call 144 [(.t 6), (.t 7)]) (tm 4 (.t 8) .done))))))
 .ret))
theorem fc58 : fcomp Try.prog Try.f58 = some (c58.erase, [.mov (.t 4)], 9) := by kernel_rfl
def spec_DatumDrawn (code_1 : (List Int)) (kind_2 : Int) : Option (List GAtom) :=
    (spec_l00Source code_1).bind fun r_3 =>
    (spec_l00Src_datum kind_2 r_3).bind fun r_5 =>
    some r_5.1
theorem w_spec_DatumDrawn (code_1 : (List Int)) (kind_2 : Int) (r : (List GAtom)) (hf : spec_DatumDrawn code_1 kind_2 = some r) : CallOK Try.prog 58 .fresh [(.lst 1 (code_1.map enc_u8)), (.int .i64 kind_2)] (.lst 3 (r.map encGAtom)) := by
 refine CallOK.of_awp mixed Try.func58 fc58 nle ?_; rw [argT_eq]; unfold spec_DatumDrawn at hf; unfold c58; refine (show awp Try.prog true 0 _ (ofL [(0, (.lst 1 (code_1.map enc_u8))), (1, (.int .i64 kind_2))]) [] _ from ?_); refine awp_seq <| w_reg <| s_mov .nil rfl <| w_done <| k_seq <| awp_seq <| w_reg <| ?_
 obtain ⟨r_3, er4, hf⟩ := ob hf
 obtain ⟨r_5, er6, hf⟩ := ob hf
 refine s_mov (.lst 1 (code_1.map enc_u8)) rfl ?_; refine s_do (o_callh (v := (.ptr 0 0 0)) (h2 := [.box 3 (.agg [(.lst 1 (r_3.Code.map enc_u8)), (.int .i64 r_3.At), (.int .i64 r_3.Seed)])]) [] [] (fun _ => rfl) (w_spec_l00Source _ _ er4) rfl (.refl _) (.refl _) rfl rfl) ?_; refine s_mov (.int .i64 kind_2) rfl ?_; refine s_do (o_callh (v := (.own 1 0 r_5.1.length)) (h2 := [.box 3 (.agg [(.lst 1 (r_5.2.Code.map enc_u8)), (.int .i64 r_5.2.At), (.int .i64 r_5.2.Seed)]), .row 3 (r_5.1.map encGAtom)]) [] [0] (fun _ => rfl) (w_spec_l00Src_datum _ _ _ er6) rfl (.refl _) (.refl _) rfl rfl) ?_; refine s_mov (.own 1 0 r_5.1.length) rfl <| w_done <| k_seq <| w_ret <| ?_; obtain rfl := os hf; exact r_fresh ⟨trivial, trivial⟩ rfl (by decide) (.of_eq (congrArg (AV.lst _) (tk (enc := encGAtom) r_5.1)))

/- impl.isList[impl.Atom] -/
def c84 : ACode :=
 (.seq (.reg (tm 2 (.c (.bool false)) .done))
 (.seq (.reg (tm 3 (.t 0) (tq 4 (.len (.t 3)) (tq 5 (.bin .leq (.t 4) (.c (.int .i64 4096))) (tm 2 (.t 5) .done)))))
 .ret))
theorem fc84 : fcomp Try.prog Try.f84 = some (c84.erase, [.mov (.t 2)], 6) := by kernel_rfl
def impl_isList_impl_Atom (list_1 : (List GAtom)) : Option Bool :=
    some (decide ((list_1.length : Int) ≤ 4096))
theorem w_impl_isList_impl_Atom (list_1 : (List GAtom)) (r : Bool) (hf : impl_isList_impl_Atom list_1 = some r) : CallOK Try.prog 84 .flat [(.lst 3 (list_1.map encGAtom))] (.bool r) := by
  refine CallOK.of_awp mixed Try.func84 fc84 nle ?_
  rw [argT_eq]
  unfold impl_isList_impl_Atom at hf
  unfold c84
  refine (show awp Try.prog false 0 _ (ofL [(0, (.lst 3 (list_1.map encGAtom)))]) [] _ from ?_)
  refine awp_seq ?_
  refine w_reg ?_
  refine s_do (o_mov (.bool false) rfl) ?_
  refine w_done ?_
  refine k_seq ?_
  refine awp_seq ?_
  refine w_reg ?_
  refine s_do (o_mov (.lst 3 (list_1.map encGAtom)) rfl) ?_
  refine s_dof (o_len (enc := encGAtom) rfl) fun hl2 => ?_
  refine s_do (o_q (.bool (decide ((list_1.length : Int) ≤ 4096))) rfl rfl rfl) ?_
  refine s_do (o_mov (.bool (decide ((list_1.length : Int) ≤ 4096))) rfl) ?_
  refine w_done ?_
  refine k_seq ?_
  refine w_ret ?_
  obtain rfl := os hf
  exact r_flat ⟨trivial, trivial⟩ rfl (.refl _)

/- impl.isDigit -/
def c192 : ACode :=
 (.seq (.reg (tm 2 (.c (.bool false)) .done))
 (.seq (.reg (tm 3 (.t 0) (tq 4 (.bin .geq (.t 3) (.c (.int .u8 48))) (tm 5 (.t 4) (tg 6 5 true (.mov (.t 0)) (tg 7 5 true (.bin .leq (.t 6) (.c (.int .u8 57))) (tq 8 (.pick (.t 5) (.t 7) (.c (.bool false))) (tm 2 (.t 8) .done))))))))
 .ret))
theorem fc192 : fcomp Try.prog Try.f192 = some (c192.erase, [.mov (.t 2)], 9) := by kernel_rfl
def impl_isDigit (b_1 : Int) : Option Bool :=
    if (decide (b_1 ≥ 48)) then
    some (decide (b_1 ≤ 57))
    else
    some false
theorem w_impl_isDigit (b_1 : Int) (r : Bool) (hf : impl_isDigit b_1 = some r) : CallOK Try.prog 192 .flat [(.int .u8 b_1)] (.bool r) := by
 refine CallOK.of_awp mixed Try.func192 fc192 nle ?_; rw [argT_eq]; unfold impl_isDigit at hf; unfold c192; refine (show awp Try.prog false 0 _ (ofL [(0, (.int .u8 b_1))]) [] _ from ?_); refine awp_seq <| w_reg <| s_mov (.bool false) rfl <| w_done <| k_seq <| awp_seq <| w_reg <| ?_
 rcases oi hf with ⟨c2, hf⟩ | ⟨c2, hf⟩
 ·refine s_mov (.int .u8 b_1) rfl <| s_q (.bool (decide (b_1 ≥ 48))) rfl rfl rfl <| s_mov (.bool (decide (b_1 ≥ 48))) rfl <| s_lit (s := 5) (b := true) rfl c2 <| s_on rfl <| s_mov (.int .u8 b_1) rfl <| s_on rfl <| s_q (.bool (decide (b_1 ≤ 57))) rfl rfl rfl <| s_q (.bool (decide (b_1 ≤ 57))) rfl trivial rfl <| s_mov (.bool (decide (b_1 ≤ 57))) rfl <| w_done <| k_seq <| w_ret <| ?_; obtain rfl := os hf; exact r_flat ⟨trivial, trivial⟩ rfl (.refl _)
 ·refine s_mov (.int .u8 b_1) rfl <| s_q (.bool (decide (b_1 ≥ 48))) rfl rfl rfl <| s_mov (.bool (decide (b_1 ≥ 48))) rfl <| s_lit (s := 5) (b := false) rfl (bf c2) <| s_off rfl rfl <| s_off rfl rfl <| s_q (.bool false) rfl trivial rfl <| s_mov (.bool false) rfl <| w_done <| k_seq <| w_ret <| ?_; obtain rfl := os hf; exact r_flat ⟨trivial, trivial⟩ rfl (.refl _)

/- impl.within -/
def c106 : ACode :=
 (.seq (.reg (tm 6 (.c (.bool false)) .done))
 (.seq (.reg (tm 7 (.t 0) (tm 8 (.t 1) (tq 9 (.bin .geq (.t 7) (.t 8)) (tm 10 (.t 9) (tg 11 10 true (.mov (.t 0)) (tg 12 10 true (.mov (.t 2)) (tg 13 10 true (.bin .leq (.t 11) (.t 12)) (tq 14 (.pick (.t 10) (.t 13) (.c (.bool false))) (tm 6 (.t 14) .done))))))))))
 .ret))
theorem fc106 : fcomp Try.prog Try.f106 = some (c106.erase, [.mov (.t 6)], 15) := by kernel_rfl
def impl_within (n_1 : Int) (low_2 : Int) (high_3 : Int) : Option Bool :=
    if (decide (n_1 ≥ low_2)) then
    some (decide (n_1 ≤ high_3))
    else
    some false
theorem w_impl_within (n_1 : Int) (low_2 : Int) (high_3 : Int) (r : Bool) (hf : impl_within n_1 low_2 high_3 = some r) : CallOK Try.prog 106 .flat [(.int .i64 n_1), (.int .i64 low_2), (.int .i64 high_3)] (.bool r) := by
 refine CallOK.of_awp mixed Try.func106 fc106 nle ?_; rw [argT_eq]; unfold impl_within at hf; unfold c106; refine (show awp Try.prog false 0 _ (ofL [(0, (.int .i64 n_1)), (1, (.int .i64 low_2)), (2, (.int .i64 high_3))]) [] _ from ?_); refine awp_seq <| w_reg <| s_mov (.bool false) rfl <| w_done <| k_seq <| awp_seq <| w_reg <| ?_
 rcases oi hf with ⟨c4, hf⟩ | ⟨c4, hf⟩
 ·refine s_mov (.int .i64 n_1) rfl <| s_mov (.int .i64 low_2) rfl <| s_q (.bool (decide (n_1 ≥ low_2))) rfl rfl rfl <| s_mov (.bool (decide (n_1 ≥ low_2))) rfl <| s_lit (s := 10) (b := true) rfl c4 <| s_on rfl <| s_mov (.int .i64 n_1) rfl <| s_on rfl <| s_mov (.int .i64 high_3) rfl <| s_on rfl <| s_q (.bool (decide (n_1 ≤ high_3))) rfl rfl rfl <| s_q (.bool (decide (n_1 ≤ high_3))) rfl trivial rfl <| s_mov (.bool (decide (n_1 ≤ high_3))) rfl <| w_done <| k_seq <| w_ret <| ?_; obtain rfl := os hf; exact r_flat ⟨trivial, trivial⟩ rfl (.refl _)
 ·refine s_mov (.int .i64 n_1) rfl <| s_mov (.int .i64 low_2) rfl <| s_q (.bool (decide (n_1 ≥ low_2))) rfl rfl rfl <| s_mov (.bool (decide (n_1 ≥ low_2))) rfl <| s_lit (s := 10) (b := false) rfl (bf c4) <| s_off rfl rfl <| s_off rfl rfl <| s_off rfl rfl <| s_q (.bool false) rfl trivial rfl <| s_mov (.bool false) rfl <| w_done <| k_seq <| w_ret <| ?_; obtain rfl := os hf; exact r_flat ⟨trivial, trivial⟩ rfl (.refl _)

/- impl.NameOK -/
def c105 : ACode :=
 (.seq (.reg (tm 2 (.c (.bool false)) .done))
 (.seq (.seq (.reg (tm 6 (.t 0) (tq 7 (.lenS (.t 6)) (tm 8 (.c (.int .i64 0)) .done))))
 (.block 0 (.loop (.seq (.reg (tq 9 (.bin .lss (.t 8) (.t 7)) .done))
 (.seq (.cond (.t 9) .skip
 (.exit 0))
 (.seq (.block 1 (.seq (.reg (tm 10 (.t 8) (tm 3 (.t 10) .done)))
 (.seq (.reg (tm 11 (.t 0) (tm 12 (.t 3) (tq 13 (.idxs (.t 11) (.t 12)) (tm 4 (.t 13) .done)))))
 (.seq (.reg (tm 14 (.t 4) (tq 15 (.bin .geq (.t 14) (.c (.int .u8 97))) (tm 16 (.t 15) (tg 17 16 true (.mov (.t 4)) (tg 18 16 true (.bin .leq (.t 17) (.c (.int .u8 122))) (tq 19 (.pick (.t 16) (.t 18) (.c (.bool false))) (tm 20 (.t 19) (tg 21 20 false (.mov (.t 4)) (tg 22 20 false (.bin .geq (.t 21) (.c (.int .u8 65))) (tg 23 20 false (.mov (.t 22)) (tg 24 23 true (.mov (.t 4)) (tg 25 23 true (.bin .leq (.t 24) (.c (.int .u8 90))) (tg 26 20 false (.pick (.t 23) (.t 25) (.c (.bool false))) (tq 27 (.pick (.t 20) (.c (.bool true)) (.t 26)) (tm 28 (.t 27) (tg 29 28 false (.mov (.t 4)) (tg 30 28 false (.bin .eql (.t 29) (.c (.int .u8 95))) (tq 31 (.pick (.t 28) (.c (.bool true)) (.t 30)) (tm 5 (.t 31) .done))))))))))))))))))))
 (.cut (.seq (.reg (tm 32 (.t 5) (tq 33 (.not (.t 32)) (tm 34 (.t 33) (tg 35 34 true (.mov (.t 3)) (tg 36 34 true (.bin .eql (.t 35) (.c (.int .i64 0))) (tg 37 34 true (.mov (.t 36)) (tg 38 37 false (.mov (.t 4)) (tg 39 37 false (.call 192 [(.t 38)]) (tg 40 37 false (.not (.t 39)) (tg 41 34 true (.pick (.t 37) (.c (.bool true)) (.t 40)) (tq 42 (.pick (.t 34) (.t 41) (.c (.bool false))) .done))))))))))))
 (.cut (.cond (.t 42) (.seq (.reg (tm 2 (.c (.bool false)) .done))
 .ret)
 .skip))))))))
 (.reg (tq 43 (.bin .add (.t 8) (.c (.int .i64 1))) (tm 8 (.t 43) .done)))))))))
 (.cut (.seq (.reg (tm 44 (.t 0) (tq 45 (.lenS (.t 44)) (tq 46 (.call 106 [(.t 45), (.c (.int .i64 1)), (.c (.int .i64 40))]) (tm 2 (.t 46) .done)))))
 .ret))))
theorem fc105 : fcomp Try.prog Try.f105 = some (c105.erase, [.mov (.t 2)], 47) := by kernel_rfl
def impl_NameOK_L1  : List UInt8 → Nat → Option (Fl Bool Unit)
  | [], s8_34 =>
    some (.go ())
  | x_57 :: xs, s8_34 =>
    ((some () : Option Unit)).bind fun _ =>
    ((if (!(bif (bif (bif (decide ((x_57.toNat : Int) ≥ 97)) then (decide ((x_57.toNat : Int) ≤ 122)) else false) then true else (bif (decide ((x_57.toNat : Int) ≥ 65)) then (decide ((x_57.toNat : Int) ≤ 90)) else false)) then true else ((x_57.toNat : Int) == 95))) then
    if ((s8_34 : Int) == 0) then
    some true
    else
    (impl_isDigit (x_57.toNat : Int)).bind fun r_67 =>
    some (!r_67)
    else
    some false : Option Bool)).bind fun s42_63 =>
    if s42_63 then
    some (.ret false)
    else
    impl_NameOK_L1 xs (s8_34 + 1)

def impl_NameOK (t_1 : Str) : Option Bool :=
    (impl_NameOK_L1 t_1 0).bind fun q => (match q with
    | .ret r => some r
    | .go _ =>
    (impl_within (t_1.length : Int) 1 40).bind fun r_71 =>
    some r_71)
theorem w_impl_NameOK (t_1 : Str) (r : Bool) (hf : impl_NameOK t_1 = some r) : CallOK Try.prog 105 .flat [(.str t_1)] (.bool r) := by
 refine CallOK.of_awp mixed Try.func105 fc105 nle ?_; rw [argT_eq]; unfold impl_NameOK at hf; unfold c105; refine (show awp Try.prog false 0 _ (ofL [(0, (.str t_1))]) [] _ from ?_); refine awp_seq <| w_reg <| s_mov (.bool false) rfl <| w_done <| k_seq <| awp_seq <| awp_seq <| w_reg <| s_mov (.str t_1) rfl <| s_dof (o_lenS rfl) fun hl2 => s_mov (.int .i64 0) rfl <| w_done <| k_seq <| ?_
 obtain ⟨p50, hb1, hf⟩ := ob hf
 refine awp_cutx (X := {q : Unit // p50 = .go q}) (fun q => ([(0, (.str t_1))], [])) ?_ ?_
 ·refine awp_loop (X := {q : Nat // impl_NameOK_L1 (t_1.drop q) q = some p50}) (fun q => ([(0, (.str t_1)), (7, (.int .i64 (t_1.length : Int))), (8, (.int .i64 (q.1 : Int)))], [])) (fun q => t_1.length - q.1) ⟨0, hb1⟩ ⟨[], [], _, _, rfl, rfl, ⟨.refl _, ⟨.refl _, ⟨.refl _, trivial⟩⟩⟩, (.refl _)⟩ ?_
  rintro ⟨s8_34, hc1⟩
  have hc1 : impl_NameOK_L1 (t_1.drop s8_34) s8_34 = some p50 := hc1
  refine (show awp Try.prog false 0 _ (ofL [(0, (.str t_1)), (7, (.int .i64 (t_1.length : Int))), (8, (.int .i64 (s8_34 : Int)))]) [] _ from ?_)
  rcases dropc t_1 s8_34 with ⟨hie53, hd56⟩ | ⟨hlt51, x_57, hx52, hd56⟩
  ·rw [hd56, impl_NameOK_L1.eq_1] at hc1
   have hq55 := dlf hie53
   refine awp_seq <| w_reg <| s_q (.bool (decide ((s8_34 : Int) < (t_1.length : Int)))) rfl rfl rfl <| w_done <| k_seq <| awp_seq <| w_condf rfl hq55 <| w_exit <| k_seqx <| k_loopx <| k_blkx <| ?_; obtain rfl := os hc1; exact k_cutn ⟨_, rfl⟩ ⟨[], [], _, _, rfl, rfl, ⟨.refl _, trivial⟩, (.refl _)⟩
  ·rw [hd56, impl_NameOK_L1.eq_2] at hc1
   have hq55 := dlt hlt51
   refine awp_seq <| w_reg <| s_q (.bool (decide ((s8_34 : Int) < (t_1.length : Int)))) rfl rfl rfl <| w_done <| k_seq <| awp_seq <| w_condt rfl hq55 <| w_skip <| k_seq <| awp_seq <| w_blk <| awp_seq <| w_reg <| s_mov (.int .i64 (s8_34 : Int)) rfl <| s_mov (.int .i64 (s8_34 : Int)) rfl <| w_done <| k_seq <| awp_seq <| w_reg <| s_mov (.str t_1) rfl <| s_mov (.int .i64 (s8_34 : Int)) rfl <| s_do (o_idxsn rfl rfl hx52) <| s_mov (.int .u8 (x_57.toNat : Int)) rfl <| w_done <| k_seq <| awp_seq <| ?_
   obtain ⟨p58, hb2, hc1⟩ := ob hc1
   refine awp_cut ([(0, (.str t_1)), (3, (.int .i64 (s8_34 : Int))), (4, (.int .u8 (x_57.toNat : Int))), (5, (.bool (bif (bif (bif (decide ((x_57.toNat : Int) ≥ 97)) then (decide ((x_57.toNat : Int) ≤ 122)) else false) then true else (bif (decide ((x_57.toNat : Int) ≥ 65)) then (decide ((x_57.toNat : Int) ≤ 90)) else false)) then true else ((x_57.toNat : Int) == 95)))), (7, (.int .i64 (t_1.length : Int))), (8, (.int .i64 (s8_34 : Int)))], []) ?_ ?_
   ·refine w_reg <| s_mov (.int .u8 (x_57.toNat : Int)) rfl <| s_q (.bool (decide ((x_57.toNat : Int) ≥ 97))) rfl rfl rfl <| s_mov (.bool (decide ((x_57.toNat : Int) ≥ 97))) rfl <| ?_; refine s_g (v := (decide ((x_57.toNat : Int) ≥ 97))) (.int .u8 (x_57.toNat : Int)) rfl (fun hv => by (try simp only [gs_on hv]); exact ⟨rfl, trivial, rfl⟩) ?_; refine s_g (v := (decide ((x_57.toNat : Int) ≥ 97))) (.bool (decide ((x_57.toNat : Int) ≤ 122))) rfl (fun hv => by (try simp only [gs_on hv]); exact ⟨rfl, rfl, rfl⟩) ?_; refine s_pick (x := (decide ((x_57.toNat : Int) ≤ 122))) (y := false) rfl (fun hv => by (try simp only [gs_on hv]); rfl) (fun hv => by (try simp only [gs_on hv]); rfl) ?_; refine s_mov (.bool (bif (decide ((x_57.toNat : Int) ≥ 97)) then (decide ((x_57.toNat : Int) ≤ 122)) else false)) rfl ?_
    refine s_g (v := (bif (decide ((x_57.toNat : Int) ≥ 97)) then (decide ((x_57.toNat : Int) ≤ 122)) else false)) (.int .u8 (x_57.toNat : Int)) rfl (fun hv => by (try simp only [gs_on hv]); exact ⟨rfl, trivial, rfl⟩) ?_; refine s_g (v := (bif (decide ((x_57.toNat : Int) ≥ 97)) then (decide ((x_57.toNat : Int) ≤ 122)) else false)) (.bool (decide ((x_57.toNat : Int) ≥ 65))) rfl (fun hv => by (try simp only [gs_on hv]); exact ⟨rfl, rfl, rfl⟩) ?_; refine s_g (v := (bif (decide ((x_57.toNat : Int) ≥ 97)) then (decide ((x_57.toNat : Int) ≤ 122)) else false)) (.bool (decide ((x_57.toNat : Int) ≥ 65))) rfl (fun hv => by (try simp only [gs_on hv]); exact ⟨rfl, trivial, rfl⟩) ?_; refine s_gg (v1 := (bif (decide ((x_57.toNat : Int) ≥ 97)) then (decide ((x_57.toNat : Int) ≤ 122)) else false)) (b1 := false) (v2 := (decide ((x_57.toNat : Int) ≥ 65))) (.int .u8 (x_57.toNat : Int)) rfl (fun hv hw => by (try simp only [gs_on hv, gs_on hw]); exact ⟨rfl, trivial, rfl⟩) ?_
    refine s_gg (v1 := (bif (decide ((x_57.toNat : Int) ≥ 97)) then (decide ((x_57.toNat : Int) ≤ 122)) else false)) (b1 := false) (v2 := (decide ((x_57.toNat : Int) ≥ 65))) (.bool (decide ((x_57.toNat : Int) ≤ 90))) rfl (fun hv hw => by (try simp only [gs_on hv, gs_on hw]); exact ⟨rfl, rfl, rfl⟩) ?_; refine s_gp (v1 := (bif (decide ((x_57.toNat : Int) ≥ 97)) then (decide ((x_57.toNat : Int) ≤ 122)) else false)) (b1 := false) (v2 := (decide ((x_57.toNat : Int) ≥ 65))) (x := (decide ((x_57.toNat : Int) ≤ 90))) (y := false) rfl (fun hv => by (try simp only [gs_on hv]); rfl) (fun hv hw => by (try simp only [gs_on hv, gs_on hw]); rfl) (fun hv hw => by (try simp only [gs_on hv, gs_on hw]); rfl) ?_; refine s_pick (x := true) (y := (bif (decide ((x_57.toNat : Int) ≥ 65)) then (decide ((x_57.toNat : Int) ≤ 90)) else false)) rfl (fun hv => by (try simp only [gs_on hv]); rfl) (fun hv => by (try simp only [gs_on hv]); rfl) ?_
    refine s_mov (.bool (bif (bif (decide ((x_57.toNat : Int) ≥ 97)) then (decide ((x_57.toNat : Int) ≤ 122)) else false) then true else (bif (decide ((x_57.toNat : Int) ≥ 65)) then (decide ((x_57.toNat : Int) ≤ 90)) else false))) rfl ?_; refine s_g (v := (bif (bif (decide ((x_57.toNat : Int) ≥ 97)) then (decide ((x_57.toNat : Int) ≤ 122)) else false) then true else (bif (decide ((x_57.toNat : Int) ≥ 65)) then (decide ((x_57.toNat : Int) ≤ 90)) else false))) (.int .u8 (x_57.toNat : Int)) rfl (fun hv => by (try simp only [gs_on hv]); exact ⟨rfl, trivial, rfl⟩) ?_; refine s_g (v := (bif (bif (decide ((x_57.toNat : Int) ≥ 97)) then (decide ((x_57.toNat : Int) ≤ 122)) else false) then true else (bif (decide ((x_57.toNat : Int) ≥ 65)) then (decide ((x_57.toNat : Int) ≤ 90)) else false))) (.bool ((x_57.toNat : Int) == 95)) rfl (fun hv => by (try simp only [gs_on hv]); exact ⟨rfl, rfl, rfl⟩) ?_
    refine s_pick (x := true) (y := ((x_57.toNat : Int) == 95)) rfl (fun hv => by (try simp only [gs_on hv]); rfl) (fun hv => by (try simp only [gs_on hv]); rfl) ?_; refine s_mov (.bool (bif (bif (bif (decide ((x_57.toNat : Int) ≥ 97)) then (decide ((x_57.toNat : Int) ≤ 122)) else false) then true else (bif (decide ((x_57.toNat : Int) ≥ 65)) then (decide ((x_57.toNat : Int) ≤ 90)) else false)) then true else ((x_57.toNat : Int) == 95))) rfl <| w_done <| ?_; obtain rfl := os hb2; exact ⟨[], [], _, _, rfl, rfl, ⟨.refl _, ⟨.refl _, ⟨.refl _, ⟨.refl _, ⟨.refl _, ⟨.refl _, trivial⟩⟩⟩⟩⟩⟩, (.refl _)⟩
   ·refine awp_seq ?_
    obtain ⟨s42_63, hb2, hc1⟩ := ob hc1
    refine awp_cut ([(0, (.str t_1)), (7, (.int .i64 (t_1.length : Int))), (8, (.int .i64 (s8_34 : Int))), (42, (.bool s42_63))], []) ?_ ?_
    ·refine w_reg ?_
     rcases oi hb2 with ⟨c65, hb2⟩ | ⟨c65, hb2⟩
     ·rcases oi hb2 with ⟨c66, hb2⟩ | ⟨c66, hb2⟩
      ·refine s_mov (.bool (bif (bif (bif (decide ((x_57.toNat : Int) ≥ 97)) then (decide ((x_57.toNat : Int) ≤ 122)) else false) then true else (bif (decide ((x_57.toNat : Int) ≥ 65)) then (decide ((x_57.toNat : Int) ≤ 90)) else false)) then true else ((x_57.toNat : Int) == 95))) rfl <| s_q (.bool (!(bif (bif (bif (decide ((x_57.toNat : Int) ≥ 97)) then (decide ((x_57.toNat : Int) ≤ 122)) else false) then true else (bif (decide ((x_57.toNat : Int) ≥ 65)) then (decide ((x_57.toNat : Int) ≤ 90)) else false)) then true else ((x_57.toNat : Int) == 95)))) rfl trivial rfl <| s_mov (.bool (!(bif (bif (bif (decide ((x_57.toNat : Int) ≥ 97)) then (decide ((x_57.toNat : Int) ≤ 122)) else false) then true else (bif (decide ((x_57.toNat : Int) ≥ 65)) then (decide ((x_57.toNat : Int) ≤ 90)) else false)) then true else ((x_57.toNat : Int) == 95)))) rfl <| ?_
       refine s_lit (s := 34) (b := true) rfl c65 <| s_on rfl <| s_mov (.int .i64 (s8_34 : Int)) rfl <| s_on rfl <| s_q (.bool ((s8_34 : Int) == 0)) rfl rfl rfl <| s_on rfl <| s_mov (.bool ((s8_34 : Int) == 0)) rfl <| s_lit (s := 37) (b := true) rfl c66 <| s_off rfl rfl <| s_off rfl rfl <| s_off rfl rfl <| s_on rfl <| s_q (.bool true) rfl trivial rfl <| s_q (.bool true) rfl trivial rfl <| w_done <| ?_; obtain rfl := os hb2; exact ⟨[], [], _, _, rfl, rfl, ⟨.refl _, ⟨.refl _, ⟨.refl _, ⟨.refl _, trivial⟩⟩⟩⟩, (.refl _)⟩
      ·obtain ⟨r_67, er68, hb2⟩ := ob hb2
       refine s_mov (.bool (bif (bif (bif (decide ((x_57.toNat : Int) ≥ 97)) then (decide ((x_57.toNat : Int) ≤ 122)) else false) then true else (bif (decide ((x_57.toNat : Int) ≥ 65)) then (decide ((x_57.toNat : Int) ≤ 90)) else false)) then true else ((x_57.toNat : Int) == 95))) rfl <| s_q (.bool (!(bif (bif (bif (decide ((x_57.toNat : Int) ≥ 97)) then (decide ((x_57.toNat : Int) ≤ 122)) else false) then true else (bif (decide ((x_57.toNat : Int) ≥ 65)) then (decide ((x_57.toNat : Int) ≤ 90)) else false)) then true else ((x_57.toNat : Int) == 95)))) rfl trivial rfl <| s_mov (.bool (!(bif (bif (bif (decide ((x_57.toNat : Int) ≥ 97)) then (decide ((x_57.toNat : Int) ≤ 122)) else false) then true else (bif (decide ((x_57.toNat : Int) ≥ 65)) then (decide ((x_57.toNat : Int) ≤ 90)) else false)) then true else ((x_57.toNat : Int) == 95)))) rfl <| ?_
       refine s_lit (s := 34) (b := true) rfl c65 <| s_on rfl <| s_mov (.int .i64 (s8_34 : Int)) rfl <| s_on rfl <| s_q (.bool ((s8_34 : Int) == 0)) rfl rfl rfl <| s_on rfl <| s_mov (.bool ((s8_34 : Int) == 0)) rfl <| s_lit (s := 37) (b := false) rfl (bf c66) <| s_on rfl <| s_mov (.int .u8 (x_57.toNat : Int)) rfl <| s_on rfl <| s_do (o_call (w_impl_isDigit _ _ er68) rfl (.refl _) rfl) <| s_on rfl <| s_q (.bool (!r_67)) rfl trivial rfl <| s_on rfl <| s_q (.bool (!r_67)) rfl trivial rfl <| s_q (.bool (!r_67)) rfl trivial rfl <| w_done <| ?_; obtain rfl := os hb2; exact ⟨[], [], _, _, rfl, rfl, ⟨.refl _, ⟨.refl _, ⟨.refl _, ⟨.refl _, trivial⟩⟩⟩⟩, (.refl _)⟩
     ·refine s_mov (.bool (bif (bif (bif (decide ((x_57.toNat : Int) ≥ 97)) then (decide ((x_57.toNat : Int) ≤ 122)) else false) then true else (bif (decide ((x_57.toNat : Int) ≥ 65)) then (decide ((x_57.toNat : Int) ≤ 90)) else false)) then true else ((x_57.toNat : Int) == 95))) rfl <| s_q (.bool (!(bif (bif (bif (decide ((x_57.toNat : Int) ≥ 97)) then (decide ((x_57.toNat : Int) ≤ 122)) else false) then true else (bif (decide ((x_57.toNat : Int) ≥ 65)) then (decide ((x_57.toNat : Int) ≤ 90)) else false)) then true else ((x_57.toNat : Int) == 95)))) rfl trivial rfl <| s_mov (.bool (!(bif (bif (bif (decide ((x_57.toNat : Int) ≥ 97)) then (decide ((x_57.toNat : Int) ≤ 122)) else false) then true else (bif (decide ((x_57.toNat : Int) ≥ 65)) then (decide ((x_57.toNat : Int) ≤ 90)) else false)) then true else ((x_57.toNat : Int) == 95)))) rfl <| ?_
      refine s_lit (s := 34) (b := false) rfl (bf c65) <| s_off rfl rfl <| s_off rfl rfl <| s_off rfl rfl <| s_offs rfl <| s_offs rfl <| s_offs rfl <| s_off rfl rfl <| s_q (.bool false) rfl trivial rfl <| w_done <| ?_; obtain rfl := os hb2; exact ⟨[], [], _, _, rfl, rfl, ⟨.refl _, ⟨.refl _, ⟨.refl _, ⟨.refl _, trivial⟩⟩⟩⟩, (.refl _)⟩
    ·rcases oi hc1 with ⟨c69, hc1⟩ | ⟨c69, hc1⟩
     ·refine w_condt rfl c69 <| awp_seq <| w_reg <| s_mov (.bool false) rfl <| w_done <| k_seq <| w_ret <| ?_; obtain rfl := os hc1; obtain rfl := os hf; exact r_flat ⟨trivial, trivial⟩ rfl (.refl _)
     ·refine w_condf rfl (bf c69) <| w_skip <| k_blk <| k_seq <| w_reg <| s_q (.int .i64 (w64 ((s8_34 : Int) + 1))) rfl rfl rfl <| s_mov (.int .i64 (w64 ((s8_34 : Int) + 1))) rfl <| w_done <| ?_; exact k_loopn ⟨(s8_34 + 1), hc1⟩ (mul hlt51) ⟨[], [], _, _, rfl, rfl, ⟨.refl _, ⟨.refl _, ⟨.of_eq (congrArg (AV.int _) (w64_incr hlt51 hl2)), trivial⟩⟩⟩, (.refl _)⟩
 ·rintro ⟨_, rfl⟩
  refine awp_seq <| w_reg <| ?_
  obtain ⟨r_71, er72, hf⟩ := ob hf
  refine s_mov (.str t_1) rfl <| s_dof (o_lenS rfl) fun hl70 => s_do (o_call (w_impl_within _ _ _ _ er72) rfl (.refl _) rfl) <| s_mov (.bool r_71) rfl <| w_done <| k_seq <| w_ret <| ?_; obtain rfl := os hf; exact r_flat ⟨trivial, trivial⟩ rfl (.refl _)

/- impl.isNumber -/
def c218 : ACode :=
 (.seq (.reg (tm 2 (.c (.bool false)) .done))
 (.seq (.reg (tm 3 (.t 0) (tq 4 (.call 106 [(.t 3), (.c (.int .i64 (-1000000000))), (.c (.int .i64 1000000000))]) (tm 2 (.t 4) .done))))
 .ret))
theorem fc218 : fcomp Try.prog Try.f218 = some (c218.erase, [.mov (.t 2)], 5) := by kernel_rfl
def impl_isNumber (n_1 : Int) : Option Bool :=
    (impl_within n_1 (-1000000000) 1000000000).bind fun r_2 =>
    some r_2
theorem w_impl_isNumber (n_1 : Int) (r : Bool) (hf : impl_isNumber n_1 = some r) : CallOK Try.prog 218 .flat [(.int .i64 n_1)] (.bool r) := by
  refine CallOK.of_awp mixed Try.func218 fc218 nle ?_
  rw [argT_eq]
  unfold impl_isNumber at hf
  unfold c218
  refine (show awp Try.prog false 0 _ (ofL [(0, (.int .i64 n_1))]) [] _ from ?_)
  refine awp_seq ?_
  refine w_reg ?_
  refine s_do (o_mov (.bool false) rfl) ?_
  refine w_done ?_
  refine k_seq ?_
  refine awp_seq ?_
  refine w_reg ?_
  obtain ⟨r_2, er3, hf⟩ := ob hf
  refine s_do (o_mov (.int .i64 n_1) rfl) ?_
  refine s_do (o_call (w_impl_within _ _ _ _ er3) rfl (.refl _) rfl) ?_
  refine s_do (o_mov (.bool r_2) rfl) ?_
  refine w_done ?_
  refine k_seq ?_
  refine w_ret ?_
  obtain rfl := os hf
  exact r_flat ⟨trivial, trivial⟩ rfl (.refl _)

/- impl.ColumnOK -/
def c145 : ACode :=
 (.seq (.reg (tq 1 (.box 8 (.t 0)) (tm 2 (.c (.bool false)) .done)))
 (.seq (.seq (.reg (tq 3 (.faddr 0 (.t 1)) (tq 4 (.load 1 false (.t 3)) (tq 5 (.call 105 [(.t 4)]) (tq 6 (.not (.t 5)) (tm 7 (.t 6) (tg 8 7 false (.faddr 2 (.t 1)) (tg 9 7 false (.load 1 false (.t 8)) (tg 10 7 false (.call 106 [(.t 9), (.c (.int .i64 0)), (.c (.int .i64 1))]) (tg 11 7 false (.not (.t 10)) (tq 12 (.pick (.t 7) (.c (.bool true)) (.t 11)) (tm 13 (.t 12) (tg 14 13 false (.faddr 3 (.t 1)) (tg 15 13 false (.load 1 false (.t 14)) (tg 16 13 false (.call 106 [(.t 15), (.c (.int .i64 1)), (.c (.int .i64 8))]) (tg 17 13 false (.not (.t 16)) (tq 18 (.pick (.t 13) (.c (.bool true)) (.t 17)) .done)))))))))))))))))
 (.cut (.cond (.t 18) (.seq (.reg (tm 2 (.c (.bool false)) .done))
 .ret)
 .skip)))
 (.seq (.seq (.reg (tq 19 (.faddr 1 (.t 1)) (tq 20 (.load 1 false (.t 19)) .done)))
 (.block 0 (.seq (.reg (tq 22 (.bin .eql (.t 20) (.c (.int .i64 1))) (tm 21 (.t 22) .done)))
 (.cond (.t 21) (.seq (.reg (tq 23 (.faddr 4 (.t 1)) (tq 24 (.load 1 false (.t 23)) (tq 25 (.call 218 [(.t 24)]) (tm 26 (.t 25) (tg 27 26 true (.faddr 5 (.t 1)) (tg 28 26 true (.load 1 false (.t 27)) (tg 29 26 true (.call 218 [(.t 28)]) (tq 30 (.pick (.t 26) (.t 29) (.c (.bool false))) (tm 31 (.t 30) (tg 32 31 true (.faddr 4 (.t 1)) (tg 33 31 true (.load 1 false (.t 32)) (tg 34 31 true (.faddr 5 (.t 1)) (tg 35 31 true (.load 1 false (.t 34)) (tg 36 31 true (.bin .leq (.t 33) (.t 35)) (tq 37 (.pick (.t 31) (.t 36) (.c (.bool false))) (tm 38 (.t 37) (tg 39 38 true (.faddr 6 (.t 1)) (tg 40 38 true (.load 1 false (.t 39)) (tg 41 38 true (.bin .eql (.t 40) (.c (.str []))) (tq 42 (.pick (.t 38) (.t 41) (.c (.bool false))) (tm 43 (.t 42) (tg 44 43 true (.faddr 7 (.t 1)) (tg 45 43 true (.load 1 false (.t 44)) (tg 46 43 true (.not (.t 45)) (tq 47 (.pick (.t 43) (.t 46) (.c (.bool false))) (tm 2 (.t 47) .done)))))))))))))))))))))))))))
 .ret)
 (.seq (.seq (.reg (tq 49 (.bin .eql (.t 20) (.c (.int .i64 2))) (tm 48 (.t 49) .done)))
 (.cond (.t 48) .skip
 (.reg (tq 50 (.bin .eql (.t 20) (.c (.int .i64 3))) (tm 48 (.t 50) .done)))))
 (.cut (.cond (.t 48) (.seq (.reg (tq 51 (.faddr 4 (.t 1)) (tq 52 (.load 1 false (.t 51)) (tq 53 (.bin .eql (.t 52) (.c (.int .i64 0))) (tm 54 (.t 53) (tg 55 54 true (.faddr 5 (.t 1)) (tg 56 54 true (.load 1 false (.t 55)) (tg 57 54 true (.bin .eql (.t 56) (.c (.int .i64 0))) (tq 58 (.pick (.t 54) (.t 57) (.c (.bool false))) (tm 59 (.t 58) (tg 60 59 true (.faddr 6 (.t 1)) (tg 61 59 true (.load 1 false (.t 60)) (tg 62 59 true (.bin .eql (.t 61) (.c (.str []))) (tq 63 (.pick (.t 59) (.t 62) (.c (.bool false))) (tm 64 (.t 63) (tg 65 64 true (.faddr 7 (.t 1)) (tg 66 64 true (.load 1 false (.t 65)) (tg 67 64 true (.not (.t 66)) (tq 68 (.pick (.t 64) (.t 67) (.c (.bool false))) (tm 2 (.t 68) .done))))))))))))))))))))
 .ret)
 (.seq (.reg (tq 70 (.bin .eql (.t 20) (.c (.int .i64 4))) (tm 69 (.t 70) .done)))
 (.cond (.t 69) (.seq (.reg (tq 71 (.faddr 4 (.t 1)) (tq 72 (.load 1 false (.t 71)) (tq 73 (.bin .eql (.t 72) (.c (.int .i64 0))) (tm 74 (.t 73) (tg 75 74 true (.faddr 5 (.t 1)) (tg 76 74 true (.load 1 false (.t 75)) (tg 77 74 true (.bin .eql (.t 76) (.c (.int .i64 0))) (tq 78 (.pick (.t 74) (.t 77) (.c (.bool false))) (tm 79 (.t 78) (tg 80 79 true (.faddr 6 (.t 1)) (tg 81 79 true (.load 1 false (.t 80)) (tg 82 79 true (.call 105 [(.t 81)]) (tq 83 (.pick (.t 79) (.t 82) (.c (.bool false))) (tm 84 (.t 83) (tg 85 84 true (.faddr 2 (.t 1)) (tg 86 84 true (.load 1 false (.t 85)) (tg 87 84 true (.bin .eql (.t 86) (.c (.int .i64 0))) (tq 88 (.pick (.t 84) (.t 87) (.c (.bool false))) (tm 2 (.t 88) .done))))))))))))))))))))
 .ret)
 .skip)))))))))
 (.seq (.reg (tm 2 (.c (.bool false)) .done))
 .ret))))
theorem fc145 : fcomp Try.prog Try.f145 = some (c145.erase, [.mov (.t 2)], 89) := by kernel_rfl
def impl_ColumnOK (c_1 : GColumn) : Option Bool :=
    (((impl_NameOK c_1.Name).bind fun r_12 =>
    if (!r_12) then
    some true
    else
    (impl_within c_1.Min 0 1).bind fun r_15 =>
    if (!r_15) then
    some true
    else
    (impl_within c_1.Max 1 8).bind fun r_18 =>
    some (!r_18) : Option Bool)).bind fun s18_10 =>
    if s18_10 then
    some false
    else
    if (c_1.Kind == 1) then
    (impl_isNumber c_1.Low).bind fun r_22 =>
    if r_22 then
    (impl_isNumber c_1.High).bind fun r_25 =>
    some (bif (bif (bif r_25 then (decide (c_1.Low ≤ c_1.High)) else false) then (c_1.Ref == []) else false) then (!c_1.Strong) else false)
    else
    some false
    else
    ((if (c_1.Kind == 2) then
    some true
    else
    some (c_1.Kind == 3) : Option Bool)).bind fun s48_28 =>
    if s48_28 then
    some (bif (bif (bif (c_1.Low == 0) then (c_1.High == 0) else false) then (c_1.Ref == []) else false) then (!c_1.Strong) else false)
    else
    if (c_1.Kind == 4) then
    if (bif (c_1.Low == 0) then (c_1.High == 0) else false) then
    (impl_NameOK c_1.Ref).bind fun r_34 =>
    some (bif r_34 then (c_1.Min == 0) else false)
    else
    some false
    else
    some false
theorem w_impl_ColumnOK (c_1 : GColumn) (r : Bool) (hf : impl_ColumnOK c_1 = some r) : CallOK Try.prog 145 .flat [(encGColumn c_1)] (.bool r) := by
 refine CallOK.of_awp mixed Try.func145 fc145 nle ?_; rw [argT_eq]; unfold impl_ColumnOK at hf; unfold c145; refine (show awp Try.prog false 0 _ (ofL [(0, (encGColumn c_1))]) [] _ from ?_); refine awp_seq <| w_reg <| s_do (o_box (j := 0) (c := (.agg [(.str c_1.Name), (.int .i64 c_1.Kind), (.int .i64 c_1.Min), (.int .i64 c_1.Max), (.int .i64 c_1.Low), (.int .i64 c_1.High), (.str c_1.Ref), (.bool c_1.Strong)])) rfl trivial rfl rfl) <| s_mov (.bool false) rfl <| w_done <| k_seq <| awp_seq <| awp_seq <| ?_
 obtain ⟨s18_10, hb1, hf⟩ := ob hf
 refine awp_cut ([(1, (.ptr 0 0 0)), (18, (.bool s18_10))], [.box 8 (.agg [(.str c_1.Name), (.int .i64 c_1.Kind), (.int .i64 c_1.Min), (.int .i64 c_1.Max), (.int .i64 c_1.Low), (.int .i64 c_1.High), (.str c_1.Ref), (.bool c_1.Strong)])]) ?_ ?_
 ·refine w_reg <| s_q (.ptr 0 0 0) rfl trivial rfl <| s_q (.str c_1.Name) rfl nle rfl <| ?_
  obtain ⟨r_12, er13, hb1⟩ := ob hb1
  refine s_do (o_call (w_impl_NameOK _ _ er13) rfl (.refl _) rfl) <| s_q (.bool (!r_12)) rfl trivial rfl <| s_mov (.bool (!r_12)) rfl <| ?_
  rcases oi hb1 with ⟨c14, hb1⟩ | ⟨c14, hb1⟩
  ·refine s_lit (s := 7) (b := true) rfl c14 <| s_off rfl rfl <| s_off rfl rfl <| s_off rfl rfl <| s_off rfl rfl <| s_q (.bool true) rfl trivial rfl <| s_mov (.bool true) rfl <| s_off rfl rfl <| s_off rfl rfl <| s_off rfl rfl <| s_off rfl rfl <| s_q (.bool true) rfl trivial rfl <| w_done <| ?_; obtain rfl := os hb1; exact ⟨[], [0], _, _, rfl, rfl, ⟨.refl _, ⟨.refl _, trivial⟩⟩, (.refl _)⟩
  ·refine s_lit (s := 7) (b := false) rfl (bf c14) <| s_on rfl <| s_q (.ptr 0 0 2) rfl trivial rfl <| s_on rfl <| s_q (.int .i64 c_1.Min) rfl nle rfl <| s_on rfl <| ?_
   obtain ⟨r_15, er16, hb1⟩ := ob hb1
   refine s_do (o_call (w_impl_within _ _ _ _ er16) rfl (.refl _) rfl) <| s_on rfl <| s_q (.bool (!r_15)) rfl trivial rfl <| s_q (.bool (!r_15)) rfl trivial rfl <| s_mov (.bool (!r_15)) rfl <| ?_
   rcases oi hb1 with ⟨c17, hb1⟩ | ⟨c17, hb1⟩
   ·refine s_lit (s := 13) (b := true) rfl c17 <| s_off rfl rfl <| s_off rfl rfl <| s_off rfl rfl <| s_off rfl rfl <| s_q (.bool true) rfl trivial rfl <| w_done <| ?_; obtain rfl := os hb1; exact ⟨[], [0], _, _, rfl, rfl, ⟨.refl _, ⟨.refl _, trivial⟩⟩, (.refl _)⟩
   ·refine s_lit (s := 13) (b := false) rfl (bf c17) <| s_on rfl <| s_q (.ptr 0 0 3) rfl trivial rfl <| s_on rfl <| s_q (.int .i64 c_1.Max) rfl nle rfl <| s_on rfl <| ?_
    obtain ⟨r_18, er19, hb1⟩ := ob hb1
    refine s_do (o_call (w_impl_within _ _ _ _ er19) rfl (.refl _) rfl) <| s_on rfl <| s_q (.bool (!r_18)) rfl trivial rfl <| s_q (.bool (!r_18)) rfl trivial rfl <| w_done <| ?_; obtain rfl := os hb1; exact ⟨[], [0], _, _, rfl, rfl, ⟨.refl _, ⟨.refl _, trivial⟩⟩, (.refl _)⟩
 ·rcases oi hf with ⟨c20, hf⟩ | ⟨c20, hf⟩
  ·refine w_condt rfl c20 <| awp_seq <| w_reg <| s_mov (.bool false) rfl <| w_done <| k_seq <| w_ret <| ?_; obtain rfl := os hf; exact r_flat ⟨trivial, trivial⟩ rfl (.refl _)
  ·refine w_condf rfl (bf c20) <| w_skip <| k_seq <| awp_seq <| awp_seq <| w_reg <| s_q (.ptr 0 0 1) rfl trivial rfl <| s_q (.int .i64 c_1.Kind) rfl nle rfl <| w_done <| k_seq <| w_blk <| awp_seq <| w_reg <| s_q (.bool (c_1.Kind == 1)) rfl rfl rfl <| s_mov (.bool (c_1.Kind == 1)) rfl <| w_done <| k_seq <| ?_
   rcases oi hf with ⟨c21, hf⟩ | ⟨c21, hf⟩
   ·refine w_condt rfl c21 <| awp_seq <| w_reg <| s_q (.ptr 0 0 4) rfl trivial rfl <| s_q (.int .i64 c_1.Low) rfl nle rfl <| ?_
    obtain ⟨r_22, er23, hf⟩ := ob hf
    refine s_do (o_call (w_impl_isNumber _ _ er23) rfl (.refl _) rfl) <| s_mov (.bool r_22) rfl <| ?_
    rcases oi hf with ⟨c24, hf⟩ | ⟨c24, hf⟩
    ·refine s_lit (s := 26) (b := true) rfl c24 <| s_on rfl <| s_q (.ptr 0 0 5) rfl trivial rfl <| s_on rfl <| s_q (.int .i64 c_1.High) rfl nle rfl <| s_on rfl <| ?_
     obtain ⟨r_25, er26, hf⟩ := ob hf
     refine s_do (o_call (w_impl_isNumber _ _ er26) rfl (.refl _) rfl) <| s_q (.bool r_25) rfl trivial rfl <| s_mov (.bool r_25) rfl <| ?_; refine s_g (v := r_25) (.ptr 0 0 4) rfl (fun hv => by (try simp only [gs_on hv]); exact ⟨rfl, trivial, rfl⟩) ?_; refine s_g (v := r_25) (.int .i64 c_1.Low) rfl (fun hv => by (try simp only [gs_on hv]); exact ⟨rfl, nle, rfl⟩) ?_; refine s_g (v := r_25) (.ptr 0 0 5) rfl (fun hv => by (try simp only [gs_on hv]); exact ⟨rfl, trivial, rfl⟩) ?_; refine s_g (v := r_25) (.int .i64 c_1.High) rfl (fun hv => by (try simp only [gs_on hv]); exact ⟨rfl, nle, rfl⟩) ?_; refine s_g (v := r_25) (.bool (decide (c_1.Low ≤ c_1.High))) rfl (fun hv => by (try simp only [gs_on hv]); exact ⟨rfl, rfl, rfl⟩) ?_
     refine s_pick (x := (decide (c_1.Low ≤ c_1.High))) (y := false) rfl (fun hv => by (try simp only [gs_on hv]); rfl) (fun hv => by (try simp only [gs_on hv]); rfl) ?_; refine s_mov (.bool (bif r_25 then (decide (c_1.Low ≤ c_1.High)) else false)) rfl ?_; refine s_g (v := (bif r_25 then (decide (c_1.Low ≤ c_1.High)) else false)) (.ptr 0 0 6) rfl (fun hv => by (try simp only [gs_on hv]); exact ⟨rfl, trivial, rfl⟩) ?_; refine s_g (v := (bif r_25 then (decide (c_1.Low ≤ c_1.High)) else false)) (.str c_1.Ref) rfl (fun hv => by (try simp only [gs_on hv]); exact ⟨rfl, nle, rfl⟩) ?_; refine s_g (v := (bif r_25 then (decide (c_1.Low ≤ c_1.High)) else false)) (.bool (c_1.Ref == [])) rfl (fun hv => by (try simp only [gs_on hv]); exact ⟨rfl, trivial, rfl⟩) ?_
     refine s_pick (x := (c_1.Ref == [])) (y := false) rfl (fun hv => by (try simp only [gs_on hv]); rfl) (fun hv => by (try simp only [gs_on hv]); rfl) ?_; refine s_mov (.bool (bif (bif r_25 then (decide (c_1.Low ≤ c_1.High)) else false) then (c_1.Ref == []) else false)) rfl ?_; refine s_g (v := (bif (bif r_25 then (decide (c_1.Low ≤ c_1.High)) else false) then (c_1.Ref == []) else false)) (.ptr 0 0 7) rfl (fun hv => by (try simp only [gs_on hv]); exact ⟨rfl, trivial, rfl⟩) ?_; refine s_g (v := (bif (bif r_25 then (decide (c_1.Low ≤ c_1.High)) else false) then (c_1.Ref == []) else false)) (.bool c_1.Strong) rfl (fun hv => by (try simp only [gs_on hv]); exact ⟨rfl, nle, rfl⟩) ?_; refine s_g (v := (bif (bif r_25 then (decide (c_1.Low ≤ c_1.High)) else false) then (c_1.Ref == []) else false)) (.bool (!c_1.Strong)) rfl (fun hv => by (try simp only [gs_on hv]); exact ⟨rfl, trivial, rfl⟩) ?_
     refine s_pick (x := (!c_1.Strong)) (y := false) rfl (fun hv => by (try simp only [gs_on hv]); rfl) (fun hv => by (try simp only [gs_on hv]); rfl) ?_; refine s_mov (.bool (bif (bif (bif r_25 then (decide (c_1.Low ≤ c_1.High)) else false) then (c_1.Ref == []) else false) then (!c_1.Strong) else false)) rfl <| w_done <| k_seq <| w_ret <| ?_; obtain rfl := os hf; exact r_flat ⟨trivial, trivial⟩ rfl (.refl _)
    ·refine s_lit (s := 26) (b := false) rfl (bf c24) <| s_off rfl rfl <| s_off rfl rfl <| s_off rfl rfl <| s_q (.bool false) rfl trivial rfl <| s_mov (.bool false) rfl <| s_off rfl rfl <| s_off rfl rfl <| s_off rfl rfl <| s_off rfl rfl <| s_off rfl rfl <| s_q (.bool false) rfl trivial rfl <| s_mov (.bool false) rfl <| s_off rfl rfl <| s_off rfl rfl <| s_off rfl rfl <| s_q (.bool false) rfl trivial rfl <| s_mov (.bool false) rfl <| s_off rfl rfl <| s_off rfl rfl <| s_off rfl rfl <| s_q (.bool false) rfl trivial rfl <| s_mov (.bool false) rfl <| w_done <| k_seq <| w_ret <| ?_; obtain rfl := os hf; exact r_flat ⟨trivial, trivial⟩ rfl (.refl _)
   ·refine w_condf rfl (bf c21) <| awp_seq <| ?_
    obtain ⟨s48_28, hb1, hf⟩ := ob hf
    refine awp_cut ([(1, (.ptr 0 0 0)), (20, (.int .i64 c_1.Kind)), (48, (.bool s48_28))], [.box 8 (.agg [(.str c_1.Name), (.int .i64 c_1.Kind), (.int .i64 c_1.Min), (.int .i64 c_1.Max), (.int .i64 c_1.Low), (.int .i64 c_1.High), (.str c_1.Ref), (.bool c_1.Strong)])]) ?_ ?_
    ·refine awp_seq <| w_reg <| s_q (.bool (c_1.Kind == 2)) rfl rfl rfl <| s_mov (.bool (c_1.Kind == 2)) rfl <| w_done <| k_seq <| ?_
     rcases oi hb1 with ⟨c30, hb1⟩ | ⟨c30, hb1⟩
     ·refine w_condt rfl c30 <| w_skip <| ?_; obtain rfl := os hb1; exact ⟨[], [0], _, _, rfl, rfl, ⟨.refl _, ⟨.refl _, ⟨.refl _, trivial⟩⟩⟩, (.refl _)⟩
     ·refine w_condf rfl (bf c30) <| w_reg <| s_q (.bool (c_1.Kind == 3)) rfl rfl rfl <| s_mov (.bool (c_1.Kind == 3)) rfl <| w_done <| ?_; obtain rfl := os hb1; exact ⟨[], [0], _, _, rfl, rfl, ⟨.refl _, ⟨.refl _, ⟨.refl _, trivial⟩⟩⟩, (.refl _)⟩
    ·rcases oi hf with ⟨c31, hf⟩ | ⟨c31, hf⟩
     ·refine w_condt rfl c31 <| awp_seq <| w_reg <| s_q (.ptr 0 0 4) rfl trivial rfl <| s_q (.int .i64 c_1.Low) rfl nle rfl <| s_q (.bool (c_1.Low == 0)) rfl rfl rfl <| s_mov (.bool (c_1.Low == 0)) rfl <| ?_; refine s_g (v := (c_1.Low == 0)) (.ptr 0 0 5) rfl (fun hv => by (try simp only [gs_on hv]); exact ⟨rfl, trivial, rfl⟩) ?_; refine s_g (v := (c_1.Low == 0)) (.int .i64 c_1.High) rfl (fun hv => by (try simp only [gs_on hv]); exact ⟨rfl, nle, rfl⟩) ?_; refine s_g (v := (c_1.Low == 0)) (.bool (c_1.High == 0)) rfl (fun hv => by (try simp only [gs_on hv]); exact ⟨rfl, rfl, rfl⟩) ?_; refine s_pick (x := (c_1.High == 0)) (y := false) rfl (fun hv => by (try simp only [gs_on hv]); rfl) (fun hv => by (try simp only [gs_on hv]); rfl) ?_
      refine s_mov (.bool (bif (c_1.Low == 0) then (c_1.High == 0) else false)) rfl ?_; refine s_g (v := (bif (c_1.Low == 0) then (c_1.High == 0) else false)) (.ptr 0 0 6) rfl (fun hv => by (try simp only [gs_on hv]); exact ⟨rfl, trivial, rfl⟩) ?_; refine s_g (v := (bif (c_1.Low == 0) then (c_1.High == 0) else false)) (.str c_1.Ref) rfl (fun hv => by (try simp only [gs_on hv]); exact ⟨rfl, nle, rfl⟩) ?_; refine s_g (v := (bif (c_1.Low == 0) then (c_1.High == 0) else false)) (.bool (c_1.Ref == [])) rfl (fun hv => by (try simp only [gs_on hv]); exact ⟨rfl, trivial, rfl⟩) ?_; refine s_pick (x := (c_1.Ref == [])) (y := false) rfl (fun hv => by (try simp only [gs_on hv]); rfl) (fun hv => by (try simp only [gs_on hv]); rfl) ?_
      refine s_mov (.bool (bif (bif (c_1.Low == 0) then (c_1.High == 0) else false) then (c_1.Ref == []) else false)) rfl ?_; refine s_g (v := (bif (bif (c_1.Low == 0) then (c_1.High == 0) else false) then (c_1.Ref == []) else false)) (.ptr 0 0 7) rfl (fun hv => by (try simp only [gs_on hv]); exact ⟨rfl, trivial, rfl⟩) ?_; refine s_g (v := (bif (bif (c_1.Low == 0) then (c_1.High == 0) else false) then (c_1.Ref == []) else false)) (.bool c_1.Strong) rfl (fun hv => by (try simp only [gs_on hv]); exact ⟨rfl, nle, rfl⟩) ?_; refine s_g (v := (bif (bif (c_1.Low == 0) then (c_1.High == 0) else false) then (c_1.Ref == []) else false)) (.bool (!c_1.Strong)) rfl (fun hv => by (try simp only [gs_on hv]); exact ⟨rfl, trivial, rfl⟩) ?_
      refine s_pick (x := (!c_1.Strong)) (y := false) rfl (fun hv => by (try simp only [gs_on hv]); rfl) (fun hv => by (try simp only [gs_on hv]); rfl) ?_; refine s_mov (.bool (bif (bif (bif (c_1.Low == 0) then (c_1.High == 0) else false) then (c_1.Ref == []) else false) then (!c_1.Strong) else false)) rfl <| w_done <| k_seq <| w_ret <| ?_; obtain rfl := os hf; exact r_flat ⟨trivial, trivial⟩ rfl (.refl _)
     ·refine w_condf rfl (bf c31) <| awp_seq <| w_reg <| s_q (.bool (c_1.Kind == 4)) rfl rfl rfl <| s_mov (.bool (c_1.Kind == 4)) rfl <| w_done <| k_seq <| ?_
      rcases oi hf with ⟨c32, hf⟩ | ⟨c32, hf⟩
      ·refine w_condt rfl c32 <| awp_seq <| w_reg <| s_q (.ptr 0 0 4) rfl trivial rfl <| s_q (.int .i64 c_1.Low) rfl nle rfl <| s_q (.bool (c_1.Low == 0)) rfl rfl rfl <| s_mov (.bool (c_1.Low == 0)) rfl <| ?_; refine s_g (v := (c_1.Low == 0)) (.ptr 0 0 5) rfl (fun hv => by (try simp only [gs_on hv]); exact ⟨rfl, trivial, rfl⟩) ?_; refine s_g (v := (c_1.Low == 0)) (.int .i64 c_1.High) rfl (fun hv => by (try simp only [gs_on hv]); exact ⟨rfl, nle, rfl⟩) ?_; refine s_g (v := (c_1.Low == 0)) (.bool (c_1.High == 0)) rfl (fun hv => by (try simp only [gs_on hv]); exact ⟨rfl, rfl, rfl⟩) ?_; refine s_pick (x := (c_1.High == 0)) (y := false) rfl (fun hv => by (try simp only [gs_on hv]); rfl) (fun hv => by (try simp only [gs_on hv]); rfl) ?_
       refine s_mov (.bool (bif (c_1.Low == 0) then (c_1.High == 0) else false)) rfl ?_
       rcases oi hf with ⟨c33, hf⟩ | ⟨c33, hf⟩
       ·refine s_lit (s := 79) (b := true) rfl c33 <| s_on rfl <| s_q (.ptr 0 0 6) rfl trivial rfl <| s_on rfl <| s_q (.str c_1.Ref) rfl nle rfl <| s_on rfl <| ?_
        obtain ⟨r_34, er35, hf⟩ := ob hf
        refine s_do (o_call (w_impl_NameOK _ _ er35) rfl (.refl _) rfl) <| s_q (.bool r_34) rfl trivial rfl <| s_mov (.bool r_34) rfl <| ?_; refine s_g (v := r_34) (.ptr 0 0 2) rfl (fun hv => by (try simp only [gs_on hv]); exact ⟨rfl, trivial, rfl⟩) ?_; refine s_g (v := r_34) (.int .i64 c_1.Min) rfl (fun hv => by (try simp only [gs_on hv]); exact ⟨rfl, nle, rfl⟩) ?_; refine s_g (v := r_34) (.bool (c_1.Min == 0)) rfl (fun hv => by (try simp only [gs_on hv]); exact ⟨rfl, rfl, rfl⟩) ?_; refine s_pick (x := (c_1.Min == 0)) (y := false) rfl (fun hv => by (try simp only [gs_on hv]); rfl) (fun hv => by (try simp only [gs_on hv]); rfl) ?_; refine s_mov (.bool (bif r_34 then (c_1.Min == 0) else false)) rfl <| w_done <| k_seq <| w_ret <| ?_; obtain rfl := os hf
        exact r_flat ⟨trivial, trivial⟩ rfl (.refl _)
       ·refine s_lit (s := 79) (b := false) rfl (bf c33) <| s_off rfl rfl <| s_off rfl rfl <| s_off rfl rfl <| s_q (.bool false) rfl trivial rfl <| s_mov (.bool false) rfl <| s_off rfl rfl <| s_off rfl rfl <| s_off rfl rfl <| s_q (.bool false) rfl trivial rfl <| s_mov (.bool false) rfl <| w_done <| k_seq <| w_ret <| ?_; obtain rfl := os hf; exact r_flat ⟨trivial, trivial⟩ rfl (.refl _)
      ·refine w_condf rfl (bf c32) <| w_skip <| k_blk <| k_seq <| awp_seq <| w_reg <| s_mov (.bool false) rfl <| w_done <| k_seq <| w_ret <| ?_; obtain rfl := os hf; exact r_flat ⟨trivial, trivial⟩ rfl (.refl _)

/- impl.isPlain -/
def c244 : ACode :=
 (.seq (.reg (tm 2 (.c (.bool false)) .done))
 (.seq (.seq (.reg (tm 4 (.t 0) (tq 5 (.lenS (.t 4)) (tm 6 (.c (.int .i64 0)) .done))))
 (.block 0 (.loop (.seq (.reg (tq 7 (.bin .lss (.t 6) (.t 5)) .done))
 (.seq (.cond (.t 7) .skip
 (.exit 0))
 (.seq (.block 1 (.seq (.reg (tm 8 (.t 6) (tm 3 (.t 8) .done)))
 (.seq (.reg (tm 9 (.t 0) (tm 10 (.t 3) (tq 11 (.idxs (.t 9) (.t 10)) (tq 12 (.bin .lss (.t 11) (.c (.int .u8 32))) (tm 13 (.t 12) (tg 14 13 false (.mov (.t 0)) (tg 15 13 false (.mov (.t 3)) (tg 16 13 false (.idxs (.t 14) (.t 15)) (tg 17 13 false (.bin .gtr (.t 16) (.c (.int .u8 126))) (tq 18 (.pick (.t 13) (.c (.bool true)) (.t 17)) .done)))))))))))
 (.cut (.cond (.t 18) (.seq (.reg (tm 2 (.c (.bool false)) .done))
 .ret)
 .skip)))))
 (.reg (tq 19 (.bin .add (.t 6) (.c (.int .i64 1))) (tm 6 (.t 19) .done)))))))))
 (.cut (.seq (.reg (tm 20 (.t 0) (tq 21 (.lenS (.t 20)) (tq 22 (.bin .leq (.t 21) (.c (.int .i64 200))) (tm 2 (.t 22) .done)))))
 .ret))))
theorem fc244 : fcomp Try.prog Try.f244 = some (c244.erase, [.mov (.t 2)], 23) := by kernel_rfl
def impl_isPlain_L1  : List UInt8 → Option (Fl Bool Unit)
  | [] =>
    some (.go ())
  | x_54 :: xs =>
    ((if (decide ((x_54.toNat : Int) < 32)) then
    some true
    else
    some (decide ((x_54.toNat : Int) > 126)) : Option Bool)).bind fun s18_56 =>
    if s18_56 then
    some (.ret false)
    else
    impl_isPlain_L1 xs 

def impl_isPlain (t_1 : Str) : Option Bool :=
    (impl_isPlain_L1 t_1 ).bind fun q => (match q with
    | .ret r => some r
    | .go _ =>
    some (decide ((t_1.length : Int) ≤ 200)))
theorem w_impl_isPlain (t_1 : Str) (r : Bool) (hf : impl_isPlain t_1 = some r) : CallOK Try.prog 244 .flat [(.str t_1)] (.bool r) := by
 refine CallOK.of_awp mixed Try.func244 fc244 nle ?_; rw [argT_eq]; unfold impl_isPlain at hf; unfold c244; refine (show awp Try.prog false 0 _ (ofL [(0, (.str t_1))]) [] _ from ?_); refine awp_seq <| w_reg <| s_mov (.bool false) rfl <| w_done <| k_seq <| awp_seq <| awp_seq <| w_reg <| s_mov (.str t_1) rfl <| s_dof (o_lenS rfl) fun hl2 => s_mov (.int .i64 0) rfl <| w_done <| k_seq <| ?_
 obtain ⟨p47, hb1, hf⟩ := ob hf
 refine awp_cutx (X := {q : Unit // p47 = .go q}) (fun q => ([(0, (.str t_1))], [])) ?_ ?_
 ·refine awp_loop (X := {q : Nat // impl_isPlain_L1 (t_1.drop q)  = some p47}) (fun q => ([(0, (.str t_1)), (5, (.int .i64 (t_1.length : Int))), (6, (.int .i64 (q.1 : Int)))], [])) (fun q => t_1.length - q.1) ⟨0, hb1⟩ ⟨[], [], _, _, rfl, rfl, ⟨.refl _, ⟨.refl _, ⟨.refl _, trivial⟩⟩⟩, (.refl _)⟩ ?_
  rintro ⟨s6_32, hc1⟩
  have hc1 : impl_isPlain_L1 (t_1.drop s6_32)  = some p47 := hc1
  refine (show awp Try.prog false 0 _ (ofL [(0, (.str t_1)), (5, (.int .i64 (t_1.length : Int))), (6, (.int .i64 (s6_32 : Int)))]) [] _ from ?_)
  rcases dropc t_1 s6_32 with ⟨hie50, hd53⟩ | ⟨hlt48, x_54, hx49, hd53⟩
  ·rw [hd53, impl_isPlain_L1.eq_1] at hc1
   have hq52 := dlf hie50
   refine awp_seq <| w_reg <| s_q (.bool (decide ((s6_32 : Int) < (t_1.length : Int)))) rfl rfl rfl <| w_done <| k_seq <| awp_seq <| w_condf rfl hq52 <| w_exit <| k_seqx <| k_loopx <| k_blkx <| ?_; obtain rfl := os hc1; exact k_cutn ⟨_, rfl⟩ ⟨[], [], _, _, rfl, rfl, ⟨.refl _, trivial⟩, (.refl _)⟩
  ·rw [hd53, impl_isPlain_L1.eq_2] at hc1
   have hq52 := dlt hlt48
   refine awp_seq <| w_reg <| s_q (.bool (decide ((s6_32 : Int) < (t_1.length : Int)))) rfl rfl rfl <| w_done <| k_seq <| awp_seq <| w_condt rfl hq52 <| w_skip <| k_seq <| awp_seq <| w_blk <| awp_seq <| w_reg <| s_mov (.int .i64 (s6_32 : Int)) rfl <| s_mov (.int .i64 (s6_32 : Int)) rfl <| w_done <| k_seq <| awp_seq <| ?_
   obtain ⟨s18_56, hb2, hc1⟩ := ob hc1
   refine awp_cut ([(0, (.str t_1)), (5, (.int .i64 (t_1.length : Int))), (6, (.int .i64 (s6_32 : Int))), (18, (.bool s18_56))], []) ?_ ?_
   ·refine w_reg ?_
    rcases oi hb2 with ⟨c58, hb2⟩ | ⟨c58, hb2⟩
    ·refine s_mov (.str t_1) rfl <| s_mov (.int .i64 (s6_32 : Int)) rfl <| s_do (o_idxsn rfl rfl hx49) <| s_q (.bool (decide ((x_54.toNat : Int) < 32))) rfl rfl rfl <| s_mov (.bool (decide ((x_54.toNat : Int) < 32))) rfl <| s_lit (s := 13) (b := true) rfl c58 <| s_off rfl rfl <| s_off rfl rfl <| s_off rfl rfl <| s_off rfl rfl <| s_q (.bool true) rfl trivial rfl <| w_done <| ?_; obtain rfl := os hb2; exact ⟨[], [], _, _, rfl, rfl, ⟨.refl _, ⟨.refl _, ⟨.refl _, ⟨.refl _, trivial⟩⟩⟩⟩, (.refl _)⟩
    ·refine s_mov (.str t_1) rfl <| s_mov (.int .i64 (s6_32 : Int)) rfl <| s_do (o_idxsn rfl rfl hx49) <| s_q (.bool (decide ((x_54.toNat : Int) < 32))) rfl rfl rfl <| s_mov (.bool (decide ((x_54.toNat : Int) < 32))) rfl <| s_lit (s := 13) (b := false) rfl (bf c58) <| s_on rfl <| s_mov (.str t_1) rfl <| s_on rfl <| s_mov (.int .i64 (s6_32 : Int)) rfl <| s_on rfl <| s_do (o_idxsn rfl rfl hx49) <| s_on rfl <| s_q (.bool (decide ((x_54.toNat : Int) > 126))) rfl rfl rfl <| s_q (.bool (decide ((x_54.toNat : Int) > 126))) rfl trivial rfl <| w_done <| ?_; obtain rfl := os hb2; exact ⟨[], [], _, _, rfl, rfl, ⟨.refl _, ⟨.refl _, ⟨.refl _, ⟨.refl _, trivial⟩⟩⟩⟩, (.refl _)⟩
   ·rcases oi hc1 with ⟨c59, hc1⟩ | ⟨c59, hc1⟩
    ·refine w_condt rfl c59 <| awp_seq <| w_reg <| s_mov (.bool false) rfl <| w_done <| k_seq <| w_ret <| ?_; obtain rfl := os hc1; obtain rfl := os hf; exact r_flat ⟨trivial, trivial⟩ rfl (.refl _)
    ·refine w_condf rfl (bf c59) <| w_skip <| k_blk <| k_seq <| w_reg <| s_q (.int .i64 (w64 ((s6_32 : Int) + 1))) rfl rfl rfl <| s_mov (.int .i64 (w64 ((s6_32 : Int) + 1))) rfl <| w_done <| ?_; exact k_loopn ⟨(s6_32 + 1), hc1⟩ (mul hlt48) ⟨[], [], _, _, rfl, rfl, ⟨.refl _, ⟨.refl _, ⟨.of_eq (congrArg (AV.int _) (w64_incr hlt48 hl2)), trivial⟩⟩⟩, (.refl _)⟩
 ·rintro ⟨_, rfl⟩
  refine awp_seq <| w_reg <| s_mov (.str t_1) rfl <| s_dof (o_lenS rfl) fun hl60 => s_q (.bool (decide ((t_1.length : Int) ≤ 200))) rfl rfl rfl <| s_mov (.bool (decide ((t_1.length : Int) ≤ 200))) rfl <| w_done <| k_seq <| w_ret <| ?_; obtain rfl := os hf; exact r_flat ⟨trivial, trivial⟩ rfl (.refl _)

/- impl.isId -/
def c245 : ACode :=
 (.seq (.reg (tm 2 (.c (.bool false)) .done))
 (.seq (.reg (tm 3 (.t 0) (tq 4 (.call 106 [(.t 3), (.c (.int .i64 1)), (.c (.int .i64 1000000))]) (tm 2 (.t 4) .done))))
 .ret))
theorem fc245 : fcomp Try.prog Try.f245 = some (c245.erase, [.mov (.t 2)], 5) := by kernel_rfl
def impl_isId (n_1 : Int) : Option Bool :=
    (impl_within n_1 1 1000000).bind fun r_2 =>
    some r_2
theorem w_impl_isId (n_1 : Int) (r : Bool) (hf : impl_isId n_1 = some r) : CallOK Try.prog 245 .flat [(.int .i64 n_1)] (.bool r) := by
  refine CallOK.of_awp mixed Try.func245 fc245 nle ?_
  rw [argT_eq]
  unfold impl_isId at hf
  unfold c245
  refine (show awp Try.prog false 0 _ (ofL [(0, (.int .i64 n_1))]) [] _ from ?_)
  refine awp_seq ?_
  refine w_reg ?_
  refine s_do (o_mov (.bool false) rfl) ?_
  refine w_done ?_
  refine k_seq ?_
  refine awp_seq ?_
  refine w_reg ?_
  obtain ⟨r_2, er3, hf⟩ := ob hf
  refine s_do (o_mov (.int .i64 n_1) rfl) ?_
  refine s_do (o_call (w_impl_within _ _ _ _ er3) rfl (.refl _) rfl) ?_
  refine s_do (o_mov (.bool r_2) rfl) ?_
  refine w_done ?_
  refine k_seq ?_
  refine w_ret ?_
  obtain rfl := os hf
  exact r_flat ⟨trivial, trivial⟩ rfl (.refl _)

/- impl.AtomOK -/
def c176 : ACode :=
 (.seq (.reg (tq 1 (.box 3 (.t 0)) (tm 2 (.c (.bool false)) .done)))
 (.seq (.seq (.reg (tq 3 (.faddr 0 (.t 1)) (tq 4 (.load 1 false (.t 3)) .done)))
 (.block 0 (.seq (.reg (tq 6 (.bin .eql (.t 4) (.c (.int .i64 1))) (tm 5 (.t 6) .done)))
 (.cond (.t 5) (.seq (.reg (tq 7 (.faddr 1 (.t 1)) (tq 8 (.load 1 false (.t 7)) (tq 9 (.call 218 [(.t 8)]) (tm 10 (.t 9) (tg 11 10 true (.faddr 2 (.t 1)) (tg 12 10 true (.load 1 false (.t 11)) (tg 13 10 true (.bin .eql (.t 12) (.c (.str []))) (tq 14 (.pick (.t 10) (.t 13) (.c (.bool false))) (tm 2 (.t 14) .done))))))))))
 .ret)
 (.seq (.reg (tq 16 (.bin .eql (.t 4) (.c (.int .i64 2))) (tm 15 (.t 16) .done)))
 (.cond (.t 15) (.seq (.reg (tq 17 (.faddr 1 (.t 1)) (tq 18 (.load 1 false (.t 17)) (tq 19 (.bin .eql (.t 18) (.c (.int .i64 0))) (tm 20 (.t 19) (tg 21 20 true (.faddr 2 (.t 1)) (tg 22 20 true (.load 1 false (.t 21)) (tg 23 20 true (.call 244 [(.t 22)]) (tq 24 (.pick (.t 20) (.t 23) (.c (.bool false))) (tm 2 (.t 24) .done))))))))))
 .ret)
 (.seq (.reg (tq 26 (.bin .eql (.t 4) (.c (.int .i64 3))) (tm 25 (.t 26) .done)))
 (.cond (.t 25) (.seq (.reg (tq 27 (.faddr 1 (.t 1)) (tq 28 (.load 1 false (.t 27)) (tq 29 (.call 106 [(.t 28), (.c (.int .i64 0)), (.c (.int .i64 1))]) (tm 30 (.t 29) (tg 31 30 true (.faddr 2 (.t 1)) (tg 32 30 true (.load 1 false (.t 31)) (tg 33 30 true (.bin .eql (.t 32) (.c (.str []))) (tq 34 (.pick (.t 30) (.t 33) (.c (.bool false))) (tm 2 (.t 34) .done))))))))))
 .ret)
 (.seq (.reg (tq 36 (.bin .eql (.t 4) (.c (.int .i64 4))) (tm 35 (.t 36) .done)))
 (.cond (.t 35) (.seq (.reg (tq 37 (.faddr 1 (.t 1)) (tq 38 (.load 1 false (.t 37)) (tq 39 (.call 245 [(.t 38)]) (tm 40 (.t 39) (tg 41 40 true (.faddr 2 (.t 1)) (tg 42 40 true (.load 1 false (.t 41)) (tg 43 40 true (.bin .eql (.t 42) (.c (.str []))) (tq 44 (.pick (.t 40) (.t 43) (.c (.bool false))) (tm 2 (.t 44) .done))))))))))
 .ret)
 .skip))))))))))
 (.seq (.reg (tm 2 (.c (.bool false)) .done))
 .ret)))
theorem fc176 : fcomp Try.prog Try.f176 = some (c176.erase, [.mov (.t 2)], 45) := by kernel_rfl
def impl_AtomOK (a_1 : GAtom) : Option Bool :=
    if (a_1.Kind == 1) then
    (impl_isNumber a_1.N).bind fun r_3 =>
    if r_3 then
    some (a_1.T == [])
    else
    some false
    else
    if (a_1.Kind == 2) then
    if (a_1.N == 0) then
    (impl_isPlain a_1.T).bind fun r_8 =>
    some r_8
    else
    some false
    else
    if (a_1.Kind == 3) then
    (impl_within a_1.N 0 1).bind fun r_11 =>
    if r_11 then
    some (a_1.T == [])
    else
    some false
    else
    if (a_1.Kind == 4) then
    (impl_isId a_1.N).bind fun r_15 =>
    if r_15 then
    some (a_1.T == [])
    else
    some false
    else
    some false
theorem w_impl_AtomOK (a_1 : GAtom) (r : Bool) (hf : impl_AtomOK a_1 = some r) : CallOK Try.prog 176 .flat [(encGAtom a_1)] (.bool r) := by
 refine CallOK.of_awp mixed Try.func176 fc176 nle ?_; rw [argT_eq]; unfold impl_AtomOK at hf; unfold c176; refine (show awp Try.prog false 0 _ (ofL [(0, (encGAtom a_1))]) [] _ from ?_); refine awp_seq <| w_reg <| s_do (o_box (j := 0) (c := (.agg [(.int .i64 a_1.Kind), (.int .i64 a_1.N), (.str a_1.T)])) rfl trivial rfl rfl) <| s_mov (.bool false) rfl <| w_done <| k_seq <| awp_seq <| awp_seq <| w_reg <| s_q (.ptr 0 0 0) rfl trivial rfl <| s_q (.int .i64 a_1.Kind) rfl nle rfl <| w_done <| k_seq <| w_blk <| awp_seq <| w_reg <| s_q (.bool (a_1.Kind == 1)) rfl rfl rfl <| s_mov (.bool (a_1.Kind == 1)) rfl <| w_done <| k_seq <| ?_
 rcases oi hf with ⟨c2, hf⟩ | ⟨c2, hf⟩
 ·refine w_condt rfl c2 <| awp_seq <| w_reg <| ?_
  obtain ⟨r_3, er4, hf⟩ := ob hf
  rcases oi hf with ⟨c5, hf⟩ | ⟨c5, hf⟩
  ·refine s_q (.ptr 0 0 1) rfl trivial rfl <| s_q (.int .i64 a_1.N) rfl nle rfl <| s_do (o_call (w_impl_isNumber _ _ er4) rfl (.refl _) rfl) <| s_mov (.bool r_3) rfl <| s_lit (s := 10) (b := true) rfl c5 <| s_on rfl <| s_q (.ptr 0 0 2) rfl trivial rfl <| s_on rfl <| s_q (.str a_1.T) rfl nle rfl <| s_on rfl <| s_q (.bool (a_1.T == [])) rfl trivial rfl <| s_q (.bool (a_1.T == [])) rfl trivial rfl <| s_mov (.bool (a_1.T == [])) rfl <| w_done <| k_seq <| w_ret <| ?_; obtain rfl := os hf; exact r_flat ⟨trivial, trivial⟩ rfl (.refl _)
  ·refine s_q (.ptr 0 0 1) rfl trivial rfl <| s_q (.int .i64 a_1.N) rfl nle rfl <| s_do (o_call (w_impl_isNumber _ _ er4) rfl (.refl _) rfl) <| s_mov (.bool r_3) rfl <| s_lit (s := 10) (b := false) rfl (bf c5) <| s_off rfl rfl <| s_off rfl rfl <| s_off rfl rfl <| s_q (.bool false) rfl trivial rfl <| s_mov (.bool false) rfl <| w_done <| k_seq <| w_ret <| ?_; obtain rfl := os hf; exact r_flat ⟨trivial, trivial⟩ rfl (.refl _)
 ·refine w_condf rfl (bf c2) <| awp_seq <| w_reg <| s_q (.bool (a_1.Kind == 2)) rfl rfl rfl <| s_mov (.bool (a_1.Kind == 2)) rfl <| w_done <| k_seq <| ?_
  rcases oi hf with ⟨c6, hf⟩ | ⟨c6, hf⟩
  ·refine w_condt rfl c6 <| awp_seq <| w_reg <| ?_
   rcases oi hf with ⟨c7, hf⟩ | ⟨c7, hf⟩
   ·obtain ⟨r_8, er9, hf⟩ := ob hf
    refine s_q (.ptr 0 0 1) rfl trivial rfl <| s_q (.int .i64 a_1.N) rfl nle rfl <| s_q (.bool (a_1.N == 0)) rfl rfl rfl <| s_mov (.bool (a_1.N == 0)) rfl <| s_lit (s := 20) (b := true) rfl c7 <| s_on rfl <| s_q (.ptr 0 0 2) rfl trivial rfl <| s_on rfl <| s_q (.str a_1.T) rfl nle rfl <| s_on rfl <| s_do (o_call (w_impl_isPlain _ _ er9) rfl (.refl _) rfl) <| s_q (.bool r_8) rfl trivial rfl <| s_mov (.bool r_8) rfl <| w_done <| k_seq <| w_ret <| ?_; obtain rfl := os hf; exact r_flat ⟨trivial, trivial⟩ rfl (.refl _)
   ·refine s_q (.ptr 0 0 1) rfl trivial rfl <| s_q (.int .i64 a_1.N) rfl nle rfl <| s_q (.bool (a_1.N == 0)) rfl rfl rfl <| s_mov (.bool (a_1.N == 0)) rfl <| s_lit (s := 20) (b := false) rfl (bf c7) <| s_off rfl rfl <| s_off rfl rfl <| s_off rfl rfl <| s_q (.bool false) rfl trivial rfl <| s_mov (.bool false) rfl <| w_done <| k_seq <| w_ret <| ?_; obtain rfl := os hf; exact r_flat ⟨trivial, trivial⟩ rfl (.refl _)
  ·refine w_condf rfl (bf c6) <| awp_seq <| w_reg <| s_q (.bool (a_1.Kind == 3)) rfl rfl rfl <| s_mov (.bool (a_1.Kind == 3)) rfl <| w_done <| k_seq <| ?_
   rcases oi hf with ⟨c10, hf⟩ | ⟨c10, hf⟩
   ·refine w_condt rfl c10 <| awp_seq <| w_reg <| ?_
    obtain ⟨r_11, er12, hf⟩ := ob hf
    rcases oi hf with ⟨c13, hf⟩ | ⟨c13, hf⟩
    ·refine s_q (.ptr 0 0 1) rfl trivial rfl <| s_q (.int .i64 a_1.N) rfl nle rfl <| s_do (o_call (w_impl_within _ _ _ _ er12) rfl (.refl _) rfl) <| s_mov (.bool r_11) rfl <| s_lit (s := 30) (b := true) rfl c13 <| s_on rfl <| s_q (.ptr 0 0 2) rfl trivial rfl <| s_on rfl <| s_q (.str a_1.T) rfl nle rfl <| s_on rfl <| s_q (.bool (a_1.T == [])) rfl trivial rfl <| s_q (.bool (a_1.T == [])) rfl trivial rfl <| s_mov (.bool (a_1.T == [])) rfl <| w_done <| k_seq <| w_ret <| ?_; obtain rfl := os hf; exact r_flat ⟨trivial, trivial⟩ rfl (.refl _)
    ·refine s_q (.ptr 0 0 1) rfl trivial rfl <| s_q (.int .i64 a_1.N) rfl nle rfl <| s_do (o_call (w_impl_within _ _ _ _ er12) rfl (.refl _) rfl) <| s_mov (.bool r_11) rfl <| s_lit (s := 30) (b := false) rfl (bf c13) <| s_off rfl rfl <| s_off rfl rfl <| s_off rfl rfl <| s_q (.bool false) rfl trivial rfl <| s_mov (.bool false) rfl <| w_done <| k_seq <| w_ret <| ?_; obtain rfl := os hf; exact r_flat ⟨trivial, trivial⟩ rfl (.refl _)
   ·refine w_condf rfl (bf c10) <| awp_seq <| w_reg <| s_q (.bool (a_1.Kind == 4)) rfl rfl rfl <| s_mov (.bool (a_1.Kind == 4)) rfl <| w_done <| k_seq <| ?_
    rcases oi hf with ⟨c14, hf⟩ | ⟨c14, hf⟩
    ·refine w_condt rfl c14 <| awp_seq <| w_reg <| ?_
     obtain ⟨r_15, er16, hf⟩ := ob hf
     rcases oi hf with ⟨c17, hf⟩ | ⟨c17, hf⟩
     ·refine s_q (.ptr 0 0 1) rfl trivial rfl <| s_q (.int .i64 a_1.N) rfl nle rfl <| s_do (o_call (w_impl_isId _ _ er16) rfl (.refl _) rfl) <| s_mov (.bool r_15) rfl <| s_lit (s := 40) (b := true) rfl c17 <| s_on rfl <| s_q (.ptr 0 0 2) rfl trivial rfl <| s_on rfl <| s_q (.str a_1.T) rfl nle rfl <| s_on rfl <| s_q (.bool (a_1.T == [])) rfl trivial rfl <| s_q (.bool (a_1.T == [])) rfl trivial rfl <| s_mov (.bool (a_1.T == [])) rfl <| w_done <| k_seq <| w_ret <| ?_; obtain rfl := os hf; exact r_flat ⟨trivial, trivial⟩ rfl (.refl _)
     ·refine s_q (.ptr 0 0 1) rfl trivial rfl <| s_q (.int .i64 a_1.N) rfl nle rfl <| s_do (o_call (w_impl_isId _ _ er16) rfl (.refl _) rfl) <| s_mov (.bool r_15) rfl <| s_lit (s := 40) (b := false) rfl (bf c17) <| s_off rfl rfl <| s_off rfl rfl <| s_off rfl rfl <| s_q (.bool false) rfl trivial rfl <| s_mov (.bool false) rfl <| w_done <| k_seq <| w_ret <| ?_; obtain rfl := os hf; exact r_flat ⟨trivial, trivial⟩ rfl (.refl _)
    ·refine w_condf rfl (bf c14) <| w_skip <| k_blk <| k_seq <| awp_seq <| w_reg <| s_mov (.bool false) rfl <| w_done <| k_seq <| w_ret <| ?_; obtain rfl := os hf; exact r_flat ⟨trivial, trivial⟩ rfl (.refl _)

/- cmp.isNaN[int] -/
def c271 : ACode :=
 (.seq (.reg (tm 2 (.c (.bool false)) .done))
 (.seq (.reg (tm 3 (.t 0) (tm 4 (.t 0) (tq 5 (.bin .neq (.t 3) (.t 4)) (tm 2 (.t 5) .done)))))
 .ret))
theorem fc271 : fcomp Try.prog Try.f271 = some (c271.erase, [.mov (.t 2)], 6) := by kernel_rfl
def cmp_isNaN_int (x_1 : Int) : Option Bool :=
    some (x_1 != x_1)
theorem w_cmp_isNaN_int (x_1 : Int) (r : Bool) (hf : cmp_isNaN_int x_1 = some r) : CallOK Try.prog 271 .flat [(.int .i64 x_1)] (.bool r) := by
  refine CallOK.of_awp mixed Try.func271 fc271 nle ?_
  rw [argT_eq]
  unfold cmp_isNaN_int at hf
  unfold c271
  refine (show awp Try.prog false 0 _ (ofL [(0, (.int .i64 x_1))]) [] _ from ?_)
  refine awp_seq ?_
  refine w_reg ?_
  refine s_do (o_mov (.bool false) rfl) ?_
  refine w_done ?_
  refine k_seq ?_
  refine awp_seq ?_
  refine w_reg ?_
  refine s_do (o_mov (.int .i64 x_1) rfl) ?_
  refine s_do (o_mov (.int .i64 x_1) rfl) ?_
  refine s_do (o_q (.bool (x_1 != x_1)) rfl rfl rfl) ?_
  refine s_do (o_mov (.bool (x_1 != x_1)) rfl) ?_
  refine w_done ?_
  refine k_seq ?_
  refine w_ret ?_
  obtain rfl := os hf
  exact r_flat ⟨trivial, trivial⟩ rfl (.refl _)

/- cmp.Compare[int] -/
def c247 : ACode :=
 (.seq (.reg (tm 4 (.c (.int .i64 0)) .done))
 (.seq (.reg (tm 7 (.t 0) (tq 8 (.call 271 [(.t 7)]) (tm 5 (.t 8) .done))))
 (.seq (.reg (tm 9 (.t 1) (tq 10 (.call 271 [(.t 9)]) (tm 6 (.t 10) .done))))
 (.seq (.seq (.reg (tm 11 (.t 5) .done))
 (.cond (.t 11) (.seq (.seq (.reg (tm 12 (.t 6) .done))
 (.cond (.t 12) (.seq (.reg (tm 4 (.c (.int .i64 0)) .done))
 .ret)
 .skip))
 (.seq (.reg (tq 4 (.mov (.c (.int .i64 (-1)))) .done))
 .ret))
 .skip))
 (.seq (.seq (.reg (tm 13 (.t 6) .done))
 (.cond (.t 13) (.seq (.reg (tm 4 (.c (.int .i64 1)) .done))
 .ret)
 .skip))
 (.seq (.seq (.reg (tm 14 (.t 0) (tm 15 (.t 1) (tq 16 (.bin .lss (.t 14) (.t 15)) .done))))
 (.cond (.t 16) (.seq (.reg (tq 4 (.mov (.c (.int .i64 (-1)))) .done))
 .ret)
 .skip))
 (.seq (.seq (.reg (tm 17 (.t 0) (tm 18 (.t 1) (tq 19 (.bin .gtr (.t 17) (.t 18)) .done))))
 (.cond (.t 19) (.seq (.reg (tm 4 (.c (.int .i64 1)) .done))
 .ret)
 .skip))
 (.seq (.reg (tm 4 (.c (.int .i64 0)) .done))
 .ret))))))))
theorem fc247 : fcomp Try.prog Try.f247 = some (c247.erase, [.mov (.t 4)], 20) := by kernel_rfl
def cmp_Compare_int (x_1 : Int) (y_2 : Int) : Option Int :=
    (cmp_isNaN_int x_1).bind fun r_3 =>
    (cmp_isNaN_int y_2).bind fun r_5 =>
    if r_3 then
    if r_5 then
    some 0
    else
    some (-1)
    else
    if r_5 then
    some 1
    else
    if (decide (x_1 < y_2)) then
    some (-1)
    else
    if (decide (x_1 > y_2)) then
    some 1
    else
    some 0
theorem w_cmp_Compare_int (x_1 : Int) (y_2 : Int) (r : Int) (hf : cmp_Compare_int x_1 y_2 = some r) : CallOK Try.prog 247 .flat [(.int .i64 x_1), (.int .i64 y_2)] (.int .i64 r) := by
 refine CallOK.of_awp mixed Try.func247 fc247 nle ?_; rw [argT_eq]; unfold cmp_Compare_int at hf; unfold c247; refine (show awp Try.prog false 0 _ (ofL [(0, (.int .i64 x_1)), (1, (.int .i64 y_2))]) [] _ from ?_); refine awp_seq <| w_reg <| s_mov (.int .i64 0) rfl <| w_done <| k_seq <| awp_seq <| w_reg <| ?_
 obtain ⟨r_3, er4, hf⟩ := ob hf
 refine s_mov (.int .i64 x_1) rfl <| s_do (o_call (w_cmp_isNaN_int _ _ er4) rfl (.refl _) rfl) <| s_mov (.bool r_3) rfl <| w_done <| k_seq <| awp_seq <| w_reg <| ?_
 obtain ⟨r_5, er6, hf⟩ := ob hf
 refine s_mov (.int .i64 y_2) rfl <| s_do (o_call (w_cmp_isNaN_int _ _ er6) rfl (.refl _) rfl) <| s_mov (.bool r_5) rfl <| w_done <| k_seq <| awp_seq <| awp_seq <| w_reg <| s_mov (.bool r_3) rfl <| w_done <| k_seq <| ?_
 rcases oi hf with ⟨c7, hf⟩ | ⟨c7, hf⟩
 ·refine w_condt rfl c7 <| awp_seq <| awp_seq <| w_reg <| s_mov (.bool r_5) rfl <| w_done <| k_seq <| ?_
  rcases oi hf with ⟨c8, hf⟩ | ⟨c8, hf⟩
  ·refine w_condt rfl c8 <| awp_seq <| w_reg <| s_mov (.int .i64 0) rfl <| w_done <| k_seq <| w_ret <| ?_; obtain rfl := os hf; exact r_flat ⟨trivial, trivial⟩ rfl (.refl _)
  ·refine w_condf rfl (bf c8) <| w_skip <| k_seq <| awp_seq <| w_reg <| s_mov (.int .i64 (-1)) rfl <| w_done <| k_seq <| w_ret <| ?_; obtain rfl := os hf; exact r_flat ⟨trivial, trivial⟩ rfl (.refl _)
 ·refine w_condf rfl (bf c7) <| w_skip <| k_seq <| awp_seq <| awp_seq <| w_reg <| s_mov (.bool r_5) rfl <| w_done <| k_seq <| ?_
  rcases oi hf with ⟨c9, hf⟩ | ⟨c9, hf⟩
  ·refine w_condt rfl c9 <| awp_seq <| w_reg <| s_mov (.int .i64 1) rfl <| w_done <| k_seq <| w_ret <| ?_; obtain rfl := os hf; exact r_flat ⟨trivial, trivial⟩ rfl (.refl _)
  ·refine w_condf rfl (bf c9) <| w_skip <| k_seq <| awp_seq <| awp_seq <| w_reg <| s_mov (.int .i64 x_1) rfl <| s_mov (.int .i64 y_2) rfl <| s_q (.bool (decide (x_1 < y_2))) rfl rfl rfl <| w_done <| k_seq <| ?_
   rcases oi hf with ⟨c10, hf⟩ | ⟨c10, hf⟩
   ·refine w_condt rfl c10 <| awp_seq <| w_reg <| s_mov (.int .i64 (-1)) rfl <| w_done <| k_seq <| w_ret <| ?_; obtain rfl := os hf; exact r_flat ⟨trivial, trivial⟩ rfl (.refl _)
   ·refine w_condf rfl (bf c10) <| w_skip <| k_seq <| awp_seq <| awp_seq <| w_reg <| s_mov (.int .i64 x_1) rfl <| s_mov (.int .i64 y_2) rfl <| s_q (.bool (decide (x_1 > y_2))) rfl rfl rfl <| w_done <| k_seq <| ?_
    rcases oi hf with ⟨c11, hf⟩ | ⟨c11, hf⟩
    ·refine w_condt rfl c11 <| awp_seq <| w_reg <| s_mov (.int .i64 1) rfl <| w_done <| k_seq <| w_ret <| ?_; obtain rfl := os hf; exact r_flat ⟨trivial, trivial⟩ rfl (.refl _)
    ·refine w_condf rfl (bf c11) <| w_skip <| k_seq <| awp_seq <| w_reg <| s_mov (.int .i64 0) rfl <| w_done <| k_seq <| w_ret <| ?_; obtain rfl := os hf; exact r_flat ⟨trivial, trivial⟩ rfl (.refl _)

/- internal/bytealg.CompareString -/
def internal_bytealg_CompareString (a b : Str) : Option Int := some (Lib.compareBytes a b)
set_option maxRecDepth 100000 in
open Go.RowKit in
theorem cmps_run (a b : ByteArray) (w : World) : Calls Try.prog 251 #[.string a, .string b] w fun e w' => e = .returned (.int .i64 (Lib.compareBytes a.data.toList b.data.toList)) ∧ w' = w := by
  go_enter Try.func251, (show Try.f251.ntmps = _ from rfl)
  go_wp2
  rw [run_callFunc_extern Try.func272 (by kernel_rfl) (by kernel_rfl) (by kernel_rfl) (e := Extern.BytealgCompare.compare) (by kernel_rfl), Lib.run_compareString]
  simp only [Result.andThen]
  rw [Oper.upon_value]
  go_wp2
  go_ret
  exact ⟨rfl, rfl⟩
open Go.RowKit in
theorem w_internal_bytealg_CompareString (a b : Str) (r : Int) (hf : internal_bytealg_CompareString a b = some r) : CallOK Try.prog 251 .flat [(.str a), (.str b)] (.int .i64 r) := by
  intro w vals fps hr
  simp only [RepVs, Rep] at hr
  obtain ⟨v1, vs1, f1, f2, rfl, ⟨rfl, h1, rfl⟩, ⟨v2, vs2, f3, f4, rfl, ⟨rfl, h2, rfl⟩, ⟨rfl, rfl⟩, rfl⟩, rfl⟩ := hr
  unfold internal_bytealg_CompareString at hf
  obtain rfl := os hf
  refine (cmps_run ⟨a.toArray⟩ ⟨b.toArray⟩ w).mono ?_
  rintro e w' ⟨rfl, rfl⟩
  refine ⟨Below.refl _ _, ?_⟩
  exact ⟨[.int .i64 (Lib.compareBytes a b)], rfl, by simp [Rep]⟩

/- strings.Compare -/
def c184 : ACode :=
 (.seq (.reg (tm 4 (.c (.int .i64 0)) .done))
 (.seq (.reg (tm 5 (.t 0) (tm 6 (.t 1) (tq 7 (.call 251 [(.t 5), (.t 6)]) (tm 4 (.t 7) .done)))))
 .ret))
theorem fc184 : fcomp Try.prog Try.f184 = some (c184.erase, [.mov (.t 4)], 8) := by kernel_rfl
def strings_Compare (a_1 : Str) (b_2 : Str) : Option Int :=
    (internal_bytealg_CompareString a_1 b_2).bind fun r_3 =>
    some r_3
theorem w_strings_Compare (a_1 : Str) (b_2 : Str) (r : Int) (hf : strings_Compare a_1 b_2 = some r) : CallOK Try.prog 184 .flat [(.str a_1), (.str b_2)] (.int .i64 r) := by
  refine CallOK.of_awp mixed Try.func184 fc184 nle ?_
  rw [argT_eq]
  unfold strings_Compare at hf
  unfold c184
  refine (show awp Try.prog false 0 _ (ofL [(0, (.str a_1)), (1, (.str b_2))]) [] _ from ?_)
  refine awp_seq ?_
  refine w_reg ?_
  refine s_do (o_mov (.int .i64 0) rfl) ?_
  refine w_done ?_
  refine k_seq ?_
  refine awp_seq ?_
  refine w_reg ?_
  obtain ⟨r_3, er4, hf⟩ := ob hf
  refine s_do (o_mov (.str a_1) rfl) ?_
  refine s_do (o_mov (.str b_2) rfl) ?_
  refine s_do (o_call (w_internal_bytealg_CompareString _ _ _ er4) rfl (.refl _) rfl) ?_
  refine s_do (o_mov (.int .i64 r_3) rfl) ?_
  refine w_done ?_
  refine k_seq ?_
  refine w_ret ?_
  obtain rfl := os hf
  exact r_flat ⟨trivial, trivial⟩ rfl (.refl _)

/- cmp.Or[int] -/
def c246 : ACode :=
 (.seq (.reg (tm 2 (.c (.int .i64 0)) .done))
 (.seq (.reg (tm 3 (.c (.int .i64 0)) .done))
 (.seq (.seq (.reg (tm 6 (.t 0) (tq 7 (.len (.t 6)) (tm 8 (.c (.int .i64 0)) .done))))
 (.block 0 (.loop (.seq (.reg (tq 9 (.bin .lss (.t 8) (.t 7)) .done))
 (.seq (.cond (.t 9) .skip
 (.exit 0))
 (.seq (.block 1 (.seq (.reg (tq 10 (.iaddr 1 (.t 6) (.t 8)) (tq 11 (.load 1 false (.t 10)) (tm 5 (.t 11) .done))))
 (.seq (.reg (tm 12 (.t 5) (tm 13 (.t 3) (tq 14 (.bin .neq (.t 12) (.t 13)) .done))))
 (.cond (.t 14) (.seq (.reg (tm 15 (.t 5) (tm 2 (.t 15) .done)))
 .ret)
 .skip))))
 (.reg (tq 16 (.bin .add (.t 8) (.c (.int .i64 1))) (tm 8 (.t 16) .done)))))))))
 (.cut (.seq (.reg (tm 17 (.t 3) (tm 2 (.t 17) .done)))
 .ret)))))
theorem fc246 : fcomp Try.prog Try.f246 = some (c246.erase, [.mov (.t 2)], 18) := by kernel_rfl
def cmp_Or_int_L1  : List Int → Option (Fl Int Unit)
  | [] =>
    some (.go ())
  | x_24 :: xs =>
    if (x_24 != 0) then
    some (.ret x_24)
    else
    cmp_Or_int_L1 xs 

def cmp_Or_int (vals_1 : (List Int)) : Option Int :=
    (cmp_Or_int_L1 vals_1 ).bind fun q => (match q with
    | .ret r => some r
    | .go _ =>
    some 0)
theorem w_cmp_Or_int (vals_1 : (List Int)) (r : Int) (hf : cmp_Or_int vals_1 = some r) : CallOK Try.prog 246 .flat [(.lst 1 (vals_1.map encI))] (.int .i64 r) := by
 refine CallOK.of_awp mixed Try.func246 fc246 nle ?_; rw [argT_eq]; unfold cmp_Or_int at hf; unfold c246; refine (show awp Try.prog false 0 _ (ofL [(0, (.lst 1 (vals_1.map encI)))]) [] _ from ?_); refine awp_seq <| w_reg <| s_mov (.int .i64 0) rfl <| w_done <| k_seq <| awp_seq <| w_reg <| s_mov (.int .i64 0) rfl <| w_done <| k_seq <| awp_seq <| awp_seq <| w_reg <| s_mov (.lst 1 (vals_1.map encI)) rfl <| s_dof (o_len (enc := encI) rfl) fun hl2 => s_mov (.int .i64 0) rfl <| w_done <| k_seq <| ?_
 obtain ⟨p17, hb1, hf⟩ := ob hf
 refine awp_cutx (X := {q : Unit // p17 = .go q}) (fun q => ([(3, (.int .i64 0))], [])) ?_ ?_
 ·refine awp_loop (X := {q : Nat // cmp_Or_int_L1 (vals_1.drop q)  = some p17}) (fun q => ([(3, (.int .i64 0)), (6, (.lst 1 (vals_1.map encI))), (7, (.int .i64 (vals_1.length : Int))), (8, (.int .i64 (q.1 : Int)))], [])) (fun q => vals_1.length - q.1) ⟨0, hb1⟩ ⟨[], [], _, _, rfl, rfl, ⟨.refl _, ⟨.refl _, ⟨.refl _, ⟨.refl _, trivial⟩⟩⟩⟩, (.refl _)⟩ ?_
  rintro ⟨s8_12, hc1⟩
  have hc1 : cmp_Or_int_L1 (vals_1.drop s8_12)  = some p17 := hc1
  refine (show awp Try.prog false 0 _ (ofL [(3, (.int .i64 0)), (6, (.lst 1 (vals_1.map encI))), (7, (.int .i64 (vals_1.length : Int))), (8, (.int .i64 (s8_12 : Int)))]) [] _ from ?_)
  rcases dropc vals_1 s8_12 with ⟨hie20, hd23⟩ | ⟨hlt18, x_24, hx19, hd23⟩
  ·rw [hd23, cmp_Or_int_L1.eq_1] at hc1
   have hq22 := dlf hie20
   refine awp_seq <| w_reg <| s_q (.bool (decide ((s8_12 : Int) < (vals_1.length : Int)))) rfl rfl rfl <| w_done <| k_seq <| awp_seq <| w_condf rfl hq22 <| w_exit <| k_seqx <| k_loopx <| k_blkx <| ?_; obtain rfl := os hc1; exact k_cutn ⟨_, rfl⟩ ⟨[], [], _, _, rfl, rfl, ⟨.refl _, trivial⟩, (.refl _)⟩
  ·rw [hd23, cmp_Or_int_L1.eq_2] at hc1
   have hq22 := dlt hlt18
   refine awp_seq <| w_reg <| s_q (.bool (decide ((s8_12 : Int) < (vals_1.length : Int)))) rfl rfl rfl <| w_done <| k_seq <| awp_seq <| w_condt rfl hq22 <| w_skip <| k_seq <| awp_seq <| w_blk <| awp_seq <| w_reg <| s_do (o_iaddrn (enc := encI) rfl rfl hx19) <| s_q (.int .i64 x_24) rfl ⟨rfl, rfl⟩ rfl <| s_mov (.int .i64 x_24) rfl <| w_done <| k_seq <| awp_seq <| w_reg <| s_mov (.int .i64 x_24) rfl <| s_mov (.int .i64 0) rfl <| s_q (.bool (x_24 != 0)) rfl rfl rfl <| w_done <| k_seq <| ?_
   rcases oi hc1 with ⟨c25, hc1⟩ | ⟨c25, hc1⟩
   ·refine w_condt rfl c25 <| awp_seq <| w_reg <| s_mov (.int .i64 x_24) rfl <| s_mov (.int .i64 x_24) rfl <| w_done <| k_seq <| w_ret <| ?_; obtain rfl := os hc1; obtain rfl := os hf; exact r_flat ⟨trivial, trivial⟩ rfl (.refl _)
   ·refine w_condf rfl (bf c25) <| w_skip <| k_blk <| k_seq <| w_reg <| s_q (.int .i64 (w64 ((s8_12 : Int) + 1))) rfl rfl rfl <| s_mov (.int .i64 (w64 ((s8_12 : Int) + 1))) rfl <| w_done <| ?_; exact k_loopn ⟨(s8_12 + 1), hc1⟩ (mul hlt18) ⟨[], [], _, _, rfl, rfl, ⟨.refl _, ⟨.refl _, ⟨.refl _, ⟨.of_eq (congrArg (AV.int _) (w64_incr hlt18 hl2)), trivial⟩⟩⟩⟩, (.refl _)⟩
 ·rintro ⟨_, rfl⟩
  refine awp_seq <| w_reg <| s_mov (.int .i64 0) rfl <| s_mov (.int .i64 0) rfl <| w_done <| k_seq <| w_ret <| ?_; obtain rfl := os hf; exact r_flat ⟨trivial, trivial⟩ rfl (.refl _)

/- impl.compareAtoms -/
def c177 : ACode :=
 (.seq (.reg (tq 2 (.box 3 (.t 0)) (tq 3 (.box 3 (.t 1)) (tm 4 (.c (.int .i64 0)) .done))))
 (.seq (.reg (tq 5 (.faddr 0 (.t 2)) (tq 6 (.load 1 false (.t 5)) (tq 7 (.faddr 0 (.t 3)) (tq 8 (.load 1 false (.t 7)) (tq 10 (.faddr 1 (.t 2)) (tq 11 (.load 1 false (.t 10)) (tq 12 (.faddr 1 (.t 3)) (tq 13 (.load 1 false (.t 12)) (tq 15 (.faddr 2 (.t 2)) (tq 16 (.load 1 false (.t 15)) (tq 17 (.faddr 2 (.t 3)) (tq 18 (.load 1 false (.t 17)) (.l ⟨(some 9), none, .call 247 [(.t 6), (.t 8)]⟩ [⟨(some 18), none, .load 1 false (.t 17)⟩, ⟨(some 17), none, .faddr 2 (.t 3)⟩, ⟨(some 16), none, .load 1 false (.t 15)⟩, ⟨(some 15), none, .faddr 2 (.t 2)⟩, ⟨(some 13), none, .load 1 false (.t 12)⟩, ⟨(some 12), none, .faddr 1 (.t 3)⟩, ⟨(some 11), none, .load 1 false (.t 10)⟩, ⟨(some 10), none, .faddr 1 (.t 2)⟩]
 (.l ⟨(some 14), none, .call 247 [(.t 11), (.t 13)]⟩ [⟨(some 18), none, .load 1 false (.t 17)⟩, ⟨(some 17), none, .faddr 2 (.t 3)⟩, ⟨(some 16), none, .load 1 false (.t 15)⟩, ⟨(some 15), none, .faddr 2 (.t 2)⟩]
 (.l ⟨(some 19), none, .call 184 [(.t 16), (.t 18)]⟩ []
 (.l ⟨(some 20), none, .bslice 1 [(.t 9), (.t 14), (.t 19)]⟩ []
 (.l ⟨(some 21), none, .call 246 [(.t 20)]⟩ []
 (tm 4 (.t 21) .done) .non) .non) .non) .non) .non))))))))))))))
 .ret))
theorem fc177 : fcomp Try.prog Try.f177 = some (c177.erase, [.mov (.t 4)], 22) := by kernel_rfl
def impl_compareAtoms (a_1 : GAtom) (b_2 : GAtom) : Option Int :=
    (cmp_Compare_int a_1.Kind b_2.Kind).bind fun r_3 =>
    (cmp_Compare_int a_1.N b_2.N).bind fun r_5 =>
    (strings_Compare a_1.T b_2.T).bind fun r_7 =>
    (cmp_Or_int [r_3, r_5, r_7]).bind fun r_9 =>
    some r_9
theorem w_impl_compareAtoms (a_1 : GAtom) (b_2 : GAtom) (r : Int) (hf : impl_compareAtoms a_1 b_2 = some r) : CallOK Try.prog 177 .flat [(encGAtom a_1), (encGAtom b_2)] (.int .i64 r) := by
 refine CallOK.of_awp mixed Try.func177 fc177 nle ?_; rw [argT_eq]; unfold impl_compareAtoms at hf; unfold c177; refine (show awp Try.prog false 0 _ (ofL [(0, (encGAtom a_1)), (1, (encGAtom b_2))]) [] _ from ?_); refine awp_seq <| w_reg <| s_do (o_box (j := 0) (c := (.agg [(.int .i64 a_1.Kind), (.int .i64 a_1.N), (.str a_1.T)])) rfl trivial rfl rfl) <| s_do (o_box (j := 1) (c := (.agg [(.int .i64 b_2.Kind), (.int .i64 b_2.N), (.str b_2.T)])) rfl trivial rfl rfl) <| s_mov (.int .i64 0) rfl <| w_done <| k_seq <| awp_seq <| w_reg <| s_q (.ptr 0 0 0) rfl trivial rfl <| s_q (.int .i64 a_1.Kind) rfl nle rfl <| s_q (.ptr 1 0 0) rfl trivial rfl <| s_q (.int .i64 b_2.Kind) rfl nle rfl <| s_q (.ptr 0 0 1) rfl trivial rfl <| s_q (.int .i64 a_1.N) rfl nle rfl <| ?_
 refine s_q (.ptr 1 0 1) rfl trivial rfl <| s_q (.int .i64 b_2.N) rfl nle rfl <| s_q (.ptr 0 0 2) rfl trivial rfl <| s_q (.str a_1.T) rfl nle rfl <| s_q (.ptr 1 0 2) rfl trivial rfl <| s_q (.str b_2.T) rfl nle rfl <| ?_
 obtain ⟨r_3, er4, hf⟩ := ob hf
 refine s_dol (o_call (w_cmp_Compare_int _ _ _ er4) rfl (.refl _) rfl) a_same trivial ?_
 obtain ⟨r_5, er6, hf⟩ := ob hf
 refine s_dol (o_call (w_cmp_Compare_int _ _ _ er6) rfl (.refl _) rfl) a_same trivial ?_
 obtain ⟨r_7, er8, hf⟩ := ob hf
 refine s_dol (o_call (w_strings_Compare _ _ _ er8) rfl (.refl _) rfl) a_same trivial ?_; refine s_dol (o_bslice (j := 2) (as' := [(.int .i64 r_3), (.int .i64 r_5), (.int .i64 r_7)]) rfl (fun _ => by decide) ⟨rfl, ⟨rfl, ⟨rfl, trivial⟩⟩⟩ (.refl _) rfl rfl rfl) trivial trivial ?_
 obtain ⟨r_9, er10, hf⟩ := ob hf
 refine s_dol (o_call (w_cmp_Or_int _ _ er10) rfl (.cons (.of_eq (congrArg (AV.lst _) (by rfl))) .nil) rfl) a_same trivial <| s_mov (.int .i64 r_9) rfl <| w_done <| k_seq <| w_ret <| ?_; obtain rfl := os hf; exact r_flat ⟨trivial, trivial⟩ rfl (.refl _)

/- impl.DatumOK -/
def c85 : ACode :=
 (.seq (.reg (tm 2 (.c (.bool false)) .done))
 (.seq (.seq (.reg (tm 5 (.t 0) (tq 6 (.len (.t 5)) (tm 7 (.c (.int .i64 0)) .done))))
 (.block 0 (.loop (.seq (.reg (tq 8 (.bin .lss (.t 7) (.t 6)) .done))
 (.seq (.cond (.t 8) .skip
 (.exit 0))
 (.seq (.block 1 (.seq (.reg (tm 9 (.t 7) (tq 10 (.iaddr 3 (.t 5) (.t 7)) (tq 11 (.load 3 true (.t 10)) (tq 4 (.box 3 (.c (.agg [(.int .i64 0), (.int .i64 0), (.str [])]))) (tm 3 (.t 9) (.q ⟨none, none, .store 3 (.t 4) (.t 11)⟩
 .done)))))))
 (.seq (.reg (tq 12 (.load 3 true (.t 4)) (.l ⟨(some 13), none, .call 176 [(.t 12)]⟩ []
 (tq 14 (.not (.t 13)) (tm 15 (.t 14) (tg 16 15 false (.faddr 0 (.t 4)) (tg 17 15 false (.load 1 false (.t 16)) (tg 18 15 false (.mov (.t 0)) (tg 19 15 false (.iaddr 3 (.t 18) (.c (.int .i64 0))) (tg 20 15 false (.faddr 0 (.t 19)) (tg 21 15 false (.load 1 false (.t 20)) (tg 22 15 false (.bin .neq (.t 17) (.t 21)) (tq 23 (.pick (.t 15) (.c (.bool true)) (.t 22)) (tm 24 (.t 23) (tg 25 24 false (.mov (.t 3)) (tg 26 24 false (.bin .gtr (.t 25) (.c (.int .i64 0))) (tg 27 24 false (.mov (.t 26)) (tg 28 27 true (.mov (.t 0)) (tg 29 27 true (.mov (.t 3)) (tg 30 27 true (.bin .sub (.t 29) (.c (.int .i64 1))) (tg 31 27 true (.iaddr 3 (.t 28) (.t 30)) (tg 32 27 true (.load 3 true (.t 31)) (tg 33 27 true (.load 3 true (.t 4)) (.l ⟨(some 34), (some (27, true)), .call 177 [(.t 32), (.t 33)]⟩ []
 (tg 35 27 true (.bin .geq (.t 34) (.c (.int .i64 0))) (tg 36 24 false (.pick (.t 27) (.t 35) (.c (.bool false))) (tq 37 (.pick (.t 24) (.c (.bool true)) (.t 36)) .done))) .non))))))))))))))))))))) .non)))
 (.cut (.cond (.t 37) (.seq (.reg (tm 2 (.c (.bool false)) .done))
 .ret)
 .skip)))))
 (.reg (tq 38 (.bin .add (.t 7) (.c (.int .i64 1))) (tm 7 (.t 38) .done)))))))))
 (.cut (.seq (.reg (tm 39 (.t 0) (tq 40 (.len (.t 39)) (tq 41 (.bin .leq (.t 40) (.c (.int .i64 8))) (tm 2 (.t 41) .done)))))
 .ret))))
theorem fc85 : fcomp Try.prog Try.f85 = some (c85.erase, [.mov (.t 2)], 42) := by kernel_rfl
def impl_DatumOK_L1 (d_1 : (List GAtom)) : List GAtom → Nat → Option (Fl Bool Unit)
  | [], s7_60 =>
    some (.go ())
  | x_96 :: xs, s7_60 =>
    (((impl_AtomOK x_96).bind fun r_110 =>
    if (!r_110) then
    some true
    else
    (idx d_1 0).bind fun x_113 =>
    if (x_96.Kind != x_113.Kind) then
    some true
    else
    if (decide ((s7_60 : Int) > 0)) then
    (idx d_1 (w64 ((s7_60 : Int) - 1))).bind fun x_117 =>
    (impl_compareAtoms x_117 x_96).bind fun r_119 =>
    some (decide (r_119 ≥ 0))
    else
    some false : Option Bool)).bind fun s37_108 =>
    if s37_108 then
    some (.ret false)
    else
    impl_DatumOK_L1 d_1 xs (s7_60 + 1)

def impl_DatumOK (d_1 : (List GAtom)) : Option Bool :=
    (impl_DatumOK_L1 d_1 d_1 0).bind fun q => (match q with
    | .ret r => some r
    | .go _ =>
    some (decide ((d_1.length : Int) ≤ 8)))
theorem w_impl_DatumOK (d_1 : (List GAtom)) (r : Bool) (hf : impl_DatumOK d_1 = some r) : CallOK Try.prog 85 .flat [(.lst 3 (d_1.map encGAtom))] (.bool r) := by
 refine CallOK.of_awp mixed Try.func85 fc85 nle ?_; rw [argT_eq]; unfold impl_DatumOK at hf; unfold c85; refine (show awp Try.prog false 0 _ (ofL [(0, (.lst 3 (d_1.map encGAtom)))]) [] _ from ?_); refine awp_seq <| w_reg <| s_mov (.bool false) rfl <| w_done <| k_seq <| awp_seq <| awp_seq <| w_reg <| s_mov (.lst 3 (d_1.map encGAtom)) rfl <| s_dof (o_len (enc := encGAtom) rfl) fun hl2 => s_mov (.int .i64 0) rfl <| w_done <| k_seq <| ?_
 obtain ⟨p89, hb1, hf⟩ := ob hf
 refine awp_cutx (X := {q : Unit // p89 = .go q}) (fun q => ([(0, (.lst 3 (d_1.map encGAtom)))], [])) ?_ ?_
 ·refine awp_loop (X := {q : Nat // impl_DatumOK_L1 d_1 (d_1.drop q) q = some p89}) (fun q => ([(0, (.lst 3 (d_1.map encGAtom))), (5, (.lst 3 (d_1.map encGAtom))), (6, (.int .i64 (d_1.length : Int))), (7, (.int .i64 (q.1 : Int)))], [])) (fun q => d_1.length - q.1) ⟨0, hb1⟩ ⟨[], [], _, _, rfl, rfl, ⟨.refl _, ⟨.refl _, ⟨.refl _, ⟨.refl _, trivial⟩⟩⟩⟩, (.refl _)⟩ ?_
  rintro ⟨s7_60, hc1⟩
  have hc1 : impl_DatumOK_L1 d_1 (d_1.drop s7_60) s7_60 = some p89 := hc1
  refine (show awp Try.prog false 0 _ (ofL [(0, (.lst 3 (d_1.map encGAtom))), (5, (.lst 3 (d_1.map encGAtom))), (6, (.int .i64 (d_1.length : Int))), (7, (.int .i64 (s7_60 : Int)))]) [] _ from ?_)
  rcases dropc d_1 s7_60 with ⟨hie92, hd95⟩ | ⟨hlt90, x_96, hx91, hd95⟩
  ·rw [hd95, impl_DatumOK_L1.eq_1] at hc1
   have hq94 := dlf hie92
   refine awp_seq <| w_reg <| s_q (.bool (decide ((s7_60 : Int) < (d_1.length : Int)))) rfl rfl rfl <| w_done <| k_seq <| awp_seq <| w_condf rfl hq94 <| w_exit <| k_seqx <| k_loopx <| k_blkx <| ?_; obtain rfl := os hc1; exact k_cutn ⟨_, rfl⟩ ⟨[], [], _, _, rfl, rfl, ⟨.refl _, trivial⟩, (.refl _)⟩
  ·rw [hd95, impl_DatumOK_L1.eq_2] at hc1
   have hq94 := dlt hlt90
   refine awp_seq <| w_reg <| s_q (.bool (decide ((s7_60 : Int) < (d_1.length : Int)))) rfl rfl rfl <| w_done <| k_seq <| awp_seq <| w_condt rfl hq94 <| w_skip <| k_seq <| awp_seq <| w_blk <| awp_seq <| w_reg <| s_mov (.int .i64 (s7_60 : Int)) rfl <| s_do (o_iaddrn (enc := encGAtom) rfl rfl hx91) <| s_q (encGAtom x_96) rfl nle rfl <| s_do (o_box (j := 0) (c := (.agg [(.int .i64 0), (.int .i64 0), (.str [])])) rfl trivial rfl rfl) <| s_mov (.int .i64 (s7_60 : Int)) rfl <| s_do0 (o_storebox (v := (.agg [(.int .i64 x_96.Kind), (.int .i64 x_96.N), (.str x_96.T)])) (y' := (.agg [(.int .i64 x_96.Kind), (.int .i64 x_96.N), (.str x_96.T)])) rfl rfl rfl trivial ⟨rfl, nle⟩ ⟨⟨rfl, trivial⟩, ⟨⟨rfl, trivial⟩, ⟨⟨rfl, trivial⟩, trivial⟩⟩⟩ rfl) <| ?_
   refine w_done <| k_seq <| awp_seq <| ?_
   obtain ⟨s37_108, hb2, hc1⟩ := ob hc1
   refine awp_cut ([(0, (.lst 3 (d_1.map encGAtom))), (5, (.lst 3 (d_1.map encGAtom))), (6, (.int .i64 (d_1.length : Int))), (7, (.int .i64 (s7_60 : Int))), (37, (.bool s37_108))], []) ?_ ?_
   ·refine w_reg <| s_q (.agg [(.int .i64 x_96.Kind), (.int .i64 x_96.N), (.str x_96.T)]) rfl nle rfl <| ?_
    obtain ⟨r_110, er111, hb2⟩ := ob hb2
    refine s_dol (o_call (w_impl_AtomOK _ _ er111) rfl (.refl _) rfl) a_same trivial <| s_q (.bool (!r_110)) rfl trivial rfl <| s_mov (.bool (!r_110)) rfl <| ?_
    rcases oi hb2 with ⟨c112, hb2⟩ | ⟨c112, hb2⟩
    ·refine s_lit (s := 15) (b := true) rfl c112 <| s_off rfl rfl <| s_off rfl rfl <| s_off rfl rfl <| s_off rfl rfl <| s_off rfl rfl <| s_off rfl rfl <| s_off rfl rfl <| s_q (.bool true) rfl trivial rfl <| s_mov (.bool true) rfl <| s_off rfl rfl <| s_off rfl rfl <| s_off rfl rfl <| s_offs rfl <| s_offs rfl <| s_offs rfl <| s_offs rfl <| s_offs rfl <| s_offs rfl <| s_offsl rfl trivial <| s_offs rfl <| s_off rfl rfl <| s_q (.bool true) rfl trivial rfl <| w_done <| ?_; obtain rfl := os hb2; exact ⟨[], [], _, _, rfl, rfl, ⟨.refl _, ⟨.refl _, ⟨.refl _, ⟨.refl _, ⟨.refl _, trivial⟩⟩⟩⟩⟩, (.refl _)⟩
    ·refine s_lit (s := 15) (b := false) rfl (bf c112) <| s_on rfl <| s_q (.ptr 0 0 0) rfl trivial rfl <| s_on rfl <| s_q (.int .i64 x_96.Kind) rfl nle rfl <| s_on rfl <| s_mov (.lst 3 (d_1.map encGAtom)) rfl <| s_on rfl <| ?_
     obtain ⟨x_113, ex114, hb2⟩ := ob hb2
     refine s_do (o_iaddr (enc := encGAtom) rfl rfl (idx0 ex114) (idx1 ex114)) <| s_on rfl <| s_q (.iptr (encGAtom x_113) 0) rfl trivial rfl <| s_on rfl <| s_q (.int .i64 x_113.Kind) rfl nle rfl <| s_on rfl <| s_q (.bool (x_96.Kind != x_113.Kind)) rfl rfl rfl <| s_q (.bool (x_96.Kind != x_113.Kind)) rfl trivial rfl <| s_mov (.bool (x_96.Kind != x_113.Kind)) rfl <| ?_
     rcases oi hb2 with ⟨c115, hb2⟩ | ⟨c115, hb2⟩
     ·refine s_lit (s := 24) (b := true) rfl c115 <| s_off rfl rfl <| s_off rfl rfl <| s_off rfl rfl <| s_offs rfl <| s_offs rfl <| s_offs rfl <| s_offs rfl <| s_offs rfl <| s_offs rfl <| s_offsl rfl trivial <| s_offs rfl <| s_off rfl rfl <| s_q (.bool true) rfl trivial rfl <| w_done <| ?_; obtain rfl := os hb2; exact ⟨[], [], _, _, rfl, rfl, ⟨.refl _, ⟨.refl _, ⟨.refl _, ⟨.refl _, ⟨.refl _, trivial⟩⟩⟩⟩⟩, (.refl _)⟩
     ·refine s_lit (s := 24) (b := false) rfl (bf c115) <| s_on rfl <| s_mov (.int .i64 (s7_60 : Int)) rfl <| s_on rfl <| s_q (.bool (decide ((s7_60 : Int) > 0))) rfl rfl rfl <| s_on rfl <| s_mov (.bool (decide ((s7_60 : Int) > 0))) rfl <| ?_
      rcases oi hb2 with ⟨c116, hb2⟩ | ⟨c116, hb2⟩
      ·refine s_lit (s := 27) (b := true) rfl c116 <| s_on rfl <| s_mov (.lst 3 (d_1.map encGAtom)) rfl <| s_on rfl <| s_mov (.int .i64 (s7_60 : Int)) rfl <| s_on rfl <| s_q (.int .i64 (w64 ((s7_60 : Int) - 1))) rfl rfl rfl <| s_on rfl <| ?_
       obtain ⟨x_117, ex118, hb2⟩ := ob hb2
       refine s_do (o_iaddr (enc := encGAtom) rfl rfl (idx0 ex118) (idx1 ex118)) <| s_on rfl <| s_q (encGAtom x_117) rfl nle rfl <| s_on rfl <| s_q (.agg [(.int .i64 x_96.Kind), (.int .i64 x_96.N), (.str x_96.T)]) rfl nle rfl <| s_onl rfl <| ?_
       obtain ⟨r_119, er120, hb2⟩ := ob hb2
       refine s_dol (o_call (w_impl_compareAtoms _ _ _ er120) rfl (.refl _) rfl) a_same trivial <| s_on rfl <| s_q (.bool (decide (r_119 ≥ 0))) rfl rfl rfl <| s_on rfl <| s_q (.bool (decide (r_119 ≥ 0))) rfl trivial rfl <| s_q (.bool (decide (r_119 ≥ 0))) rfl trivial rfl <| w_done <| ?_; obtain rfl := os hb2; exact ⟨[], [], _, _, rfl, rfl, ⟨.refl _, ⟨.refl _, ⟨.refl _, ⟨.refl _, ⟨.refl _, trivial⟩⟩⟩⟩⟩, (.refl _)⟩
      ·refine s_lit (s := 27) (b := false) rfl (bf c116) <| s_off rfl rfl <| s_off rfl rfl <| s_off rfl rfl <| s_off rfl rfl <| s_off rfl rfl <| s_off rfl rfl <| s_offl rfl rfl trivial <| s_off rfl rfl <| s_on rfl <| s_q (.bool false) rfl trivial rfl <| s_q (.bool false) rfl trivial rfl <| w_done <| ?_; obtain rfl := os hb2; exact ⟨[], [], _, _, rfl, rfl, ⟨.refl _, ⟨.refl _, ⟨.refl _, ⟨.refl _, ⟨.refl _, trivial⟩⟩⟩⟩⟩, (.refl _)⟩
   ·rcases oi hc1 with ⟨c121, hc1⟩ | ⟨c121, hc1⟩
    ·refine w_condt rfl c121 <| awp_seq <| w_reg <| s_mov (.bool false) rfl <| w_done <| k_seq <| w_ret <| ?_; obtain rfl := os hc1; obtain rfl := os hf; exact r_flat ⟨trivial, trivial⟩ rfl (.refl _)
    ·refine w_condf rfl (bf c121) <| w_skip <| k_blk <| k_seq <| w_reg <| s_q (.int .i64 (w64 ((s7_60 : Int) + 1))) rfl rfl rfl <| s_mov (.int .i64 (w64 ((s7_60 : Int) + 1))) rfl <| w_done <| ?_; exact k_loopn ⟨(s7_60 + 1), hc1⟩ (mul hlt90) ⟨[], [], _, _, rfl, rfl, ⟨.refl _, ⟨.refl _, ⟨.refl _, ⟨.of_eq (congrArg (AV.int _) (w64_incr hlt90 hl2)), trivial⟩⟩⟩⟩, (.refl _)⟩
 ·rintro ⟨_, rfl⟩
  refine awp_seq <| w_reg <| s_mov (.lst 3 (d_1.map encGAtom)) rfl <| s_dof (o_len (enc := encGAtom) rfl) fun hl122 => s_q (.bool (decide ((d_1.length : Int) ≤ 8))) rfl rfl rfl <| s_mov (.bool (decide ((d_1.length : Int) ≤ 8))) rfl <| w_done <| k_seq <| w_ret <| ?_; obtain rfl := os hf; exact r_flat ⟨trivial, trivial⟩ rfl (.refl _)

/- slices.IndexFunc[[]impl.Atom,impl.Atom] -/
def c262 : ACode :=
 (.seq (.reg (tm 4 (.c (.int .i64 0)) .done))
 (.seq (.seq (.reg (tm 6 (.t 0) (tq 7 (.len (.t 6)) (tm 8 (.c (.int .i64 0)) .done))))
 (.block 0 (.loop (.seq (.reg (tq 9 (.bin .lss (.t 8) (.t 7)) .done))
 (.seq (.cond (.t 9) .skip
 (.exit 0))
 (.seq (.block 1 (.seq (.reg (tm 10 (.t 8) (tm 5 (.t 10) .done)))
 (.seq (.reg (tm 11 (.t 1) (tm 12 (.t 0) (tm 13 (.t 5) (tq 14 (.iaddr 3 (.t 12) (.t 13)) (tq 15 (.load 3 true (.t 14)) (tq 16 (.calv (.t 11) [(.t 15)]) .done)))))))
 (.cond (.t 16) (.seq (.reg (tm 17 (.t 5) (tm 4 (.t 17) .done)))
 .ret)
 .skip))))
 (.reg (tq 18 (.bin .add (.t 8) (.c (.int .i64 1))) (tm 8 (.t 18) .done)))))))))
 (.cut (.seq (.reg (tq 4 (.mov (.c (.int .i64 (-1)))) .done))
 .ret))))
theorem fc262 : fcomp Try.prog Try.f262 = some (c262.erase, [.mov (.t 4)], 19) := by kernel_rfl
def slices_IndexFunc_impl_Atom_impl_Atom_L1 (f_2 : (GAtom → Option Bool)) : List GAtom → Nat → Option (Fl Int Unit)
  | [], s8_17 =>
    some (.go ())
  | x_31 :: xs, s8_17 =>
    (f_2 x_31).bind fun r_32 =>
    if r_32 then
    some (.ret (s8_17 : Int))
    else
    slices_IndexFunc_impl_Atom_impl_Atom_L1 f_2 xs (s8_17 + 1)

def slices_IndexFunc_impl_Atom_impl_Atom (s_1 : (List GAtom)) (f_2 : (GAtom → Option Bool)) : Option Int :=
    (slices_IndexFunc_impl_Atom_impl_Atom_L1 f_2 s_1 0).bind fun q => (match q with
    | .ret r => some r
    | .go _ =>
    some (-1))
theorem w_slices_IndexFunc_impl_Atom_impl_Atom (s_1 : (List GAtom)) (f_2 : (GAtom → Option Bool)) (r : Int) (hf : slices_IndexFunc_impl_Atom_impl_Atom s_1 f_2 = some r) (kf_f_2 : Nat) (cf_f_2 : List AV) (okf_f_2 : okFn Try.prog kf_f_2 = true) (hcf_f_2 : ∀ h p, closeWs h p cf_f_2 = some cf_f_2) (hrf_f_2 : ∀ f, rens f cf_f_2 = cf_f_2) (hpf_f_2 : ∀ a0 r, f_2 a0 = some r → CallOK Try.prog kf_f_2 .flat ([(encGAtom a0)] ++ cf_f_2) (.bool r)) : CallOK Try.prog 262 .flat [(.lst 3 (s_1.map encGAtom)), (.fn kf_f_2 cf_f_2)] (.int .i64 r) := by
 refine CallOK.of_awp mixed Try.func262 fc262 nle ?_; rw [argT_eq]; unfold slices_IndexFunc_impl_Atom_impl_Atom at hf; unfold c262; refine (show awp Try.prog false 0 _ (ofL [(0, (.lst 3 (s_1.map encGAtom))), (1, (.fn kf_f_2 cf_f_2))]) [] _ from ?_); refine awp_seq <| w_reg <| s_mov (.int .i64 0) rfl <| w_done <| k_seq <| awp_seq <| awp_seq <| w_reg <| s_mov (.lst 3 (s_1.map encGAtom)) rfl <| s_dof (o_len (enc := encGAtom) rfl) fun hl3 => s_mov (.int .i64 0) rfl <| w_done <| k_seq <| ?_
 obtain ⟨p24, hb1, hf⟩ := ob hf
 refine awp_cutx (X := {q : Unit // p24 = .go q}) (fun q => ([], [])) ?_ ?_
 ·refine awp_loop (X := {q : Nat // slices_IndexFunc_impl_Atom_impl_Atom_L1 f_2 (s_1.drop q) q = some p24}) (fun q => ([(0, (.lst 3 (s_1.map encGAtom))), (1, (.fn kf_f_2 cf_f_2)), (7, (.int .i64 (s_1.length : Int))), (8, (.int .i64 (q.1 : Int)))], [])) (fun q => s_1.length - q.1) ⟨0, hb1⟩ ⟨[], [], _, _, rfl, rfl, ⟨.refl _, ⟨.of_eq (congrArg (AV.fn _) (hrf_f_2 _)), ⟨.refl _, ⟨.refl _, trivial⟩⟩⟩⟩, (.refl _)⟩ ?_
  rintro ⟨s8_17, hc1⟩
  have hc1 : slices_IndexFunc_impl_Atom_impl_Atom_L1 f_2 (s_1.drop s8_17) s8_17 = some p24 := hc1
  refine (show awp Try.prog false 0 _ (ofL [(0, (.lst 3 (s_1.map encGAtom))), (1, (.fn kf_f_2 cf_f_2)), (7, (.int .i64 (s_1.length : Int))), (8, (.int .i64 (s8_17 : Int)))]) [] _ from ?_)
  rcases dropc s_1 s8_17 with ⟨hie27, hd30⟩ | ⟨hlt25, x_31, hx26, hd30⟩
  ·rw [hd30, slices_IndexFunc_impl_Atom_impl_Atom_L1.eq_1] at hc1
   have hq29 := dlf hie27
   refine awp_seq <| w_reg <| s_q (.bool (decide ((s8_17 : Int) < (s_1.length : Int)))) rfl rfl rfl <| w_done <| k_seq <| awp_seq <| w_condf rfl hq29 <| w_exit <| k_seqx <| k_loopx <| k_blkx <| ?_; obtain rfl := os hc1; exact k_cutn ⟨_, rfl⟩ ⟨[], [], _, _, rfl, rfl, trivial, (.refl _)⟩
  ·rw [hd30, slices_IndexFunc_impl_Atom_impl_Atom_L1.eq_2] at hc1
   have hq29 := dlt hlt25
   refine awp_seq <| w_reg <| s_q (.bool (decide ((s8_17 : Int) < (s_1.length : Int)))) rfl rfl rfl <| w_done <| k_seq <| awp_seq <| w_condt rfl hq29 <| w_skip <| k_seq <| awp_seq <| w_blk <| awp_seq <| w_reg <| s_mov (.int .i64 (s8_17 : Int)) rfl <| s_mov (.int .i64 (s8_17 : Int)) rfl <| w_done <| k_seq <| awp_seq <| w_reg <| ?_
   obtain ⟨r_32, er33, hc1⟩ := ob hc1
   refine s_mov (.fn kf_f_2 cf_f_2) rfl <| s_mov (.lst 3 (s_1.map encGAtom)) rfl <| s_mov (.int .i64 (s8_17 : Int)) rfl <| s_do (o_iaddrn (enc := encGAtom) rfl rfl hx26) <| s_q (encGAtom x_31) rfl nle rfl <| s_do (o_calvp (v := (.bool r_32)) rfl okf_f_2 hcf_f_2 (hpf_f_2 _ _ er33) rfl (.refl _) rfl) <| w_done <| k_seq <| ?_
   rcases oi hc1 with ⟨c34, hc1⟩ | ⟨c34, hc1⟩
   ·refine w_condt rfl c34 <| awp_seq <| w_reg <| s_mov (.int .i64 (s8_17 : Int)) rfl <| s_mov (.int .i64 (s8_17 : Int)) rfl <| w_done <| k_seq <| w_ret <| ?_; obtain rfl := os hc1; obtain rfl := os hf; exact r_flat ⟨trivial, trivial⟩ rfl (.refl _)
   ·refine w_condf rfl (bf c34) <| w_skip <| k_blk <| k_seq <| w_reg <| s_q (.int .i64 (w64 ((s8_17 : Int) + 1))) rfl rfl rfl <| s_mov (.int .i64 (w64 ((s8_17 : Int) + 1))) rfl <| w_done <| ?_; exact k_loopn ⟨(s8_17 + 1), hc1⟩ (mul hlt25) ⟨[], [], _, _, rfl, rfl, ⟨.refl _, ⟨.of_eq (congrArg (AV.fn _) (hrf_f_2 _)), ⟨.refl _, ⟨.of_eq (congrArg (AV.int _) (w64_incr hlt25 hl3)), trivial⟩⟩⟩⟩, (.refl _)⟩
 ·rintro ⟨_, rfl⟩
  refine awp_seq <| w_reg <| s_mov (.int .i64 (-1)) rfl <| w_done <| k_seq <| w_ret <| ?_; obtain rfl := os hf; exact r_flat ⟨trivial, trivial⟩ rfl (.refl _)

/- slices.ContainsFunc[[]impl.Atom,impl.Atom] -/
def c219 : ACode :=
 (.seq (.reg (tm 4 (.c (.bool false)) .done))
 (.seq (.reg (tm 5 (.t 0) (tm 6 (.t 1) (tq 7 (.call 262 [(.t 5), (.t 6)]) (tq 8 (.bin .geq (.t 7) (.c (.int .i64 0))) (tm 4 (.t 8) .done))))))
 .ret))
theorem fc219 : fcomp Try.prog Try.f219 = some (c219.erase, [.mov (.t 4)], 9) := by kernel_rfl
def slices_ContainsFunc_impl_Atom_impl_Atom (s_1 : (List GAtom)) (f_2 : (GAtom → Option Bool)) : Option Bool :=
    (slices_IndexFunc_impl_Atom_impl_Atom s_1 f_2).bind fun r_3 =>
    some (decide (r_3 ≥ 0))
theorem w_slices_ContainsFunc_impl_Atom_impl_Atom (s_1 : (List GAtom)) (f_2 : (GAtom → Option Bool)) (r : Bool) (hf : slices_ContainsFunc_impl_Atom_impl_Atom s_1 f_2 = some r) (kf_f_2 : Nat) (cf_f_2 : List AV) (okf_f_2 : okFn Try.prog kf_f_2 = true) (hcf_f_2 : ∀ h p, closeWs h p cf_f_2 = some cf_f_2) (hrf_f_2 : ∀ f, rens f cf_f_2 = cf_f_2) (hpf_f_2 : ∀ a0 r, f_2 a0 = some r → CallOK Try.prog kf_f_2 .flat ([(encGAtom a0)] ++ cf_f_2) (.bool r)) : CallOK Try.prog 219 .flat [(.lst 3 (s_1.map encGAtom)), (.fn kf_f_2 cf_f_2)] (.bool r) := by
 refine CallOK.of_awp mixed Try.func219 fc219 nle ?_; rw [argT_eq]; unfold slices_ContainsFunc_impl_Atom_impl_Atom at hf; unfold c219; refine (show awp Try.prog false 0 _ (ofL [(0, (.lst 3 (s_1.map encGAtom))), (1, (.fn kf_f_2 cf_f_2))]) [] _ from ?_); refine awp_seq <| w_reg <| s_mov (.bool false) rfl <| w_done <| k_seq <| awp_seq <| w_reg <| ?_
 obtain ⟨r_3, er4, hf⟩ := ob hf
 refine s_mov (.lst 3 (s_1.map encGAtom)) rfl <| s_mov (.fn kf_f_2 cf_f_2) rfl <| s_do (o_call (w_slices_IndexFunc_impl_Atom_impl_Atom _ _ _ er4 kf_f_2 cf_f_2 okf_f_2 hcf_f_2 hrf_f_2 hpf_f_2) (cls_cons rfl (cls_cons (cls_fn hcf_f_2) rfl)) (.refl _) rfl) <| s_q (.bool (decide (r_3 ≥ 0))) rfl rfl rfl <| s_mov (.bool (decide (r_3 ≥ 0))) rfl <| w_done <| k_seq <| w_ret <| ?_; obtain rfl := os hf; exact r_flat ⟨trivial, trivial⟩ rfl (.refl _)

/- (impl.Column).fits$1 -/
def c220 : ACode :=
 (.seq (.reg (tq 2 (.box 3 (.t 0)) (tm 3 (.c (.bool false)) .done)))
 (.seq (.reg (tq 4 (.faddr 1 (.t 2)) (tq 5 (.load 1 false (.t 4)) (tq 6 (.faddr 4 (.t 1)) (tq 7 (.load 1 false (.t 6)) (tq 8 (.faddr 5 (.t 1)) (tq 9 (.load 1 false (.t 8)) (tq 10 (.call 106 [(.t 5), (.t 7), (.t 9)]) (tq 11 (.not (.t 10)) (tm 3 (.t 11) .done))))))))))
 .ret))
theorem fc220 : fcomp Try.prog Try.f220 = some (c220.erase, [.mov (.t 3)], 12) := by kernel_rfl
def impl_Column_fits_1 (a_1 : GAtom) (cap_2 : GColumn) : Option Bool :=
    (impl_within a_1.N cap_2.Low cap_2.High).bind fun r_3 =>
    some (!r_3)
theorem w_impl_Column_fits_1 (a_1 : GAtom) (cap_2 : GColumn) (r : Bool) (hf : impl_Column_fits_1 a_1 cap_2 = some r) : CallOK Try.prog 220 .flat [(encGAtom a_1), (.iptr (encGColumn cap_2) 0)] (.bool r) := by
  refine CallOK.of_awp mixed Try.func220 fc220 nle ?_
  rw [argT_eq]
  unfold impl_Column_fits_1 at hf
  unfold c220
  refine (show awp Try.prog false 0 _ (ofL [(0, (encGAtom a_1)), (1, (.iptr (encGColumn cap_2) 0))]) [] _ from ?_)
  refine awp_seq ?_
  refine w_reg ?_
  refine s_do (o_box (j := 0) (c := (.agg [(.int .i64 a_1.Kind), (.int .i64 a_1.N), (.str a_1.T)])) rfl trivial rfl rfl) ?_
  refine s_do (o_mov (.bool false) rfl) ?_
  refine w_done ?_
  refine k_seq ?_
  refine awp_seq ?_
  refine w_reg ?_
  obtain ⟨r_3, er4, hf⟩ := ob hf
  refine s_do (o_q (.ptr 0 0 1) rfl trivial rfl) ?_
  refine s_do (o_q (.int .i64 a_1.N) rfl nle rfl) ?_
  refine s_do (o_q (.iptr (encGColumn cap_2) 4) rfl trivial rfl) ?_
  refine s_do (o_q (.int .i64 cap_2.Low) rfl nle rfl) ?_
  refine s_do (o_q (.iptr (encGColumn cap_2) 5) rfl trivial rfl) ?_
  refine s_do (o_q (.int .i64 cap_2.High) rfl nle rfl) ?_
  refine s_do (o_call (w_impl_within _ _ _ _ er4) rfl (.refl _) rfl) ?_
  refine s_do (o_q (.bool (!r_3)) rfl trivial rfl) ?_
  refine s_do (o_mov (.bool (!r_3)) rfl) ?_
  refine w_done ?_
  refine k_seq ?_
  refine w_ret ?_
  obtain rfl := os hf
  exact r_flat ⟨trivial, trivial⟩ rfl (.refl _)

/- (impl.Column).fits -/
def c146 : ACode :=
 (.seq (.reg (tq 2 (.box 8 (.t 0)) (tm 4 (.c (.int .i64 0)) .done)))
 (.seq (.block 0 (.seq (.reg (tm 6 (.t 1) (tq 7 (.len (.t 6)) (tq 8 (.bin .gtr (.t 7) (.c (.int .i64 0))) (tm 9 (.t 8) (tg 10 9 true (.mov (.t 1)) (tg 11 9 true (.iaddr 3 (.t 10) (.c (.int .i64 0))) (tg 12 9 true (.faddr 0 (.t 11)) (tg 13 9 true (.load 1 false (.t 12)) (tg 14 9 true (.faddr 1 (.t 2)) (tg 15 9 true (.load 1 false (.t 14)) (tg 16 9 true (.bin .neq (.t 13) (.t 15)) (tq 17 (.pick (.t 9) (.t 16) (.c (.bool false))) (tm 5 (.t 17) .done))))))))))))))
 (.cut (.cond (.t 5) (.seq (.reg (tm 4 (.c (.int .i64 9)) .done))
 .ret)
 (.seq (.reg (tm 19 (.t 1) (tq 20 (.len (.t 19)) (tq 21 (.faddr 2 (.t 2)) (tq 22 (.load 1 false (.t 21)) (tq 23 (.faddr 3 (.t 2)) (tq 24 (.load 1 false (.t 23)) (tq 25 (.call 106 [(.t 20), (.t 22), (.t 24)]) (tq 26 (.not (.t 25)) (tm 18 (.t 26) .done))))))))))
 (.cond (.t 18) (.seq (.reg (tm 4 (.c (.int .i64 6)) .done))
 .ret)
 (.seq (.reg (tq 28 (.faddr 1 (.t 2)) (tq 29 (.load 1 false (.t 28)) (tq 30 (.bin .eql (.t 29) (.c (.int .i64 1))) (tm 31 (.t 30) (tg 32 31 true (.mov (.t 1)) (tg 33 31 true (.mkfn 220 [(.t 2)]) (tg 34 31 true (.call 219 [(.t 32), (.t 33)]) (tq 35 (.pick (.t 31) (.t 34) (.c (.bool false))) (tm 27 (.t 35) .done))))))))))
 (.cut (.cond (.t 27) (.seq (.reg (tm 4 (.c (.int .i64 4)) .done))
 .ret)
 .skip)))))))))
 (.seq (.reg (tm 4 (.c (.int .i64 0)) .done))
 .ret)))
theorem fc146 : fcomp Try.prog Try.f146 = some (c146.erase, [.mov (.t 4)], 36) := by kernel_rfl
def impl_Column_fits (c_1 : GColumn) (d_2 : (List GAtom)) : Option Int :=
    ((if (decide ((d_2.length : Int) > 0)) then
    (idx d_2 0).bind fun x_11 =>
    some (x_11.Kind != c_1.Kind)
    else
    some false : Option Bool)).bind fun s5_7 =>
    if s5_7 then
    some 9
    else
    (impl_within (d_2.length : Int) c_1.Min c_1.Max).bind fun r_15 =>
    if (!r_15) then
    some 6
    else
    ((if (c_1.Kind == 1) then
    (slices_ContainsFunc_impl_Atom_impl_Atom d_2 (fun a0 => impl_Column_fits_1 a0 c_1)).bind fun r_24 =>
    some r_24
    else
    some false : Option Bool)).bind fun s27_21 =>
    if s27_21 then
    some 4
    else
    some 0
theorem w_impl_Column_fits (c_1 : GColumn) (d_2 : (List GAtom)) (r : Int) (hf : impl_Column_fits c_1 d_2 = some r) : CallOK Try.prog 146 .flat [(encGColumn c_1), (.lst 3 (d_2.map encGAtom))] (.int .i64 r) := by
 refine CallOK.of_awp mixed Try.func146 fc146 nle ?_; rw [argT_eq]; unfold impl_Column_fits at hf; unfold c146; refine (show awp Try.prog false 0 _ (ofL [(0, (encGColumn c_1)), (1, (.lst 3 (d_2.map encGAtom)))]) [] _ from ?_); refine awp_seq <| w_reg <| s_do (o_box (j := 0) (c := (.agg [(.str c_1.Name), (.int .i64 c_1.Kind), (.int .i64 c_1.Min), (.int .i64 c_1.Max), (.int .i64 c_1.Low), (.int .i64 c_1.High), (.str c_1.Ref), (.bool c_1.Strong)])) rfl trivial rfl rfl) <| s_mov (.int .i64 0) rfl <| w_done <| k_seq <| awp_seq <| w_blk <| awp_seq <| ?_
 obtain ⟨s5_7, hb1, hf⟩ := ob hf
 refine awp_cut ([(1, (.lst 3 (d_2.map encGAtom))), (2, (.ptr 0 0 0)), (5, (.bool s5_7))], [.box 8 (.agg [(.str c_1.Name), (.int .i64 c_1.Kind), (.int .i64 c_1.Min), (.int .i64 c_1.Max), (.int .i64 c_1.Low), (.int .i64 c_1.High), (.str c_1.Ref), (.bool c_1.Strong)])]) ?_ ?_
 ·refine w_reg <| s_mov (.lst 3 (d_2.map encGAtom)) rfl <| s_dof (o_len (enc := encGAtom) rfl) fun hl9 => s_q (.bool (decide ((d_2.length : Int) > 0))) rfl rfl rfl <| s_mov (.bool (decide ((d_2.length : Int) > 0))) rfl <| ?_
  rcases oi hb1 with ⟨c10, hb1⟩ | ⟨c10, hb1⟩
  ·refine s_lit (s := 9) (b := true) rfl c10 <| s_on rfl <| s_mov (.lst 3 (d_2.map encGAtom)) rfl <| s_on rfl <| ?_
   obtain ⟨x_11, ex12, hb1⟩ := ob hb1
   refine s_do (o_iaddr (enc := encGAtom) rfl rfl (idx0 ex12) (idx1 ex12)) <| s_on rfl <| s_q (.iptr (encGAtom x_11) 0) rfl trivial rfl <| s_on rfl <| s_q (.int .i64 x_11.Kind) rfl nle rfl <| s_on rfl <| s_q (.ptr 0 0 1) rfl trivial rfl <| s_on rfl <| s_q (.int .i64 c_1.Kind) rfl nle rfl <| s_on rfl <| s_q (.bool (x_11.Kind != c_1.Kind)) rfl rfl rfl <| s_q (.bool (x_11.Kind != c_1.Kind)) rfl trivial rfl <| s_mov (.bool (x_11.Kind != c_1.Kind)) rfl <| w_done <| ?_; obtain rfl := os hb1; exact ⟨[], [0], _, _, rfl, rfl, ⟨.refl _, ⟨.refl _, ⟨.refl _, trivial⟩⟩⟩, (.refl _)⟩
  ·refine s_lit (s := 9) (b := false) rfl (bf c10) <| s_off rfl rfl <| s_off rfl rfl <| s_off rfl rfl <| s_off rfl rfl <| s_off rfl rfl <| s_off rfl rfl <| s_off rfl rfl <| s_q (.bool false) rfl trivial rfl <| s_mov (.bool false) rfl <| w_done <| ?_; obtain rfl := os hb1; exact ⟨[], [0], _, _, rfl, rfl, ⟨.refl _, ⟨.refl _, ⟨.refl _, trivial⟩⟩⟩, (.refl _)⟩
 ·rcases oi hf with ⟨c13, hf⟩ | ⟨c13, hf⟩
  ·refine w_condt rfl c13 <| awp_seq <| w_reg <| s_mov (.int .i64 9) rfl <| w_done <| k_seq <| w_ret <| ?_; obtain rfl := os hf; exact r_flat ⟨trivial, trivial⟩ rfl (.refl _)
  ·refine w_condf rfl (bf c13) <| awp_seq <| w_reg <| ?_
   obtain ⟨r_15, er16, hf⟩ := ob hf
   refine s_mov (.lst 3 (d_2.map encGAtom)) rfl <| s_dof (o_len (enc := encGAtom) rfl) fun hl14 => s_q (.ptr 0 0 2) rfl trivial rfl <| s_q (.int .i64 c_1.Min) rfl nle rfl <| s_q (.ptr 0 0 3) rfl trivial rfl <| s_q (.int .i64 c_1.Max) rfl nle rfl <| s_do (o_call (w_impl_within _ _ _ _ er16) rfl (.refl _) rfl) <| s_q (.bool (!r_15)) rfl trivial rfl <| s_mov (.bool (!r_15)) rfl <| w_done <| k_seq <| ?_
   rcases oi hf with ⟨c17, hf⟩ | ⟨c17, hf⟩
   ·refine w_condt rfl c17 <| awp_seq <| w_reg <| s_mov (.int .i64 6) rfl <| w_done <| k_seq <| w_ret <| ?_; obtain rfl := os hf; exact r_flat ⟨trivial, trivial⟩ rfl (.refl _)
   ·refine w_condf rfl (bf c17) <| awp_seq <| ?_
    obtain ⟨s27_21, hb1, hf⟩ := ob hf
    refine awp_cut ([(27, (.bool s27_21))], []) ?_ ?_
    ·refine w_reg ?_
     rcases oi hb1 with ⟨c23, hb1⟩ | ⟨c23, hb1⟩
     ·obtain ⟨r_24, er25, hb1⟩ := ob hb1
      refine s_q (.ptr 0 0 1) rfl trivial rfl <| s_q (.int .i64 c_1.Kind) rfl nle rfl <| s_q (.bool (c_1.Kind == 1)) rfl rfl rfl <| s_mov (.bool (c_1.Kind == 1)) rfl <| s_lit (s := 31) (b := true) rfl c23 <| s_on rfl <| s_mov (.lst 3 (d_2.map encGAtom)) rfl <| s_on rfl <| s_q (.fn 220 [(.ptr 0 0 0)]) rfl trivial rfl <| s_on rfl <| ?_; refine s_do (o_call (w_slices_ContainsFunc_impl_Atom_impl_Atom _ _ _ er25 220 [(.iptr (encGColumn c_1) 0)] (by kernel_rfl) (fun _ _ => rfl) (fun _ => rfl) (fun a0 r h => w_impl_Column_fits_1 a0 c_1 r h)) rfl (.refl _) rfl) ?_; refine s_q (.bool r_24) rfl trivial rfl <| s_mov (.bool r_24) rfl <| w_done <| ?_; obtain rfl := os hb1; exact ⟨[], [], _, _, rfl, rfl, ⟨.refl _, trivial⟩, (.refl _)⟩
     ·refine s_q (.ptr 0 0 1) rfl trivial rfl <| s_q (.int .i64 c_1.Kind) rfl nle rfl <| s_q (.bool (c_1.Kind == 1)) rfl rfl rfl <| s_mov (.bool (c_1.Kind == 1)) rfl <| s_lit (s := 31) (b := false) rfl (bf c23) <| s_off rfl rfl <| s_off rfl rfl <| s_off rfl rfl <| s_q (.bool false) rfl trivial rfl <| s_mov (.bool false) rfl <| w_done <| ?_; obtain rfl := os hb1; exact ⟨[], [], _, _, rfl, rfl, ⟨.refl _, trivial⟩, (.refl _)⟩
    ·rcases oi hf with ⟨c26, hf⟩ | ⟨c26, hf⟩
     ·refine w_condt rfl c26 <| awp_seq <| w_reg <| s_mov (.int .i64 4) rfl <| w_done <| k_seq <| w_ret <| ?_; obtain rfl := os hf; exact r_flat ⟨trivial, trivial⟩ rfl (.refl _)
     ·refine w_condf rfl (bf c26) <| w_skip <| k_blk <| k_seq <| awp_seq <| w_reg <| s_mov (.int .i64 0) rfl <| w_done <| k_seq <| w_ret <| ?_; obtain rfl := os hf; exact r_flat ⟨trivial, trivial⟩ rfl (.refl _)

/- slices.IndexFunc[[]string,string] -/
def c281 : ACode :=
 (.seq (.reg (tm 4 (.c (.int .i64 0)) .done))
 (.seq (.seq (.reg (tm 6 (.t 0) (tq 7 (.len (.t 6)) (tm 8 (.c (.int .i64 0)) .done))))
 (.block 0 (.loop (.seq (.reg (tq 9 (.bin .lss (.t 8) (.t 7)) .done))
 (.seq (.cond (.t 9) .skip
 (.exit 0))
 (.seq (.block 1 (.seq (.reg (tm 10 (.t 8) (tm 5 (.t 10) .done)))
 (.seq (.reg (tm 11 (.t 1) (tm 12 (.t 0) (tm 13 (.t 5) (tq 14 (.iaddr 1 (.t 12) (.t 13)) (tq 15 (.load 1 false (.t 14)) (tq 16 (.calv (.t 11) [(.t 15)]) .done)))))))
 (.cond (.t 16) (.seq (.reg (tm 17 (.t 5) (tm 4 (.t 17) .done)))
 .ret)
 .skip))))
 (.reg (tq 18 (.bin .add (.t 8) (.c (.int .i64 1))) (tm 8 (.t 18) .done)))))))))
 (.cut (.seq (.reg (tq 4 (.mov (.c (.int .i64 (-1)))) .done))
 .ret))))
theorem fc281 : fcomp Try.prog Try.f281 = some (c281.erase, [.mov (.t 4)], 19) := by kernel_rfl
def slices_IndexFunc_string_string_L1 (f_2 : (Str → Option Bool)) : List Str → Nat → Option (Fl Int Unit)
  | [], s8_17 =>
    some (.go ())
  | x_31 :: xs, s8_17 =>
    (f_2 x_31).bind fun r_32 =>
    if r_32 then
    some (.ret (s8_17 : Int))
    else
    slices_IndexFunc_string_string_L1 f_2 xs (s8_17 + 1)

def slices_IndexFunc_string_string (s_1 : (List Str)) (f_2 : (Str → Option Bool)) : Option Int :=
    (slices_IndexFunc_string_string_L1 f_2 s_1 0).bind fun q => (match q with
    | .ret r => some r
    | .go _ =>
    some (-1))
theorem w_slices_IndexFunc_string_string (s_1 : (List Str)) (f_2 : (Str → Option Bool)) (r : Int) (hf : slices_IndexFunc_string_string s_1 f_2 = some r) (kf_f_2 : Nat) (cf_f_2 : List AV) (okf_f_2 : okFn Try.prog kf_f_2 = true) (hcf_f_2 : ∀ h p, closeWs h p cf_f_2 = some cf_f_2) (hrf_f_2 : ∀ f, rens f cf_f_2 = cf_f_2) (hpf_f_2 : ∀ a0 r, f_2 a0 = some r → CallOK Try.prog kf_f_2 .flat ([(.str a0)] ++ cf_f_2) (.bool r)) : CallOK Try.prog 281 .flat [(.lst 1 (s_1.map AV.str)), (.fn kf_f_2 cf_f_2)] (.int .i64 r) := by
 refine CallOK.of_awp mixed Try.func281 fc281 nle ?_; rw [argT_eq]; unfold slices_IndexFunc_string_string at hf; unfold c281; refine (show awp Try.prog false 0 _ (ofL [(0, (.lst 1 (s_1.map AV.str))), (1, (.fn kf_f_2 cf_f_2))]) [] _ from ?_); refine awp_seq <| w_reg <| s_mov (.int .i64 0) rfl <| w_done <| k_seq <| awp_seq <| awp_seq <| w_reg <| s_mov (.lst 1 (s_1.map AV.str)) rfl <| s_dof (o_len (enc := AV.str) rfl) fun hl3 => s_mov (.int .i64 0) rfl <| w_done <| k_seq <| ?_
 obtain ⟨p24, hb1, hf⟩ := ob hf
 refine awp_cutx (X := {q : Unit // p24 = .go q}) (fun q => ([], [])) ?_ ?_
 ·refine awp_loop (X := {q : Nat // slices_IndexFunc_string_string_L1 f_2 (s_1.drop q) q = some p24}) (fun q => ([(0, (.lst 1 (s_1.map AV.str))), (1, (.fn kf_f_2 cf_f_2)), (7, (.int .i64 (s_1.length : Int))), (8, (.int .i64 (q.1 : Int)))], [])) (fun q => s_1.length - q.1) ⟨0, hb1⟩ ⟨[], [], _, _, rfl, rfl, ⟨.refl _, ⟨.of_eq (congrArg (AV.fn _) (hrf_f_2 _)), ⟨.refl _, ⟨.refl _, trivial⟩⟩⟩⟩, (.refl _)⟩ ?_
  rintro ⟨s8_17, hc1⟩
  have hc1 : slices_IndexFunc_string_string_L1 f_2 (s_1.drop s8_17) s8_17 = some p24 := hc1
  refine (show awp Try.prog false 0 _ (ofL [(0, (.lst 1 (s_1.map AV.str))), (1, (.fn kf_f_2 cf_f_2)), (7, (.int .i64 (s_1.length : Int))), (8, (.int .i64 (s8_17 : Int)))]) [] _ from ?_)
  rcases dropc s_1 s8_17 with ⟨hie27, hd30⟩ | ⟨hlt25, x_31, hx26, hd30⟩
  ·rw [hd30, slices_IndexFunc_string_string_L1.eq_1] at hc1
   have hq29 := dlf hie27
   refine awp_seq <| w_reg <| s_q (.bool (decide ((s8_17 : Int) < (s_1.length : Int)))) rfl rfl rfl <| w_done <| k_seq <| awp_seq <| w_condf rfl hq29 <| w_exit <| k_seqx <| k_loopx <| k_blkx <| ?_; obtain rfl := os hc1; exact k_cutn ⟨_, rfl⟩ ⟨[], [], _, _, rfl, rfl, trivial, (.refl _)⟩
  ·rw [hd30, slices_IndexFunc_string_string_L1.eq_2] at hc1
   have hq29 := dlt hlt25
   refine awp_seq <| w_reg <| s_q (.bool (decide ((s8_17 : Int) < (s_1.length : Int)))) rfl rfl rfl <| w_done <| k_seq <| awp_seq <| w_condt rfl hq29 <| w_skip <| k_seq <| awp_seq <| w_blk <| awp_seq <| w_reg <| s_mov (.int .i64 (s8_17 : Int)) rfl <| s_mov (.int .i64 (s8_17 : Int)) rfl <| w_done <| k_seq <| awp_seq <| w_reg <| ?_
   obtain ⟨r_32, er33, hc1⟩ := ob hc1
   refine s_mov (.fn kf_f_2 cf_f_2) rfl <| s_mov (.lst 1 (s_1.map AV.str)) rfl <| s_mov (.int .i64 (s8_17 : Int)) rfl <| s_do (o_iaddrn (enc := AV.str) rfl rfl hx26) <| s_q (.str x_31) rfl ⟨rfl, rfl⟩ rfl <| s_do (o_calvp (v := (.bool r_32)) rfl okf_f_2 hcf_f_2 (hpf_f_2 _ _ er33) rfl (.refl _) rfl) <| w_done <| k_seq <| ?_
   rcases oi hc1 with ⟨c34, hc1⟩ | ⟨c34, hc1⟩
   ·refine w_condt rfl c34 <| awp_seq <| w_reg <| s_mov (.int .i64 (s8_17 : Int)) rfl <| s_mov (.int .i64 (s8_17 : Int)) rfl <| w_done <| k_seq <| w_ret <| ?_; obtain rfl := os hc1; obtain rfl := os hf; exact r_flat ⟨trivial, trivial⟩ rfl (.refl _)
   ·refine w_condf rfl (bf c34) <| w_skip <| k_blk <| k_seq <| w_reg <| s_q (.int .i64 (w64 ((s8_17 : Int) + 1))) rfl rfl rfl <| s_mov (.int .i64 (w64 ((s8_17 : Int) + 1))) rfl <| w_done <| ?_; exact k_loopn ⟨(s8_17 + 1), hc1⟩ (mul hlt25) ⟨[], [], _, _, rfl, rfl, ⟨.refl _, ⟨.of_eq (congrArg (AV.fn _) (hrf_f_2 _)), ⟨.refl _, ⟨.of_eq (congrArg (AV.int _) (w64_incr hlt25 hl3)), trivial⟩⟩⟩⟩, (.refl _)⟩
 ·rintro ⟨_, rfl⟩
  refine awp_seq <| w_reg <| s_mov (.int .i64 (-1)) rfl <| w_done <| k_seq <| w_ret <| ?_; obtain rfl := os hf; exact r_flat ⟨trivial, trivial⟩ rfl (.refl _)

/- slices.ContainsFunc[[]string,string] -/
def c263 : ACode :=
 (.seq (.reg (tm 4 (.c (.bool false)) .done))
 (.seq (.reg (tm 5 (.t 0) (tm 6 (.t 1) (tq 7 (.call 281 [(.t 5), (.t 6)]) (tq 8 (.bin .geq (.t 7) (.c (.int .i64 0))) (tm 4 (.t 8) .done))))))
 .ret))
theorem fc263 : fcomp Try.prog Try.f263 = some (c263.erase, [.mov (.t 4)], 9) := by kernel_rfl
def slices_ContainsFunc_string_string (s_1 : (List Str)) (f_2 : (Str → Option Bool)) : Option Bool :=
    (slices_IndexFunc_string_string s_1 f_2).bind fun r_3 =>
    some (decide (r_3 ≥ 0))
theorem w_slices_ContainsFunc_string_string (s_1 : (List Str)) (f_2 : (Str → Option Bool)) (r : Bool) (hf : slices_ContainsFunc_string_string s_1 f_2 = some r) (kf_f_2 : Nat) (cf_f_2 : List AV) (okf_f_2 : okFn Try.prog kf_f_2 = true) (hcf_f_2 : ∀ h p, closeWs h p cf_f_2 = some cf_f_2) (hrf_f_2 : ∀ f, rens f cf_f_2 = cf_f_2) (hpf_f_2 : ∀ a0 r, f_2 a0 = some r → CallOK Try.prog kf_f_2 .flat ([(.str a0)] ++ cf_f_2) (.bool r)) : CallOK Try.prog 263 .flat [(.lst 1 (s_1.map AV.str)), (.fn kf_f_2 cf_f_2)] (.bool r) := by
  refine CallOK.of_awp mixed Try.func263 fc263 nle ?_
  rw [argT_eq]
  unfold slices_ContainsFunc_string_string at hf
  unfold c263
  refine (show awp Try.prog false 0 _ (ofL [(0, (.lst 1 (s_1.map AV.str))), (1, (.fn kf_f_2 cf_f_2))]) [] _ from ?_)
  refine awp_seq ?_
  refine w_reg ?_
  refine s_do (o_mov (.bool false) rfl) ?_
  refine w_done ?_
  refine k_seq ?_
  refine awp_seq ?_
  refine w_reg ?_
  obtain ⟨r_3, er4, hf⟩ := ob hf
  refine s_do (o_mov (.lst 1 (s_1.map AV.str)) rfl) ?_
  refine s_do (o_mov (.fn kf_f_2 cf_f_2) rfl) ?_
  refine s_do (o_call (w_slices_IndexFunc_string_string _ _ _ er4 kf_f_2 cf_f_2 okf_f_2 hcf_f_2 hrf_f_2 hpf_f_2) (cls_cons rfl (cls_cons (cls_fn hcf_f_2) rfl)) (.refl _) rfl) ?_
  refine s_do (o_q (.bool (decide (r_3 ≥ 0))) rfl rfl rfl) ?_
  refine s_do (o_mov (.bool (decide (r_3 ≥ 0))) rfl) ?_
  refine w_done ?_
  refine k_seq ?_
  refine w_ret ?_
  obtain rfl := os hf
  exact r_flat ⟨trivial, trivial⟩ rfl (.refl _)

/- impl.areShort$1 -/
def c264 : ACode :=
 (.seq (.reg (tm 2 (.c (.bool false)) .done))
 (.seq (.reg (tm 3 (.t 0) (tq 4 (.lenS (.t 3)) (tq 5 (.bin .gtr (.t 4) (.c (.int .i64 40))) (tm 2 (.t 5) .done)))))
 .ret))
theorem fc264 : fcomp Try.prog Try.f264 = some (c264.erase, [.mov (.t 2)], 6) := by kernel_rfl
def impl_areShort_1 (t_1 : Str) : Option Bool :=
    some (decide ((t_1.length : Int) > 40))
theorem w_impl_areShort_1 (t_1 : Str) (r : Bool) (hf : impl_areShort_1 t_1 = some r) : CallOK Try.prog 264 .flat [(.str t_1)] (.bool r) := by
  refine CallOK.of_awp mixed Try.func264 fc264 nle ?_
  rw [argT_eq]
  unfold impl_areShort_1 at hf
  unfold c264
  refine (show awp Try.prog false 0 _ (ofL [(0, (.str t_1))]) [] _ from ?_)
  refine awp_seq ?_
  refine w_reg ?_
  refine s_do (o_mov (.bool false) rfl) ?_
  refine w_done ?_
  refine k_seq ?_
  refine awp_seq ?_
  refine w_reg ?_
  refine s_do (o_mov (.str t_1) rfl) ?_
  refine s_dof (o_lenS rfl) fun hl2 => ?_
  refine s_do (o_q (.bool (decide ((t_1.length : Int) > 40))) rfl rfl rfl) ?_
  refine s_do (o_mov (.bool (decide ((t_1.length : Int) > 40))) rfl) ?_
  refine w_done ?_
  refine k_seq ?_
  refine w_ret ?_
  obtain rfl := os hf
  exact r_flat ⟨trivial, trivial⟩ rfl (.refl _)

/- impl.areShort -/
def c221 : ACode :=
 (.seq (.reg (tm 2 (.c (.bool false)) .done))
 (.seq (.reg (tm 3 (.t 0) (tq 4 (.call 263 [(.t 3), (.c (.fn 264 []))]) (tq 5 (.not (.t 4)) (tm 2 (.t 5) .done)))))
 .ret))
theorem fc221 : fcomp Try.prog Try.f221 = some (c221.erase, [.mov (.t 2)], 6) := by kernel_rfl
def impl_areShort (list_1 : (List Str)) : Option Bool :=
    (slices_ContainsFunc_string_string list_1 impl_areShort_1).bind fun r_2 =>
    some (!r_2)
theorem w_impl_areShort (list_1 : (List Str)) (r : Bool) (hf : impl_areShort list_1 = some r) : CallOK Try.prog 221 .flat [(.lst 1 (list_1.map AV.str))] (.bool r) := by
  refine CallOK.of_awp mixed Try.func221 fc221 nle ?_
  rw [argT_eq]
  unfold impl_areShort at hf
  unfold c221
  refine (show awp Try.prog false 0 _ (ofL [(0, (.lst 1 (list_1.map AV.str)))]) [] _ from ?_)
  refine awp_seq ?_
  refine w_reg ?_
  refine s_do (o_mov (.bool false) rfl) ?_
  refine w_done ?_
  refine k_seq ?_
  refine awp_seq ?_
  refine w_reg ?_
  obtain ⟨r_2, er3, hf⟩ := ob hf
  refine s_do (o_mov (.lst 1 (list_1.map AV.str)) rfl) ?_
  refine s_do (o_call (w_slices_ContainsFunc_string_string _ _ _ er3 264 [] (by kernel_rfl) (fun _ _ => rfl) (fun _ => rfl) (fun a0 r h => w_impl_areShort_1 a0 r h)) rfl (.refl _) rfl) ?_
  refine s_do (o_q (.bool (!r_2)) rfl trivial rfl) ?_
  refine s_do (o_mov (.bool (!r_2)) rfl) ?_
  refine w_done ?_
  refine k_seq ?_
  refine w_ret ?_
  obtain rfl := os hf
  exact r_flat ⟨trivial, trivial⟩ rfl (.refl _)

/- impl.mutOK -/
def c147 : ACode :=
 (.seq (.reg (tq 1 (.box 3 (.t 0)) (tm 2 (.c (.bool false)) .done)))
 (.seq (.reg (tq 3 (.faddr 1 (.t 1)) (tq 4 (.load 1 false (.t 3)) (tq 5 (.call 106 [(.t 4), (.c (.int .i64 1)), (.c (.int .i64 7))]) (tm 6 (.t 5) (tg 7 6 true (.faddr 2 (.t 1)) (tg 8 6 true (.load 1 false (.t 7)) (tg 9 6 true (.call 85 [(.t 8)]) (tq 10 (.pick (.t 6) (.t 9) (.c (.bool false))) (tm 11 (.t 10) (tg 12 11 true (.faddr 0 (.t 1)) (tg 13 11 true (.load 1 false (.t 12)) (tg 14 11 true (.bslice 1 [(.t 13)]) (tg 15 11 true (.call 221 [(.t 14)]) (tq 16 (.pick (.t 11) (.t 15) (.c (.bool false))) (tm 2 (.t 16) .done))))))))))))))))
 .ret))
theorem fc147 : fcomp Try.prog Try.f147 = some (c147.erase, [.mov (.t 2)], 17) := by kernel_rfl
def impl_mutOK (m_1 : GMut) : Option Bool :=
    (impl_within m_1.Func 1 7).bind fun r_2 =>
    if r_2 then
    (impl_DatumOK m_1.Value).bind fun r_5 =>
    if r_5 then
    (impl_areShort [m_1.Column]).bind fun r_8 =>
    some r_8
    else
    some false
    else
    some false
theorem w_impl_mutOK (m_1 : GMut) (r : Bool) (hf : impl_mutOK m_1 = some r) : CallOK Try.prog 147 .flat [(encGMut m_1)] (.bool r) := by
 refine CallOK.of_awp mixed Try.func147 fc147 nle ?_; rw [argT_eq]; unfold impl_mutOK at hf; unfold c147; refine (show awp Try.prog false 0 _ (ofL [(0, (encGMut m_1))]) [] _ from ?_); refine awp_seq <| w_reg <| s_do (o_box (j := 0) (c := (.agg [(.str m_1.Column), (.int .i64 m_1.Func), (.lst 3 (m_1.Value.map encGAtom))])) rfl trivial rfl rfl) <| s_mov (.bool false) rfl <| w_done <| k_seq <| awp_seq <| w_reg <| s_q (.ptr 0 0 1) rfl trivial rfl <| s_q (.int .i64 m_1.Func) rfl nle rfl <| ?_
 obtain ⟨r_2, er3, hf⟩ := ob hf
 refine s_do (o_call (w_impl_within _ _ _ _ er3) rfl (.refl _) rfl) <| s_mov (.bool r_2) rfl <| ?_
 rcases oi hf with ⟨c4, hf⟩ | ⟨c4, hf⟩
 ·refine s_lit (s := 6) (b := true) rfl c4 <| s_on rfl <| s_q (.ptr 0 0 2) rfl trivial rfl <| s_on rfl <| s_q (.lst 3 (m_1.Value.map encGAtom)) rfl nle rfl <| s_on rfl <| ?_
  obtain ⟨r_5, er6, hf⟩ := ob hf
  refine s_do (o_call (w_impl_DatumOK _ _ er6) rfl (.refl _) rfl) <| s_q (.bool r_5) rfl trivial rfl <| s_mov (.bool r_5) rfl <| ?_
  rcases oi hf with ⟨c7, hf⟩ | ⟨c7, hf⟩
  ·refine s_lit (s := 11) (b := true) rfl c7 <| s_on rfl <| s_q (.ptr 0 0 0) rfl trivial rfl <| s_on rfl <| s_q (.str m_1.Column) rfl nle rfl <| s_on rfl <| ?_; refine s_do (o_bslice (j := 1) (as' := [(.str m_1.Column)]) rfl (fun _ => by decide) ⟨rfl, trivial⟩ (.refl _) rfl rfl rfl) ?_; refine s_on rfl ?_
   obtain ⟨r_8, er9, hf⟩ := ob hf
   refine s_do (o_call (w_impl_areShort _ _ er9) rfl (.cons (.of_eq (congrArg (AV.lst _) (by rfl))) .nil) rfl) <| s_q (.bool r_8) rfl trivial rfl <| s_mov (.bool r_8) rfl <| w_done <| k_seq <| w_ret <| ?_; obtain rfl := os hf; exact r_flat ⟨trivial, trivial⟩ rfl (.refl _)
  ·refine s_lit (s := 11) (b := false) rfl (bf c7) <| s_off rfl rfl <| s_off rfl rfl <| s_off rfl rfl <| s_off rfl rfl <| s_q (.bool false) rfl trivial rfl <| s_mov (.bool false) rfl <| w_done <| k_seq <| w_ret <| ?_; obtain rfl := os hf; exact r_flat ⟨trivial, trivial⟩ rfl (.refl _)
 ·refine s_lit (s := 6) (b := false) rfl (bf c4) <| s_off rfl rfl <| s_off rfl rfl <| s_off rfl rfl <| s_q (.bool false) rfl trivial rfl <| s_mov (.bool false) rfl <| s_off rfl rfl <| s_off rfl rfl <| s_off rfl rfl <| s_off rfl rfl <| s_q (.bool false) rfl trivial rfl <| s_mov (.bool false) rfl <| w_done <| k_seq <| w_ret <| ?_; obtain rfl := os hf; exact r_flat ⟨trivial, trivial⟩ rfl (.refl _)

end Go.R
